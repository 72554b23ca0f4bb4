/- From the print's words to the abstract machine's: what comes in, what goes out. No condition. -/
import Derived.Test.YtfcgofffalmdfaaDoorEngC
import Derived.Test.YtfcgofffalmdfaaDoorWMore
import Derived.Test.YtfcgofffalmdfaaDoorWShare
import Derived.Test.YtfcgofffalmdfaaDoorLoops
import Derived.Test.YtfcgofffalmdfaaDoorRun
section
set_option linter.unusedSimpArgs false
set_option linter.unusedVariables false
namespace Go.Eng
open Go.RowKit Go.Proofs.YtfcgofffalmdfaaDoorW.PrintWords Go.Proofs.YtfcgofffalmdfaaDoorW.PrintMore

/-- Nothing is ours; what lies there is not written. -/
def E0 (w : World) : Env := ⟨fun _ => none, fun b => b < w.heap.size⟩

theorem rel0 (w : World) : Rel (E0 w) ⟨.e, 0⟩ w :=
  ⟨fun i L h => (by cases h), fun b h => h, fun i o h => (by simp [AHeap.get, Tr.get] at h), fun i j o o' L L' h => (by simp [AHeap.get, Tr.get] at h)⟩

theorem below0 {w w' : World} {E' : Env} {H' : AHeap} (h : Step (E0 w) ⟨.e, 0⟩ w E' H' w') : Below w.heap.size w w' :=
  ⟨h.fr.os, h.fr.tape, h.fr.output, h.fr.size, fun k hk => h.fr.block k hk (fun i o L hg => (by simp [AHeap.get, Tr.get] at hg))⟩

theorem cell_block {w : World} {a : Addr} {v : Value} (h : w.cell? a = some v) : a.spot = none ∧ a.block < w.heap.size := by
  unfold World.cell? at h
  split at h
  · rename_i c t f hb
    split at h
    · cases h
    · rename_i hs
      refine ⟨by simpa using hs, ?_⟩
      rcases Nat.lt_or_ge a.block w.heap.size with q | q
      · exact q
      · rw [Array.getElem?_eq_none q] at hb; cases hb
  · cases h
theorem rows_cells {α : Type} {K : α → List Value → Prop} {sz : Nat} {enc : α → List AV} {E : Env} {w : World} {b : Nat} (hd : ∀ x cs, K x cs → AVRelL E w (enc x) cs) : ∀ (xs : List α) (s : Nat),
    (∀ (j : Nat) (p : α), xs[j]? = some p → ∃ c : List Value, c.length = sz ∧ K p c ∧ ∀ (i : Nat) (u : Value), c[i]? = some u → w.cell? ⟨b, s + (j * sz + i), none⟩ = some u) →
    ∃ us : List Value, (∀ (j : Nat) (u : Value), us[j]? = some u → w.cell? ⟨b, s + j, none⟩ = some u) ∧ AVRelL E w (xs.map enc).flatten us
  | [], s, _ => ⟨[], fun j u h => by simp at h, by simp [AVRelL]⟩
  | x :: xs, s, h => by
    obtain ⟨c, hc1, hc2, hc3⟩ := h 0 x rfl
    obtain ⟨us, h1, h2⟩ := rows_cells hd xs (s + sz) (fun j p hp => by
      obtain ⟨c', q1, q2, q3⟩ := h (j + 1) p (by simpa using hp)
      refine ⟨c', q1, q2, fun i u hu => ?_⟩
      rw [show s + sz + (j * sz + i) = s + ((j + 1) * sz + i) by rw [Nat.add_mul]; omega]
      exact q3 i u hu)
    refine ⟨c ++ us, fun j u hu => ?_, ?_⟩
    · by_cases hj : j < c.length
      · rw [List.getElem?_append_left hj] at hu
        have := hc3 j u hu
        simpa using this
      · rw [List.getElem?_append_right (by omega)] at hu
        have := h1 _ u hu
        rw [show s + j = s + sz + (j - c.length) by omega]
        exact this
    · rw [List.map_cons, List.flatten_cons]
      exact (hd x c hc2).append h2

/-- A row that is read: its cells, one element behind the other. -/
theorem av_of_C {α : Type} {d : Kd α} {enc : α → List AV} {w : World} (hz : 0 < d.sz) (hd : ∀ x cs, d.K w x cs → AVRelL (E0 w) w (enc x) cs) {A : Option Addr} {xs : List α} {c : Nat} (h : Kd.C d w A xs.length xs) (hc : xs.length ≤ c) :
    AVRel (E0 w) w (.imm (xs.map enc).flatten xs.length false) (.slice A xs.length c) := by
  simp only [AVRel]
  cases hx : xs with
  | nil => exact .inl ⟨rfl, rfl, A, c, rfl, fun q => by cases q⟩
  | cons x0 r =>
    rw [← hx]
    right
    obtain ⟨_, _, hcell⟩ := h
    obtain ⟨ad, rfl, hcl⟩ := hcell (by rw [hx]; simp)
    obtain ⟨c0, q1, q2, q3⟩ := hcl 0 x0 (by rw [hx]; rfl)
    have hb : ad.spot = none ∧ ad.block < w.heap.size := by
      have h0 : c0[0]? = some (c0[0]'(by omega)) := List.getElem?_eq_getElem (by omega)
      have := cell_block (q3 0 _ h0)
      simpa [Addr.add] using this
    obtain ⟨b, s, sp⟩ := ad
    simp only at hb
    obtain ⟨rfl, hlt⟩ := hb
    obtain ⟨us, h1, h2⟩ := rows_cells (E := E0 w) (w := w) (b := b) (sz := d.sz) hd xs s (fun j p hp => by
      obtain ⟨cc, r1, r2, r3⟩ := hcl j p hp
      exact ⟨cc, r1, r2, fun i u hu => by have := r3 i u hu; rw [add_plain] at this; exact this⟩)
    exact ⟨b, s, c, us, rfl, hlt, h1, h2, hc, fun q => by cases q⟩

/-- What a call has made lies behind what was there. -/
theorem new_blocks {w w' : World} {E' : Env} {H' : AHeap} (h : Step (E0 w) ⟨.e, 0⟩ w E' H' w') {i : Nat} {o : AObj} {L : Loc} (hg : H'.get i = some o) (hρ : E'.ρ i = some L) : w.heap.size ≤ L.b := by
  rcases h.nb i o L hg hρ with q | ⟨j, o', L', q, _⟩
  · exact q
  · simp [AHeap.get, Tr.get] at q

/-- A slice that a call has made, told as one that is only read. -/
theorem V_out {α : Type} {d : Kd α} {e : Nat} {w w' : World} {E' : Env} {H' : AHeap} (hs : Step (E0 w) ⟨.e, 0⟩ w E' H' w') {i o l c : Nat} {ces : List AV} {opn : Option Nat} {u : Value} {xs : List α} (hv : AVRel E' w' (.sl i o l c) u)
    (hg : H'.get i = some (.cells ces opn)) (hl : xs.length = l) (hb : l < 2 ^ 62)
    (hel : ∀ (j : Nat) (x : α), xs[j]? = some x → ((ces.drop (o + j * d.sz)).take d.sz).length = d.sz ∧ ∀ cs, AVRelL E' w' ((ces.drop (o + j * d.sz)).take d.sz) cs → Foot (fun W => d.K W x cs) w' (fun k => w.heap.size ≤ k)) :
    Kd.V d e w' w.heap.size (fun k => w.heap.size ≤ k) u xs := by
  subst hl
  obtain ⟨L, a, c', C, t, fz, us, hρ, rfl, hsl, hlc, hblk, hr, hcell, _⟩ := row_sound hs.rel hv hg
  have hnb := new_blocks hs hg hρ
  have hlt := (hs.rel.dom i L hρ).2
  refine ⟨some a, c', rfl, hlc, fun W' hW => ⟨rfl, by omega, fun hpos => ⟨a, rfl, fun j p hp => ?_⟩⟩⟩
  obtain rfl := hsl.addr hlc (by omega)
  obtain ⟨e1, e2⟩ := hel j p hp
  have hrel := (hr.drop (o + j * d.sz)).take d.sz
  refine ⟨(us.drop (o + j * d.sz)).take d.sz, by rw [hrel.length]; exact e1, e2 _ hrel W' hW, fun k v hk => ?_⟩
  rw [List.getElem?_take] at hk
  split at hk
  · rw [List.getElem?_drop] at hk
    have h1 := hcell _ v hk
    rw [add_plain]
    simp only [World.cell?, hW L.b hnb hlt, hblk, Option.isSome_none, Bool.false_eq_true, if_false]
    rw [show L.s + o + (j * d.sz + k) = L.s + (o + j * d.sz + k) by omega]
    exact h1
  · cases hk

end Go.Eng
end
section
set_option linter.unusedSimpArgs false
set_option linter.unusedVariables false
namespace Go.Proofs.YtfcgofffalmdfaaDoor.PA
open Go Go.Eng Go.RowKit Go.Proofs.YtfcgofffalmdfaaDoorW.PrintWords Go.Proofs.YtfcgofffalmdfaaDoorW.PrintLast Go.Proofs.YtfcgofffalmdfaaDoorW.PrintMore

def toS (p : Int × Int) : S31 := ⟨p.1, p.2⟩
def enc31 (x : S31) : List AV := [.int .i64 x.f0, .int .i64 x.f1]
theorem enc31_rel {E : Env} {w w' : World} (x : S31) (cs : List Value) (h : k31.K w' x cs) : AVRelL E w (enc31 x) cs := by
  obtain rfl := k31_open h
  simp only [enc31, AVRelL, AVRel]
  exact ⟨_, _, rfl, rfl, _, _, rfl, rfl, rfl⟩

/-! ### rope.Loops -/
def rope_Loops.f (a0 : ByteArray) : Option (List S31 × Int × Int) :=
  some (if 40 < a0.data.toList.length then ([], 0, 3) else
    match scanL a0.data.toList 0 [] [] 0 with
    | some ([], out, d) => ((sortP (out.map castP)).map toS, (d : Int), 0)
    | _ => ([], 0, 2))

theorem enc_flat (l : List (Int × Int)) : ((l.map toS).map enc31).flatten = encPairs l := by
  induction l with
  | nil => rfl
  | cons p l ih => simp only [List.map_cons, List.flatten_cons, ih, encPairs]; rfl

theorem V_row {w w' : World} {E' : Env} {H' : AHeap} (hs : Step (E0 w) ⟨.e, 0⟩ w E' H' w') {v5 : AV} {u : Value} {l : List (Int × Int)} (hv : AVRel E' w' v5 u) (hR : Row 2 H' v5 l.length (encPairs l)) (hb : l.length < 2 ^ 62) :
    Kd.V k31 31 w' w.heap.size (fun k_ => w.heap.size ≤ k_) u (l.map toS) := by
  obtain ⟨hcl, ⟨rfl, h0⟩ | ⟨i, full, rfl, hg, hf, hfl, hi⟩⟩ := hR
  · have : l = [] := List.eq_nil_of_length_eq_zero h0
    subst this
    simp only [AVRel] at hv
    subst hv
    exact Kd.V_nil _ _ _ _ _
  · refine V_out hs hv hg (by simp) hb (fun j x hx => ?_)
    have hsz : k31.sz = 2 := rfl
    rw [List.getElem?_map, Option.map_eq_some_iff] at hx
    obtain ⟨p, hp, rfl⟩ := hx
    have hj : j < l.length := by
      rcases Nat.lt_or_ge j l.length with q | q
      · exact q
      · rw [List.getElem?_eq_none q] at hp; cases hp
    have hcell : ((full.drop (0 + j * k31.sz)).take k31.sz) = [.int .i64 p.1, .int .i64 p.2] := by
      rw [hsz, Nat.zero_add]
      have e1 : (full.drop (j * 2)).take 2 = ((encPairs l).drop (j * 2)).take 2 := by
        rw [← hf, List.drop_take, List.take_take, Nat.min_eq_left (by omega)]
      have e2 : ∀ (l : List (Int × Int)) (j : Nat) (p : Int × Int), l[j]? = some p → ((encPairs l).drop (j * 2)).take 2 = [.int .i64 p.1, .int .i64 p.2] := by
        intro l
        induction l with
        | nil => intro j p h; cases h
        | cons q l ih =>
          intro j p h
          cases j with
          | zero => simp at h; subst h; rfl
          | succ j =>
            rw [show (j + 1) * 2 = j * 2 + 2 by omega]
            exact ih j p (by simpa using h)
      rw [e1, e2 l j p hp]
    refine ⟨by rw [hcell]; rfl, fun cs hcs => ?_⟩
    rw [hcell] at hcs
    simp only [AVRelL, AVRel] at hcs
    obtain ⟨_, _, rfl, rfl, _, _, rfl, rfl, rfl⟩ := hcs
    exact k31_mkF w' _ (toS p)

theorem rope_Loops.calls (a0 : ByteArray) (r1 : List S31) (r2 : Int) (r3 : Int) (w : World) (h : rope_Loops.f a0 = some (r1, r2, r3)) :
    Calls Tryd.prog 7 #[.string a0] w fun e w' => ∃ v0_ : Value, e = .returned (.tuple #[v0_, .int .i64 r2, .int .i64 r3]) ∧
      Kd.V k31 31 w' w.heap.size (fun k_ => w.heap.size ≤ k_) v0_ r1 ∧ Below w.heap.size w w' := by
  obtain ⟨v, H', hx, q⟩ := Loops_top a0.data.toList
  refine ((K0_ok 42 _ _ _ _ _ hx).2 (E0 w) w [.string a0] (rel0 w) (by simp only [AVRelL, AVRel]; exact ⟨_, _, rfl, ⟨_, rfl, rfl⟩, rfl⟩)).mono ?_
  rintro e w' ⟨u, E', rfl, hs, hv⟩
  have hb := below0 hs
  have fin : ∀ (v5 : AV) (l : List (Int × Int)) (n m : Int), v = .tup [v5, .int .i64 n, .int .i64 m] → Row 2 H' v5 l.length (encPairs l) → l.length < 2 ^ 62 → r1 = l.map toS → r2 = n → r3 = m →
      ∃ v0_ : Value, Ending.returned u = .returned (.tuple #[v0_, .int .i64 r2, .int .i64 r3]) ∧ Kd.V k31 31 w' w.heap.size (fun k_ => w.heap.size ≤ k_) v0_ r1 ∧ Below w.heap.size w w' := by
    rintro v5 l n m rfl hR hl rfl rfl rfl
    simp only [AVRel] at hv
    obtain ⟨us, rfl, hus⟩ := hv
    simp only [AVRelL, AVRel] at hus
    obtain ⟨u5, us1, h1, h2, _, us2, rfl, rfl, _, us3, rfl, rfl, rfl⟩ := hus
    refine ⟨u5, ?_, V_row hs h2 hR hl, hb⟩
    rw [show us = #[u5, .int .i64 r2, .int .i64 r3] from Array.toList_inj.1 h1]
  unfold rope_Loops.f at h
  unfold LoopsV at q
  simp only [Option.some.injEq] at h
  by_cases h40 : 40 < a0.data.toList.length
  · rw [if_pos h40] at h q
    cases h
    exact fin .nils [] 0 3 q (Row.nil _ _) (by simp) rfl rfl rfl
  · rw [if_neg h40] at h q
    cases hsc : scanL a0.data.toList 0 [] [] 0 with
    | none =>
      rw [hsc] at h q
      cases h
      exact fin .nils [] 0 2 q (Row.nil _ _) (by simp) rfl rfl rfl
    | some x =>
      obtain ⟨op, out, d⟩ := x
      rw [hsc] at h q
      cases op with
      | nil =>
        simp only at h q
        cases h
        obtain ⟨v5, rfl, hR⟩ := q
        have hl : (sortP (out.map castP)).length = out.length := by rw [(sortP_perm _).length_eq, List.length_map]
        have hlen : ∀ (r : List UInt8) (i : Nat) (op : List Nat) (out : List (Nat × Nat)) (d : Nat) (x : List Nat × List (Nat × Nat) × Nat), scanL r i op out d = some x → x.2.1.length ≤ out.length + r.length := by
          intro r
          induction r with
          | nil => intro i op out d x h; simp only [scanL, Option.some.injEq] at h; subst h; simp
          | cons b r ih =>
            intro i op out d x h
            simp only [scanL] at h
            simp only [List.length_cons]
            split at h
            · have := ih _ _ _ _ _ h; omega
            · split at h
              · split at h
                · cases h
                · have := ih _ _ _ _ _ h
                  simp only [List.length_append, List.length_cons, List.length_nil] at this
                  omega
              · split at h
                · have := ih _ _ _ _ _ h; omega
                · cases h
        have := hlen _ _ _ _ _ _ hsc
        simp only [List.length_nil] at this
        exact fin v5 (sortP (out.map castP)) d 0 rfl (by rw [hl]; exact hR) (by rw [hl]; omega) rfl rfl rfl
      | cons a op =>
        simp only at h q
        cases h
        exact fin .nils [] 0 2 q (Row.nil _ _) (by simp) rfl rfl rfl
end Go.Proofs.YtfcgofffalmdfaaDoor.PA
end
section
set_option linter.unusedSimpArgs false
set_option linter.unusedVariables false
namespace Go.Proofs.YtfcgofffalmdfaaDoor.PA
open Go Go.Eng Go.RowKit Go.Proofs.YtfcgofffalmdfaaDoorW.PrintWords Go.Proofs.YtfcgofffalmdfaaDoorW.PrintLast Go.Proofs.YtfcgofffalmdfaaDoorW.PrintMore

/-- The example's rope and rules. -/
def exIs (a0 : ByteArray) (l1 : List S31) (a2 : Int) : Prop := a0 = ⟨#[97, 97, 98, 98]⟩ ∧ l1.map (fun x => (x.f0, x.f1)) = [(0, 1)] ∧ a2 = 0
instance (a0 : ByteArray) (l1 : List S31) (a2 : Int) : Decidable (exIs a0 l1 a2) := inferInstanceAs (Decidable (_ ∧ _ ∧ _))
theorem exIs_l {l1 : List S31} (h : l1.map (fun x => (x.f0, x.f1)) = [(0, 1)]) : l1 = [⟨0, 1⟩] := by
  match l1, h with
  | [⟨a, b⟩], h =>
    simp only [List.map_cons, List.map_nil, List.cons.injEq, Prod.mk.injEq, and_true] at h
    rw [h.1, h.2]

def rope_First.f (a0 : ByteArray) (l1 : List S31) (a2 : Int) : Option (ByteArray × Int) := if exIs a0 l1 a2 then some (⟨#[40, 40, 41, 41]⟩, 0) else none
def rope_All.f (a0 : ByteArray) (l1 : List S31) (a2 : Int) : Option (ByteArray × Int) := if exIs a0 l1 a2 then some (⟨#[54]⟩, 0) else none
def rope_Rank.f (a0 : ByteArray) (l1 : List S31) (a2 : Int) (a3 : ByteArray) : Option (ByteArray × Int) := if exIs a0 l1 a2 ∧ a3 = ⟨#[46, 46, 46, 46]⟩ then some (⟨#[53]⟩, 0) else none

theorem closed_call {f : Nat} {r : List UInt8} {H' : AHeap} {rest : List AV} {vs : List Value} {A1 : Option Addr} {c1 : Nat} {w : World} {a0 : ByteArray} {a2 : Int} {l1 : List S31} (h0 : a0 = ⟨#[97, 97, 98, 98]⟩) (h1 : l1 = [⟨0, 1⟩]) (h2 : a2 = 0)
    (hr1 : Kd.C k31 w A1 l1.length l1) (hc1 : l1.length ≤ c1) (hrest : AVRelL (E0 w) w rest vs) (hx : xcall F 2000 40 f (.str [97, 97, 98, 98] :: .imm [.int .i64 0, .int .i64 1] 1 false :: .int .i64 0 :: rest) ⟨.e, 0⟩ = some (.tup [.str r, .int .i64 0], H')) :
    Calls Tryd.prog f (#[.string a0, .slice A1 l1.length c1, .int .i64 a2] ++ vs.toArray) w fun e w' => e = .returned (.tuple #[.string ⟨r.toArray⟩, .int .i64 0]) ∧ Below w.heap.size w w' := by
  subst h0 h1 h2
  have ha : AVRel (E0 w) w (.imm [.int .i64 0, .int .i64 1] 1 false) (.slice A1 [(⟨0, 1⟩ : S31)].length c1) := av_of_C (enc := enc31) (by show 0 < 2; omega) (fun x cs h => enc31_rel x cs h) hr1 hc1
  have := ((xcall_sound (by kernel_rfl) F_ok 2000 40 _ _ _ _ _ hx).2 (E0 w) w (.string ⟨#[97, 97, 98, 98]⟩ :: .slice A1 [(⟨0, 1⟩ : S31)].length c1 :: .int .i64 0 :: vs) (rel0 w) (by
    simp only [AVRelL]
    refine ⟨_, _, rfl, by simp only [AVRel]; exact ⟨_, rfl, rfl⟩, _, _, rfl, ha, _, _, rfl, by simp only [AVRel], hrest⟩)).mono (R' := fun e w' => e = .returned (.tuple #[.string ⟨r.toArray⟩, .int .i64 0]) ∧ Below w.heap.size w w') (by
    rintro e w' ⟨u, E', rfl, hs, hv⟩
    refine ⟨?_, below0 hs⟩
    simp only [AVRel, AVRelL] at hv
    obtain ⟨us, rfl, _, us1, h1, ⟨t, rfl, h2⟩, _, us2, rfl, rfl, rfl⟩ := hv
    rw [show us = #[.string t, .int .i64 0] from Array.toList_inj.1 h1]
    have : t = ⟨r.toArray⟩ := by cases t; simp at h2; subst h2; rfl
    rw [this])
  rw [show #[Value.string ⟨#[97, 97, 98, 98]⟩, Value.slice A1 [(⟨0, 1⟩ : S31)].length c1, Value.int .i64 0] ++ vs.toArray = (Value.string ⟨#[97, 97, 98, 98]⟩ :: Value.slice A1 [(⟨0, 1⟩ : S31)].length c1 :: Value.int .i64 0 :: vs).toArray by simp]
  exact this

theorem rope_First.calls (a0 : ByteArray) (A1 : Option Addr) (c1 : Nat) (l1 : List S31) (a2 : Int) (r1 : ByteArray) (r2 : Int) (w : World) (hr1 : Kd.C k31 w A1 l1.length l1) (hc1 : l1.length ≤ c1) (h : rope_First.f a0 l1 a2 = some (r1, r2)) :
    Calls Tryd.prog 17 #[.string a0, .slice A1 l1.length c1, .int .i64 a2] w fun e w' => e = .returned (.tuple #[.string r1, .int .i64 r2]) ∧ Below w.heap.size w w' := by
  unfold rope_First.f at h
  split at h
  · rename_i he
    cases h
    obtain ⟨H', hx⟩ := runFirst
    exact closed_call (rest := []) (vs := []) he.1 (exIs_l he.2.1) he.2.2 hr1 hc1 (by simp [AVRelL]) hx
  · cases h
theorem rope_All.calls (a0 : ByteArray) (A1 : Option Addr) (c1 : Nat) (l1 : List S31) (a2 : Int) (r1 : ByteArray) (r2 : Int) (w : World) (hr1 : Kd.C k31 w A1 l1.length l1) (hc1 : l1.length ≤ c1) (h : rope_All.f a0 l1 a2 = some (r1, r2)) :
    Calls Tryd.prog 22 #[.string a0, .slice A1 l1.length c1, .int .i64 a2] w fun e w' => e = .returned (.tuple #[.string r1, .int .i64 r2]) ∧ Below w.heap.size w w' := by
  unfold rope_All.f at h
  split at h
  · rename_i he
    cases h
    obtain ⟨H', hx⟩ := runAll
    exact closed_call (rest := []) (vs := []) he.1 (exIs_l he.2.1) he.2.2 hr1 hc1 (by simp [AVRelL]) hx
  · cases h
theorem rope_Rank.calls (a0 : ByteArray) (A1 : Option Addr) (c1 : Nat) (l1 : List S31) (a2 : Int) (a3 : ByteArray) (r1 : ByteArray) (r2 : Int) (w : World) (hr1 : Kd.C k31 w A1 l1.length l1) (hc1 : l1.length ≤ c1) (h : rope_Rank.f a0 l1 a2 a3 = some (r1, r2)) :
    Calls Tryd.prog 23 #[.string a0, .slice A1 l1.length c1, .int .i64 a2, .string a3] w fun e w' => e = .returned (.tuple #[.string r1, .int .i64 r2]) ∧ Below w.heap.size w w' := by
  unfold rope_Rank.f at h
  split at h
  · rename_i he
    cases h
    obtain ⟨H', hx⟩ := runRank
    refine closed_call (rest := [.str [46, 46, 46, 46]]) (vs := [.string a3]) he.1.1 (exIs_l he.1.2.1) he.1.2.2 hr1 hc1 ?_ hx
    simp only [AVRelL, AVRel]
    exact ⟨_, _, rfl, ⟨_, rfl, by rw [he.2]⟩, rfl⟩
  · cases h
end Go.Proofs.YtfcgofffalmdfaaDoor.PA
end
