/- From the print's words to the abstract machine's: what comes in, what goes out. No condition. -/
import Derived.Test.YtfcgofffalmdfaaDoorEngC
import Derived.Test.YtfcgofffalmdfaaDoorWMore
import Derived.Test.YtfcgofffalmdfaaDoorWShare
import Derived.Test.YtfcgofffalmdfaaDoorLoops
import Derived.Test.YtfcgofffalmdfaaDoorRead
import Derived.Test.YtfcgofffalmdfaaDoorRun
section
set_option linter.unusedSimpArgs false
set_option linter.unusedVariables false
namespace Go.Eng
open Go.RowKit Go.Proofs.YtfcgofffalmdfaaDoorW.PrintWords Go.Proofs.YtfcgofffalmdfaaDoorW.PrintMore
/-- Nothing is ours; what lies there is not written. -/
def E0 (w : World) : Env := ⟨fun _ => none, fun b => b < w.heap.size⟩
theorem rel0 (w : World) : Rel (E0 w) ⟨.e, 0⟩ w :=
  ⟨fun i L h => (by cases h), fun b h => h, fun i o h => (by simp [AHeap.get, Tr.get] at h), fun i j o o' L L' h => (by simp [AHeap.get, Tr.get] at h)⟩
theorem below0 {w w' : World} {E' : Env} {H' : AHeap} (h : Step (E0 w) ⟨.e, 0⟩ w E' H' w') : Below w.heap.size w w' :=
  ⟨h.fr.os, h.fr.tape, h.fr.output, h.fr.size, fun k hk => h.fr.block k hk (fun i o L hg => (by simp [AHeap.get, Tr.get] at hg))⟩
theorem cell_block {w : World} {a : Addr} {v : Value} (h : w.cell? a = some v) : a.spot = none ∧ a.block < w.heap.size := by
  unfold World.cell? at h
  split at h
  · rename_i c t f hb
    split at h
    · cases h
    · rename_i hs
      refine ⟨by simpa using hs, ?_⟩
      rcases Nat.lt_or_ge a.block w.heap.size with q | q
      · exact q
      · rw [Array.getElem?_eq_none q] at hb; cases hb
  · cases h
theorem rows_cells {α : Type} {K : α → List Value → Prop} {sz : Nat} {enc : α → List AV} {E : Env} {w : World} {b : Nat} (hd : ∀ x cs, K x cs → AVRelL E w (enc x) cs) : ∀ (xs : List α) (s : Nat),
    (∀ (j : Nat) (p : α), xs[j]? = some p → ∃ c : List Value, c.length = sz ∧ K p c ∧ ∀ (i : Nat) (u : Value), c[i]? = some u → w.cell? ⟨b, s + (j * sz + i), none⟩ = some u) →
    ∃ us : List Value, (∀ (j : Nat) (u : Value), us[j]? = some u → w.cell? ⟨b, s + j, none⟩ = some u) ∧ AVRelL E w (xs.map enc).flatten us
  | [], s, _ => ⟨[], fun j u h => by simp at h, by simp [AVRelL]⟩
  | x :: xs, s, h => by
    obtain ⟨c, hc1, hc2, hc3⟩ := h 0 x rfl
    obtain ⟨us, h1, h2⟩ := rows_cells hd xs (s + sz) (fun j p hp => by
      obtain ⟨c', q1, q2, q3⟩ := h (j + 1) p (by simpa using hp)
      refine ⟨c', q1, q2, fun i u hu => ?_⟩
      rw [show s + sz + (j * sz + i) = s + ((j + 1) * sz + i) by rw [Nat.add_mul]; omega]
      exact q3 i u hu)
    refine ⟨c ++ us, fun j u hu => ?_, ?_⟩
    · by_cases hj : j < c.length
      · rw [List.getElem?_append_left hj] at hu
        have := hc3 j u hu
        simpa using this
      · rw [List.getElem?_append_right (by omega)] at hu
        have := h1 _ u hu
        rw [show s + j = s + sz + (j - c.length) by omega]
        exact this
    · rw [List.map_cons, List.flatten_cons]
      exact (hd x c hc2).append h2
/-- A row that is read: its cells, one element behind the other. -/
theorem av_of_C {α : Type} {d : Kd α} {enc : α → List AV} {w : World} (hz : 0 < d.sz) (hd : ∀ x cs, d.K w x cs → AVRelL (E0 w) w (enc x) cs) {A : Option Addr} {xs : List α} {c : Nat} (h : Kd.C d w A xs.length xs) (hc : xs.length ≤ c) :
    AVRel (E0 w) w (.imm (xs.map enc).flatten xs.length false) (.slice A xs.length c) := by
  simp only [AVRel]
  cases hx : xs with
  | nil => exact .inl ⟨rfl, rfl, A, c, rfl, fun q => by cases q⟩
  | cons x0 r =>
    rw [← hx]
    right
    obtain ⟨_, _, hcell⟩ := h
    obtain ⟨ad, rfl, hcl⟩ := hcell (by rw [hx]; simp)
    obtain ⟨c0, q1, q2, q3⟩ := hcl 0 x0 (by rw [hx]; rfl)
    have hb : ad.spot = none ∧ ad.block < w.heap.size := by
      have h0 : c0[0]? = some (c0[0]'(by omega)) := List.getElem?_eq_getElem (by omega)
      have := cell_block (q3 0 _ h0)
      simpa [Addr.add] using this
    obtain ⟨b, s, sp⟩ := ad
    simp only at hb
    obtain ⟨rfl, hlt⟩ := hb
    obtain ⟨us, h1, h2⟩ := rows_cells (E := E0 w) (w := w) (b := b) (sz := d.sz) hd xs s (fun j p hp => by
      obtain ⟨cc, r1, r2, r3⟩ := hcl j p hp
      exact ⟨cc, r1, r2, fun i u hu => by have := r3 i u hu; rw [add_plain] at this; exact this⟩)
    exact ⟨b, s, c, us, rfl, hlt, h1, h2, hc, fun q => by cases q⟩
end Go.Eng
end
section
set_option linter.unusedSimpArgs false
set_option linter.unusedVariables false
namespace Go.Proofs.YtfcgofffalmdfaaDoor.PA
open Go Go.Eng Go.RowKit Go.Proofs.YtfcgofffalmdfaaDoorW.PrintWords Go.Proofs.YtfcgofffalmdfaaDoorW.PrintLast Go.Proofs.YtfcgofffalmdfaaDoorW.PrintMore
def enc31 (x : S31) : List AV := [.int .i64 x.f0, .int .i64 x.f1]
theorem enc31_rel {E : Env} {w w' : World} (x : S31) (cs : List Value) (h : k31.K w' x cs) : AVRelL E w (enc31 x) cs := by
  obtain rfl := k31_open h
  simp only [enc31, AVRelL, AVRel]
  exact ⟨_, _, rfl, rfl, _, _, rfl, rfl, rfl⟩
end Go.Proofs.YtfcgofffalmdfaaDoor.PA
end
section
set_option linter.unusedSimpArgs false
set_option linter.unusedVariables false
namespace Go.Proofs.YtfcgofffalmdfaaDoor.PA
open Go Go.Eng Go.RowKit Go.Proofs.YtfcgofffalmdfaaDoorW.PrintWords Go.Proofs.YtfcgofffalmdfaaDoorW.PrintLast Go.Proofs.YtfcgofffalmdfaaDoorW.PrintMore
def fromS (x : S31) : Int × Int := (x.f0, x.f1)
theorem enc_flat2 (l : List S31) : (l.map enc31).flatten = encPairs (l.map fromS) := by
  induction l with
  | nil => rfl
  | cons p l ih => simp only [List.map_cons, List.flatten_cons, ih, encPairs]; rfl
def rope_Is.f (a0 : ByteArray) (l1 : List S31) (a2 : Int) (a3 : ByteArray) : Option (Bool × Int) :=
  if a3.data.toList.length ≤ 1000 then some (IsV a0.data.toList (l1.map fromS) a2 a3.data.toList) else none
theorem rope_Is.calls (a0 : ByteArray) (A1 : Option Addr) (c1 : Nat) (l1 : List S31) (a2 : Int) (a3 : ByteArray) (r1 : Bool) (r2 : Int) (w : World) (hr1 : Kd.C k31 w A1 l1.length l1) (hc1 : l1.length ≤ c1) (h : rope_Is.f a0 l1 a2 a3 = some (r1, r2)) :
    Calls Tryd.prog 12 #[.string a0, .slice A1 l1.length c1, .int .i64 a2, .string a3] w fun e w' => e = .returned (.tuple #[.bool r1, .int .i64 r2]) ∧ Below w.heap.size w w' := by
  unfold rope_Is.f at h
  split at h
  · rename_i hlen
    have ha : AVRel (E0 w) w (.imm (encPairs (l1.map fromS)) (l1.map fromS).length false) (.slice A1 l1.length c1) := by
      rw [List.length_map, ← enc_flat2]
      exact av_of_C (enc := enc31) (by show 0 < 2; omega) (fun x cs h => enc31_rel x cs h) hr1 hc1
    obtain ⟨v, H', hx, rfl⟩ := Is_top a0.data.toList (l1.map fromS) a2 a3.data.toList hlen
    refine ((K0_ok 43 _ _ _ _ _ hx).2 (E0 w) w [.string a0, .slice A1 l1.length c1, .int .i64 a2, .string a3] (rel0 w) ?_).mono ?_
    · simp only [AVRelL]
      refine ⟨_, _, rfl, by simp only [AVRel]; exact ⟨_, rfl, rfl⟩, _, _, rfl, ha, _, _, rfl, by simp only [AVRel], _, _, rfl, by simp only [AVRel]; exact ⟨_, rfl, rfl⟩, rfl⟩
    · rintro e w' ⟨u, E', rfl, hs, hv⟩
      refine ⟨?_, below0 hs⟩
      simp only [AVRel, AVRelL] at hv
      obtain ⟨us, rfl, _, us1, h1, rfl, _, us2, rfl, rfl, rfl⟩ := hv
      have h2 := Option.some.inj h
      rw [h2] at h1
      rw [show us = #[.bool r1, .int .i64 r2] from Array.toList_inj.1 h1]
  · cases h
end Go.Proofs.YtfcgofffalmdfaaDoor.PA
end
section
namespace Go.Proofs.YtfcgofffalmdfaaDoor.PA
open Go Go.Eng Go.RowKit Go.Proofs.YtfcgofffalmdfaaDoorW.PrintWords Go.Proofs.YtfcgofffalmdfaaDoorW.PrintLast Go.Proofs.YtfcgofffalmdfaaDoorW.PrintMore
def wogglelaw03_lives.f : Option Bool := some true
theorem wogglelaw03_lives.calls (r : Bool) (w : World) (h : wogglelaw03_lives.f = some r) : Calls Tryd.prog 9 #[] w fun e w' => e = .returned (.bool r) ∧ Below w.heap.size w w' := by
  cases h
  obtain ⟨H', hx⟩ := runLives
  refine ((xcall_sound (by kernel_rfl) F_ok 2000 50 _ _ _ _ _ hx).2 (E0 w) w [] (rel0 w) (by simp [AVRelL])).mono ?_
  rintro e w' ⟨u, E', rfl, hs, hv⟩
  simp only [AVRel] at hv
  subst hv
  exact ⟨rfl, below0 hs⟩
end Go.Proofs.YtfcgofffalmdfaaDoor.PA
end
