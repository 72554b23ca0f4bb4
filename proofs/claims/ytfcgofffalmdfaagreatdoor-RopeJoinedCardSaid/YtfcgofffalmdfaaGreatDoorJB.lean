/- The abstract machine is sound, 7: what makes and writes memory: the frame. No condition. -/
import Derived.Test.YtfcgofffalmdfaaGreatDoorJA
import Derived.Laws.MakeOwn
set_option linter.unusedSectionVars false
set_option linter.unusedVariables false
set_option linter.unusedSimpArgs false
section
namespace Go.Eng
structure Step (E : Env) (H : AHeap) (w : World) (E' : Env) (H' : AHeap) (w' : World) : Prop where
  ext : Env.Ext E E' w w'
  rel : Rel E' H' w'
  fr : Fr E H w w'
  nb : ∀ i o L, H'.get i = some o → E'.ρ i = some L → w.heap.size ≤ L.b ∨ ∃ j o' L', H.get j = some o' ∧ E.ρ j = some L' ∧ L'.b = L.b
  nx : H.next ≤ H'.next
  ids : ∀ i L, E'.ρ i = some L → E.ρ i = some L ∨ H.next ≤ i
  imm : ∀ b, E'.I b → E.I b ∨ w.heap.size ≤ b ∨ ∃ j o L, H.get j = some o ∧ E.ρ j = some L ∧ L.b = b
theorem Step.refl {E : Env} {H : AHeap} {w : World} (h : Rel E H w) : Step E H w E H w :=
  ⟨Env.Ext.refl _ _, h, Fr.refl _ _ _, fun i o L hg hρ => .inr ⟨i, o, L, hg, hρ, rfl⟩, Nat.le_refl _, fun _ _ h => .inl h, fun _ h => .inl h⟩
theorem Step.trans {E1 E2 E3 : Env} {H1 H2 H3 : AHeap} {w1 w2 w3 : World} (a : Step E1 H1 w1 E2 H2 w2) (b : Step E2 H2 w2 E3 H3 w3) : Step E1 H1 w1 E3 H3 w3 where
  ext := a.ext.trans b.ext
  rel := b.rel
  fr := {
    os := b.fr.os.trans a.fr.os
    tape := b.fr.tape.trans a.fr.tape
    output := b.fr.output.trans a.fr.output
    size := Nat.le_trans a.fr.size b.fr.size
    block := by
      intro k hk hn
      have hk2 := Nat.lt_of_lt_of_le hk a.fr.size
      refine (b.fr.block k hk2 (fun i o L hg hρ e => ?_)).trans (a.fr.block k hk hn)
      rcases a.nb i o L hg hρ with h | ⟨j, o', L', h1, h2, h3⟩
      · omega
      · exact hn j o' L' h1 h2 (h3.trans e) }
  nb := by
    intro i o L hg hρ
    rcases b.nb i o L hg hρ with h | ⟨j, o', L', h1, h2, h3⟩
    · exact .inl (Nat.le_trans a.fr.size h)
    · rcases a.nb j o' L' h1 h2 with h | ⟨j', o'', L'', h4, h5, h6⟩
      · exact .inl (h3 ▸ h)
      · exact .inr ⟨j', o'', L'', h4, h5, h6.trans h3⟩
  nx := Nat.le_trans a.nx b.nx
  ids := by
    intro i L h
    rcases b.ids i L h with h | h
    · exact a.ids i L h
    · exact .inr (Nat.le_trans a.nx h)
  imm := by
    intro k h
    rcases b.imm k h with h | h | ⟨j, o, L, h1, h2, h3⟩
    · exact a.imm k h
    · exact .inr (.inl (Nat.le_trans a.fr.size h))
    · rcases a.nb j o L h1 h2 with h | ⟨j', o', L', h4, h5, h6⟩
      · exact .inr (.inl (h3 ▸ h))
      · exact .inr (.inr ⟨j', o', L', h4, h5, h6.trans h3⟩)
section
variable {E : Env} {H : AHeap} {w : World}
theorem AHeap.get_set (H : AHeap) (i j : Nat) (o : Option AObj) : (H.set i o).get j = if j = i then o else H.get j := Tr.get_set _ _ _ _
theorem AHeap.get_add (H : AHeap) (o : AObj) (j : Nat) : (H.add o).get j = if j = H.next then some o else H.get j := Tr.get_set _ _ _ _
theorem Rel.of_heap {w' : World} (h : Rel E H w) (hh : w'.heap = w.heap) : Rel E H w' where
  dom := fun i L hi => by rw [hh]; exact h.dom i L hi
  imm := fun b hb => by rw [hh]; exact h.imm b hb
  obj := fun i o hg => by
    obtain ⟨L, h1, h2, h3⟩ := h.obj i o hg
    exact ⟨L, h1, ObjR.mono ⟨fun _ _ q => q, fun _ q => q, fun b _ => by rw [hh], fun _ _ _ q => q⟩ (by rw [hh]) h2, h3⟩
  inj := h.inj
theorem Step.of_heap {w' : World} (h : Rel E H w) (hh : w'.heap = w.heap) (h1 : w'.os = w.os) (h2 : w'.tape = w.tape) (h3 : w'.output = w.output) : Step E H w E H w' where
  ext := ⟨fun _ _ q => q, fun _ q => q, fun b _ => by rw [hh], fun _ _ _ q => q⟩
  rel := h.of_heap hh
  fr := ⟨h1, h2, h3, by rw [hh]; exact Nat.le_refl _, fun b _ _ => by rw [hh]⟩
  nb := fun i o L hg hρ => .inr ⟨i, o, L, hg, hρ, rfl⟩
  nx := Nat.le_refl _
  ids := fun _ _ h => .inl h
  imm := fun _ h => .inl h
theorem Step.update (hR : Rel E H w) {i : Nat} {o o' : AObj} {L : Loc} {w' : World} (hg : H.get i = some o) (hρ : E.ρ i = some L) (hsz : w'.heap.size = w.heap.size) (hoth : ∀ b, b ≠ L.b → w'.heap[b]? = w.heap[b]?)
    (h1 : w'.os = w.os) (h2 : w'.tape = w.tape) (h3 : w'.output = w.output) (hO : Env.Ext E E w w' → ObjR E w' L o') : Step E H w E (H.set i (some o')) w' := by
  have hnI : ¬ E.I L.b := by
    obtain ⟨L', q1, _, q3⟩ := hR.obj i o hg
    rw [hρ] at q1
    cases q1
    exact q3
  have hext : Env.Ext E E w w' := ⟨fun _ _ q => q, fun _ q => q, fun b hb => hoth b (fun e => hnI (e ▸ hb)), fun _ _ _ q => q⟩
  refine ⟨hext, ⟨?_, ?_, ?_, ?_⟩, ⟨h1, h2, h3, by omega, ?_⟩, ?_, Nat.le_refl _, fun _ _ h => .inl h, fun _ h => .inl h⟩
  · intro j L' hj
    have := hR.dom j L' hj
    exact ⟨this.1, by omega⟩
  · intro b hb
    have := hR.imm b hb
    omega
  · intro j p hj
    rw [AHeap.get_set] at hj
    split at hj
    · rename_i e
      subst e
      cases hj
      exact ⟨L, hρ, hO hext, hnI⟩
    · rename_i e
      obtain ⟨L', q1, q2, q3⟩ := hR.obj j p hj
      exact ⟨L', q1, ObjR.mono hext (hoth _ (hR.inj j i p o L' L hj hg q1 hρ e)) q2, q3⟩
  · intro j k p p' Lj Lk hj hk hρj hρk hne
    rw [AHeap.get_set] at hj hk
    have key : ∀ (j : Nat) (p : AObj), (if j = i then some o' else H.get j) = some p → ∃ q, H.get j = some q := by
      intro j p hp
      split at hp
      · rename_i e; subst e; exact ⟨o, hg⟩
      · exact ⟨p, hp⟩
    obtain ⟨q1, hq1⟩ := key j p hj
    obtain ⟨q2, hq2⟩ := key k p' hk
    exact hR.inj j k q1 q2 Lj Lk hq1 hq2 hρj hρk hne
  · intro b hb hn
    exact hoth b (fun e => hn i o L hg hρ e.symm)
  · intro j p Lj hj hρj
    rw [AHeap.get_set] at hj
    split at hj
    · rename_i e; subst e; exact .inr ⟨j, o, Lj, hg, hρj, rfl⟩
    · exact .inr ⟨j, p, Lj, hj, hρj, rfl⟩
def Env.add (E : Env) (n : Nat) (L : Loc) : Env := ⟨fun i => if i = n then some L else E.ρ i, E.I, E.lk⟩
theorem alloc_heap (w : World) (o : Obj) (b : Nat) : (w.alloc o).heap[b]? = if b = w.heap.size then some o else w.heap[b]? := by
  show (w.heap.push o)[b]? = _
  rw [Array.getElem?_push]
theorem Step.alloc (hR : Rel E H w) {n nx : Nat} {obj : Obj} {o : AObj} {room : Nat} (hn : E.ρ n = none) (hlt : n < nx) (hnx : H.next ≤ nx) 
    (hO : Env.Ext E (E.add n ⟨w.heap.size, 0, room⟩) w (w.alloc obj) → ObjR (E.add n ⟨w.heap.size, 0, room⟩) (w.alloc obj) ⟨w.heap.size, 0, room⟩ o) :
    Env.Ext E (E.add n ⟨w.heap.size, 0, room⟩) w (w.alloc obj) ∧ Rel (E.add n ⟨w.heap.size, 0, room⟩) ⟨H.m.set n (some o), nx⟩ (w.alloc obj) ∧ Fr E H w (w.alloc obj) ∧
    (∀ i p L, (⟨H.m.set n (some o), nx⟩ : AHeap).get i = some p → (E.add n ⟨w.heap.size, 0, room⟩).ρ i = some L → w.heap.size ≤ L.b ∨ ∃ j o' L', H.get j = some o' ∧ E.ρ j = some L' ∧ L'.b = L.b) := by
  have hext : Env.Ext E (E.add n ⟨w.heap.size, 0, room⟩) w (w.alloc obj) := by
    refine ⟨fun i L h => ?_, fun _ h => h, fun b hb => ?_, fun _ _ _ h => h⟩
    · simp only [Env.add]
      rw [if_neg (fun e => by rw [e, hn] at h; cases h)]
      exact h
    · have := hR.imm b hb
      rw [alloc_heap, if_neg (by omega)]
  have hsz : (w.alloc obj).heap.size = w.heap.size + 1 := by simp
  have hget : ∀ i, (⟨H.m.set n (some o), nx⟩ : AHeap).get i = if i = n then some o else H.get i := fun i => Tr.get_set _ _ _ _
  refine ⟨hext, ⟨?_, ?_, ?_, ?_⟩, ⟨rfl, rfl, rfl, by omega, ?_⟩, ?_⟩
  · intro i L h
    simp only [Env.add] at h
    split at h
    · rename_i e
      subst e
      cases h
      exact ⟨hlt, by simp⟩
    · have := hR.dom i L h
      exact ⟨Nat.lt_of_lt_of_le this.1 hnx, by omega⟩
  · intro b hb
    have := hR.imm b hb
    omega
  · intro i p h
    rw [hget] at h
    split at h
    · rename_i e
      subst e
      cases h
      refine ⟨⟨w.heap.size, 0, room⟩, by simp [Env.add], hO hext, fun q => ?_⟩
      have := hR.imm _ q
      simp at this
    · obtain ⟨L, q1, q2, q3⟩ := hR.obj i p h
      refine ⟨L, hext.ρ _ _ q1, ObjR.mono hext ?_ q2, q3⟩
      have := (hR.dom i L q1).2
      rw [alloc_heap, if_neg (by omega)]
  · intro i j p q Li Lj hi hj hρi hρj hne
    rw [hget] at hi hj
    simp only [Env.add] at hρi hρj
    split at hi
    · rename_i e
      rw [if_pos e] at hρi
      cases hρi
      split at hj
      · rename_i e'; exact absurd (e.trans e'.symm) hne
      · rename_i e'
        rw [if_neg e'] at hρj
        have := (hR.dom j Lj hρj).2
        simp only
        omega
    · rename_i e
      rw [if_neg e] at hρi
      split at hj
      · rename_i e'
        rw [if_pos e'] at hρj
        cases hρj
        have := (hR.dom i Li hρi).2
        simp only
        omega
      · rename_i e'
        rw [if_neg e'] at hρj
        exact hR.inj i j p q Li Lj hi hj hρi hρj hne
  · intro b hb _
    rw [alloc_heap, if_neg (by omega)]
  · intro i p L hi hρ
    rw [hget] at hi
    simp only [Env.add] at hρ
    split at hi
    · rename_i e
      rw [if_pos e] at hρ
      cases hρ
      exact .inl (Nat.le_refl _)
    · rename_i e
      rw [if_neg e] at hρ
      exact .inr ⟨i, p, L, hi, hρ, rfl⟩
theorem Step.add (hR : Rel E H w) {obj : Obj} {o : AObj} {room : Nat}
    (hO : Env.Ext E (E.add H.next ⟨w.heap.size, 0, room⟩) w (w.alloc obj) → ObjR (E.add H.next ⟨w.heap.size, 0, room⟩) (w.alloc obj) ⟨w.heap.size, 0, room⟩ o) :
    Step E H w (E.add H.next ⟨w.heap.size, 0, room⟩) (H.add o) (w.alloc obj) := by
  have hn : E.ρ H.next = none := by
    cases h : E.ρ H.next with
    | none => rfl
    | some L => exact absurd (hR.dom _ _ h).1 (Nat.lt_irrefl _)
  obtain ⟨a, b, c, d⟩ := Step.alloc hR hn (Nat.lt_succ_self _) (Nat.le_succ _) hO
  refine ⟨a, b, c, d, Nat.le_succ _, fun i L h => ?_, fun _ h => .inl h⟩
  simp only [Env.add] at h
  split at h
  · rename_i e; exact .inr (by omega)
  · exact .inl h
def putCells (C : Array Value) : Nat → List Value → Array Value
  | _, [] => C
  | o, v :: r => putCells (C.setIfInBounds o v) (o + 1) r
theorem putCells_size : ∀ (vs : List Value) (C : Array Value) (o : Nat), (putCells C o vs).size = C.size
  | [], _, _ => rfl
  | v :: r, C, o => by simp [putCells, putCells_size r]
theorem putCells_get : ∀ (vs : List Value) (C : Array Value) (o j : Nat), o + vs.length ≤ C.size → (putCells C o vs)[j]? = if o ≤ j ∧ j < o + vs.length then vs[j - o]? else C[j]?
  | [], C, o, j, _ => by simp [putCells]; omega
  | v :: r, C, o, j, h => by
    simp only [List.length_cons] at h
    rw [putCells, putCells_get r _ (o + 1) j (by simp; omega)]
    by_cases h1 : o + 1 ≤ j ∧ j < o + 1 + r.length
    · rw [if_pos h1, if_pos (by simp; omega), show j - o = (j - (o + 1)) + 1 by omega, List.getElem?_cons_succ]
    · rw [if_neg h1]
      by_cases h2 : j = o
      · subst h2
        rw [if_pos (by simp), Array.getElem?_setIfInBounds_self_of_lt (by omega)]
        simp
      · rw [if_neg (by simp; omega), Array.getElem?_setIfInBounds_ne (fun e => h2 e.symm)]
theorem setCells_heap (b : Nat) : ∀ (vs : List Value) (o : Nat) (w : World) (C : Array Value) (t : TypeId) (fz : Nat × Nat), w.heap[b]? = some (.cells C t fz) →
    (w.setCells b o vs).heap[b]? = some (.cells (putCells C o vs) t fz) ∧ (∀ k, k ≠ b → (w.setCells b o vs).heap[k]? = w.heap[k]?) ∧ (w.setCells b o vs).heap.size = w.heap.size ∧
      (w.setCells b o vs).os = w.os ∧ (w.setCells b o vs).tape = w.tape ∧ (w.setCells b o vs).output = w.output
  | [], o, w, C, t, fz, h => ⟨h, fun _ _ => rfl, rfl, rfl, rfl, rfl⟩
  | v :: r, o, w, C, t, fz, h => by
    have h' : (w.setCell ⟨b, o, none⟩ v).heap[b]? = some (.cells (C.setIfInBounds o v) t fz) := by
      simp [World.setCell, Array.getElem?_modify, h]
    obtain ⟨q1, q2, q3, q4⟩ := setCells_heap b r (o + 1) (w.setCell ⟨b, o, none⟩ v) _ t fz h'
    refine ⟨q1, fun k hk => (q2 k hk).trans ?_, q3.trans (by simp [World.setCell]), q4⟩
    simp only [World.setCell, Array.getElem?_modify]
    rw [if_neg (fun e => hk e.symm)]
theorem Step.write (hR : Rel E H w) {i o : Nat} {cs new cs' : List AV} {opn : Option Nat} {L : Loc} {C : Array Value} {t : TypeId} {fz : Nat × Nat} {us vs : List Value}
    (hg : H.get i = some (.cells cs opn)) (hρ : E.ρ i = some L) (hb : w.heap[L.b]? = some (.cells C t fz)) (hr : AVRelL E w cs us) (hc : ∀ (j : Nat) (u : Value), us[j]? = some u → C[L.s + j]? = some u)
    (hsp : L.s + span L cs.length opn ≤ C.size) (hfz : ∀ j, j < span L cs.length opn → ¬ (fz.1 ≤ L.s + j ∧ L.s + j < fz.2))
    (hft : fits L cs.length opn) (hn : AVRelL E w new vs) (hin : o + new.length ≤ span L cs.length opn) (ho : o ≤ cs.length) (hcs : cs' = overA cs o new) :
    Step E H w E (H.set i (some (.cells cs' opn))) (w.setCells L.b (L.s + o) vs) := by
  have hvl := hn.length
  have hul := hr.length
  obtain ⟨q1, q2, q3, q4, q5, q6⟩ := setCells_heap L.b vs (L.s + o) w C t fz hb
  have hlen : span L cs'.length opn = span L cs.length opn := by
    subst hcs
    unfold span at hin ⊢
    cases opn with
    | none => simp only at hin ⊢; simp [overA]; omega
    | some z => simp only at hin ⊢; simp [overA]; omega
  refine Step.update hR hg hρ q3 (fun b hbn => q2 b hbn) q4 q5 q6 (fun hext => ?_)
  refine ⟨_, t, fz, us.take o ++ vs ++ us.drop (o + vs.length), q1, ?_, ?_, ?_, ?_, ?_⟩
  · subst hcs
    unfold overA
    rw [hvl]
    exact AVRelL.append (AVRelL.append (AVRelL.mono hext _ _ (hr.take o)) (AVRelL.mono hext _ _ hn)) (AVRelL.mono hext _ _ (hr.drop _))
  · intro j u hj
    rw [putCells_get vs C (L.s + o) (L.s + j) (by rw [hvl]; omega)]
    by_cases h1 : j < o
    · rw [if_neg (by omega)]
      rw [List.append_assoc, List.getElem?_append_left (by simp; omega), List.getElem?_take, if_pos h1] at hj
      exact hc j u hj
    · by_cases h2 : j < o + vs.length
      · rw [if_pos (by omega)]
        rw [List.append_assoc, List.getElem?_append_right (by simp; omega), List.getElem?_append_left (by simp; omega)] at hj
        simp only [List.length_take] at hj
        rw [← hj]
        congr 1
        omega
      · rw [if_neg (by omega)]
        rw [List.getElem?_append_right (by simp; omega), List.getElem?_drop] at hj
        simp only [List.length_append, List.length_take] at hj
        refine hc j u ?_
        rw [← hj]
        congr 1
        omega
  · rw [putCells_size, hlen]
    exact hsp
  · intro j hj
    rw [hlen] at hj
    exact hfz j hj
  · subst hcs
    unfold fits at hft ⊢
    unfold span at hin
    cases opn with
    | none => trivial
    | some z => simp only at hin hft ⊢; simp [overA]; omega
end
end Go.Eng
end
section
namespace Go.Eng
section
variable {E : Env} {H : AHeap} {w : World} {P : Program}
def EffOK (P : Program) (E : Env) (H : AHeap) (w : World) (x : AV) (H' : AHeap) (r : Result Next) : Prop :=
  ∃ nx u w' E', r = .ok nx w' ∧ (nx = .value u ∨ (nx = .skip ∧ u = undef)) ∧ Step E H w E' H' w' ∧ AVRel E' w' x u
theorem undef_rel : AVRel E w undefA undef := by
  simp only [undefA, undef, AVRel]
  exact ⟨#[], rfl, by simp [AVRelL]⟩
theorem storeCells_run {b o : Nat} {C : Array Value} {t : TypeId} {fz : Nat × Nat} (hb : w.heap[b]? = some (.cells C t fz)) {vs : List Value} (hl : o + vs.length ≤ C.size)
    (hfz : ∀ j, j < vs.length → ¬ (fz.1 ≤ o + j ∧ o + j < fz.2)) (h1 : ∀ v ∈ vs, v.oneCell' = true) : (storeCells ⟨b, o, none⟩ vs).run P w = .ok () (w.setCells b o vs) := by
  have := run_storeCells_cells (P := P) b o vs 0 w (fun j hj => by
      simp only [World.cell?, hb, Option.isSome_none, Bool.false_eq_true, if_false, Nat.add_zero]
      rw [Array.getElem?_eq_getElem (by omega)]
      rfl) (fun j hj => by
      simp only [World.frozen?, hb, Nat.add_zero]
      have := hfz j hj
      simp only [Bool.and_eq_false_iff, decide_eq_false_iff_not]
      omega) h1
  simpa using this
theorem span_ge (L : Loc) (n : Nat) (o : Option Nat) : n ≤ span L n o := by
  unfold span
  cases o
  · exact Nat.le_refl _
  · exact Nat.le_max_left _ _
theorem store_sound (hR : Rel E H w) {t : TypeId} {n : Nat} (hz : sizeT P t = some n) {a x : AV} {u v : Value} (ha : AVRel E w a u) (hx : AVRel E w x v) {H' : AHeap} (h : storeA H n a x = some H') :
    EffOK P E H w undefA H' ((do Instr.storeAt t u v; pure Next.skip : Sem Next).run P w) := by
  have hs := size_run (w := w) hz
  unfold storeA at h
  simp only at h
  split at h
  · cases h
  · rename_i hc
    simp only [not_or, Decidable.not_not, Bool.not_eq_true, Bool.not_eq_false'] at hc
    obtain ⟨hc1, hc2⟩ := hc
    split at h
    · rename_i i o
      split at h
      · rename_i cs opn hg
        split at h
        · rename_i hle
          cases h
          obtain ⟨L, hρ, hO, _⟩ := hR.obj _ _ hg
          obtain ⟨C, t', fz, us, hb, hr, hcell, hsp, hfz, hft⟩ := hO
          simp only [AVRel] at ha
          obtain ⟨L', hρ', rfl⟩ := ha
          rw [hρ] at hρ'
          cases hρ'
          have hcr := hx.cells_rel
          have hcl := hcr.length
          have hspan := span_ge L cs.length opn
          have hone := AVRelL.oneCell hcr (by simpa using hc2)
          have hrun := storeCells_run (P := P) hb (o := L.s + o) (vs := v.cells.toList) (by rw [hcl]; omega) (fun j hj => by rw [hcl] at hj; have := hfz (o + j) (by omega); omega) hone
          refine ⟨.skip, undef, _, E, ?_, .inr ⟨rfl, rfl⟩, Step.write hR hg hρ hb hr hcell hsp hfz hft hcr (by omega) (by omega) rfl, undef_rel⟩
          have hsz : v.cells.size = n := by rw [← Array.length_toList, hcl]; exact hc1
          simp [Instr.storeAt, Instr.sureAddr, storeVar, hs, hsz, hrun]
        · cases h
      · cases h
    · cases h
theorem EntR.append : ∀ {es fs : List (AV × AV)} {a b : List MapEntry}, EntR E w es a → EntR E w fs b → EntR E w (es ++ fs) (a ++ b)
  | [], fs, a, b, h, h' => by simp only [EntR] at h; subst h; simpa using h'
  | (k, v) :: es, fs, a, b, h, h' => by
    simp only [EntR] at h
    obtain ⟨e, a', rfl, h2, h3, h4⟩ := h
    simp only [List.cons_append, EntR]
    exact ⟨e, _, rfl, h2, h3, EntR.append h4 h'⟩
theorem EntR.set {k v : AV} {e : MapEntry} (hk : AVRel E w k e.key) (hv : AVRel E w v e.val) : ∀ {es : List (AV × AV)} {a : List MapEntry} (i : Nat), EntR E w es a → EntR E w (es.set i (k, v)) (a.set i e)
  | [], a, i, h => by simp only [EntR] at h; subst h; simp [EntR]
  | (k', v') :: es, a, 0, h => by
    simp only [EntR] at h
    obtain ⟨e', a', rfl, h2, h3, h4⟩ := h
    simp only [List.set_cons_zero, EntR]
    exact ⟨e, a', rfl, hk, hv, h4⟩
  | (k', v') :: es, a, i + 1, h => by
    simp only [EntR] at h
    obtain ⟨e', a', rfl, h2, h3, h4⟩ := h
    simp only [List.set_cons_succ, EntR]
    exact ⟨e', _, rfl, h2, h3, EntR.set hk hv i h4⟩
theorem EntR.erase : ∀ {es : List (AV × AV)} {a : List MapEntry} (i : Nat), EntR E w es a → EntR E w (es.eraseIdx i) (a.eraseIdx i)
  | [], a, i, h => by simp only [EntR] at h; subst h; simp [EntR]
  | (k', v') :: es, a, 0, h => by
    simp only [EntR] at h
    obtain ⟨e', a', rfl, h2, h3, h4⟩ := h
    simpa using h4
  | (k', v') :: es, a, i + 1, h => by
    simp only [EntR] at h
    obtain ⟨e', a', rfl, h2, h3, h4⟩ := h
    simp only [List.eraseIdx_cons_succ, EntR]
    exact ⟨e', _, rfl, h2, h3, EntR.erase i h4⟩
theorem EntR.get : ∀ {es : List (AV × AV)} {a : List MapEntry} {i : Nat} {k v : AV}, EntR E w es a → es[i]? = some (k, v) → ∃ e, a[i]? = some e ∧ AVRel E w k e.key ∧ AVRel E w v e.val
  | [], a, i, k, v, h, hi => by simp at hi
  | (k', v') :: es, a, 0, k, v, h, hi => by
    simp only [EntR] at h
    obtain ⟨e', a', rfl, h2, h3, h4⟩ := h
    simp at hi
    obtain ⟨rfl, rfl⟩ := hi
    exact ⟨e', rfl, h2, h3⟩
  | (k', v') :: es, a, i + 1, k, v, h, hi => by
    simp only [EntR] at h
    obtain ⟨e', a', rfl, h2, h3, h4⟩ := h
    simpa using EntR.get h4 (by simpa using hi)
theorem plain_same {k : KK} {x : AV} {l : Lit} {u v : Value} (h : litA k x = some l) (hu : AVRel E w x u) (hv : AVRel E w x v) : u = v ∧ ∀ n, Instr.sameBits n u u = true := by
  rcases litA_cases h with ⟨b, rfl, rfl, rfl⟩ | ⟨q, n, rfl, rfl, rfl⟩ | ⟨s, rfl, rfl, rfl⟩
  · rw [hu.bool_inv, hv.bool_inv]
    exact ⟨rfl, fun n => by cases n <;> simp [Instr.sameBits]⟩
  · rw [hu.int_inv, hv.int_inv]
    exact ⟨rfl, fun n => by cases n <;> simp [Instr.sameBits]⟩
  · rw [hu.str_inv, hv.str_inv]
    exact ⟨rfl, fun n => by cases n <;> simp [Instr.sameBits, beq_toListBytes]⟩
theorem plains_same : ∀ {ks : List KK} {xs : List AV} {l : List Lit} {us vs : List Value}, litsA ks xs = some l → AVRelL E w xs us → AVRelL E w xs vs → us = vs ∧ ∀ n, (us.zip us).all (fun (x, y) => Instr.sameBits n x y) = true
  | [], [], _, us, vs, _, hu, hv => by
    simp only [AVRelL] at hu hv
    subst hu; subst hv
    exact ⟨rfl, fun _ => rfl⟩
  | [], _ :: _, _, _, _, h, _, _ => by simp [litsA] at h
  | _ :: _, [], _, _, _, h, _, _ => by simp [litsA] at h
  | k :: ks, x :: xs, l, us, vs, h, hu, hv => by
    simp only [litsA, bind, Option.bind_eq_some_iff, Option.some.injEq] at h
    obtain ⟨a, ha, m, hm, rfl⟩ := h
    simp only [AVRelL] at hu hv
    obtain ⟨u, us', rfl, hu1, hu2⟩ := hu
    obtain ⟨v, vs', rfl, hv1, hv2⟩ := hv
    obtain ⟨rfl, s1⟩ := plain_same ha hu1 hv1
    obtain ⟨rfl, s2⟩ := plains_same hm hu2 hv2
    exact ⟨rfl, fun n => by simp only [List.zip_cons_cons, List.all_cons, s1 n, s2 n, Bool.and_self]⟩
theorem key_same {K : KT} {x : AV} {l : List Lit} {u v : Value} (h : keyA K x = some l) (hu : AVRel E w x u) (hv : AVRel E w x v) : u = v ∧ Instr.sameBits 10000 u u = true := by
  unfold keyA at h
  split at h
  · split at h
    · simp only [AVRel] at hu hv
      obtain ⟨us, rfl, hu⟩ := hu
      obtain ⟨vs, rfl, hv⟩ := hv
      obtain ⟨e, hs⟩ := plains_same h hu hv
      obtain rfl := Array.toList_inj.1 e
      refine ⟨rfl, ?_⟩
      have := hs 9999
      simp only [Instr.sameBits, beq_self_eq_true, Bool.true_and]
      exact this
    · cases h
  · split at h
    · cases h
    · obtain ⟨k, hk⟩ : ∃ k, K.ks = [k] := by
        have := (litsA_length h).1
        match hq : K.ks, this with
        | [k], _ => exact ⟨k, rfl⟩
      rw [hk] at h
      obtain ⟨_, m, e, hm, rfl⟩ := litsA_one h
      cases e
      obtain ⟨e, hs⟩ := plain_same hm hu hv
      exact ⟨e, hs _⟩
theorem stays_run {old new : Value} (h : old = new) (hs : Instr.sameBits 10000 old old = true) : (Instr.keyThatStays old new).run P w = .ok new w := by
  subst h
  simp [Instr.keyThatStays, hs]
theorem setMap_run {b : Nat} {rows : Array MapEntry} {clock : Nat} (o : Obj) (hb : w.heap[b]? = some (.map rows clock)) : (setObj b o).run P w = .ok () { w with heap := w.heap.setIfInBounds b o } := by
  simp [setObj, Sem.run, hb]
theorem Step.setMap (hR : Rel E H w) {i : Nat} {es es' : List (AV × AV)} {L : Loc} {rows rows' : Array MapEntry} {clock clock' : Nat} (hg : H.get i = some (.map es)) (hρ : E.ρ i = some L) (hb : w.heap[L.b]? = some (.map rows clock))
    (hE : MapR E w es' rows' clock') : Step E H w E (H.set i (some (.map es'))) { w with heap := w.heap.setIfInBounds L.b (.map rows' clock') } := by
  have hlt : L.b < w.heap.size := (hR.dom i L hρ).2
  refine Step.update hR hg hρ (by simp) (fun b hbn => by simp only; rw [Array.getElem?_setIfInBounds_ne (fun e => hbn e.symm)]) rfl rfl rfl (fun hext => ?_)
  exact ⟨rows', clock', by simp only; rw [Array.getElem?_setIfInBounds_self_of_lt hlt], hE.mono hext⟩
theorem set_keys {es : List (AV × AV)} {j : Nat} {k v v0 : AV} (h : es[j]? = some (k, v0)) : (es.set j (k, v)).map (·.1) = es.map (·.1) := by
  apply List.ext_getElem?
  intro n
  rw [List.getElem?_map, List.getElem?_map, List.getElem?_set]
  by_cases e : j = n
  · subst e
    have hl : j < es.length := by
      rcases Nat.lt_or_ge j es.length with q | q
      · exact q
      · rw [List.getElem?_eq_none q] at h; cases h
    rw [if_pos rfl, if_pos hl, h]
    rfl
  · rw [if_neg e]
theorem distinct_map {es : List (AV × AV)} : es.Pairwise (fun a b => a.1 ≠ b.1) ↔ (es.map (·.1)).Pairwise (· ≠ ·) := by
  rw [List.pairwise_map]
theorem perm_erase : ∀ {es : List (AV × AV)} {j : Nat} {p : AV × AV}, es[j]? = some p → es.Perm (p :: es.eraseIdx j)
  | [], _, _, h => by simp at h
  | q :: es, 0, p, h => by simp at h; subst h; simp
  | q :: es, j + 1, p, h => by
    simp only [List.eraseIdx_cons_succ]
    exact ((perm_erase (by simpa using h)).cons q).trans (List.Perm.swap p q _)
theorem perm_set {es : List (AV × AV)} {j : Nat} {p q : AV × AV} (h : es[j]? = some p) : (es.set j q).Perm (q :: es.eraseIdx j) := by
  have hl : j < es.length := by
    rcases Nat.lt_or_ge j es.length with q | q
    · exact q
    · rw [List.getElem?_eq_none q] at h; cases h
  have h1 : (es.set j q)[j]? = some q := by rw [List.getElem?_set, if_pos rfl, if_pos hl]
  have h2 := perm_erase h1
  have h3 : (es.set j q).eraseIdx j = es.eraseIdx j := by
    apply List.ext_getElem?
    intro n
    rw [List.getElem?_eraseIdx, List.getElem?_eraseIdx, List.getElem?_set, List.getElem?_set]
    split
    · rw [if_neg (by omega)]
    · rw [if_neg (by omega)]
  rwa [h3] at h2
theorem perm_both {es es' : List (AV × AV)} {i j : Nat} {p : AV × AV} (hp : es'.Perm es) (h : es[i]? = some p) (h' : es'[j]? = some p) : (es'.eraseIdx j).Perm (es.eraseIdx i) :=
  List.Perm.cons_inv (((perm_erase h').symm.trans hp).trans (perm_erase h))
theorem upd_sound (hR : Rel E H w) {t kt et : TypeId} {K : KT} (hu : P.underlying t = some (.map kt et)) (hK : keyKinds P kt = some K) {i : Nat} {k v : AV} {um uk uv : Value} (hm : AVRel E w (.map i) um) (hk : AVRel E w k uk) (hv : AVRel E w v uv)
    {es es' : List (AV × AV)} {l : List Lit} (hg : H.get i = some (.map es)) (hl : keyA K k = some l) (h : updE K l k v es = some es') :
    EffOK P E H w undefA (H.set i (some (.map es'))) ((do Instr.mapUpdate t um uk uv; pure Next.skip : Sem Next).run P w) := by
  obtain ⟨L, hρ, hO, _⟩ := hR.obj _ _ hg
  obtain ⟨rows, clock, hb, es0, hE, hp, hd, hcl, hbn⟩ := hO
  simp only [AVRel] at hm
  obtain ⟨L', hρ', rfl⟩ := hm
  rw [hρ] at hρ'
  cases hρ'
  have hgo := getMap_run (P := P) hb
  have hck := check_sound (P := P) hK hl hk false
  unfold updE at h
  cases hf : findE K l es 0 with
  | none => simp [hf] at h
  | some r =>
    obtain ⟨r0, hf0, n1, n2⟩ := findE_perm ⟨_, hl⟩ hp hd hf
    obtain ⟨r', h1, h2⟩ := find_sound (P := P) hK hl hk hE hf0
    cases r with
    | none =>
      simp only [hf, Option.some.injEq] at h
      subst h
      obtain rfl := n1 rfl
      simp only [FoundR] at h2
      subst h2
      have hset := setMap_run (P := P) (Obj.map (rows.push { key := uk, val := uv, born := clock }) (clock + 1)) hb
      refine ⟨.skip, undef, _, E, ?_, .inr ⟨rfl, rfl⟩, Step.setMap hR hg hρ hb (rows' := rows.push { key := uk, val := uv, born := clock }) (clock' := clock + 1) ⟨es0 ++ [(k, v)], ?_, hp.append_right _, ?_, ?_, ?_⟩, undef_rel⟩
      · simp [Instr.mapUpdate, run_underlying hu, hgo, hck, h1, hset]
      · rw [Array.toList_push]
        refine EntR.append hE ?_
        simp only [EntR]
        exact ⟨_, [], rfl, hk, hv, rfl⟩
      · refine List.pairwise_append.2 ⟨hd, by simp, fun p hp' q hq' => ?_⟩
        simp only [List.mem_singleton] at hq'
        subst hq'
        intro e
        obtain ⟨m, hm, hno⟩ := findE_good hf p hp'
        rw [e] at hm
        simp only at hm
        rw [hl] at hm
        cases hm
        obtain ⟨xs, hxs⟩ := keyA_lits hl
        rw [(litsEq_iff hxs hxs).2 rfl] at hno
        cases hno rfl
      · intro e he
        rw [Array.toList_push, List.mem_append] at he
        rcases he with he | he
        · have := hcl e he; omega
        · simp at he; subst he; simp
      · rw [Array.toList_push, List.map_append, List.nodup_append]
        refine ⟨hbn, by simp, fun a ha b hb' => ?_⟩
        simp only [List.map_cons, List.map_nil, List.mem_singleton] at hb'
        subst hb'
        obtain ⟨e, he, rfl⟩ := List.mem_map.1 ha
        have := hcl e he
        omega
    | some p =>
      obtain ⟨j, v0⟩ := p
      simp only [hf, Option.some.injEq] at h
      subst h
      obtain ⟨j0, e0⟩ := n2 j v0 rfl
      subst e0
      simp only [FoundR] at h2
      obtain ⟨u0, rfl, hv0⟩ := h2
      obtain ⟨k1, m1, _, hget1, hm1, hq1⟩ := findE_get hf
      obtain ⟨k0, m, _, hget, hm0, hq⟩ := findE_get hf0
      simp only [Nat.sub_zero] at hget hget1
      obtain ⟨e, he, hek, hev⟩ := hE.get hget
      have he' : rows[j0]? = some e := by rw [← Array.getElem?_toList]; exact he
      obtain ⟨xs, hxs⟩ := keyA_lits hl
      obtain ⟨ys, hys⟩ := keyA_lits hm0
      obtain ⟨zs, hzs⟩ := keyA_lits hm1
      have hlm : l = m := (litsEq_iff hxs hys).1 hq
      subst hlm
      have hlm1 : l = m1 := (litsEq_iff hxs hzs).1 hq1
      subst hlm1
      obtain rfl := keyA_inj hl hm0
      obtain rfl := keyA_inj hl hm1
      obtain ⟨hsame, hbits⟩ := key_same hl hek hk
      have hst := stays_run (P := P) (w := w) hsame hbits
      have hset := setMap_run (P := P) (Obj.map (rows.modify j0 fun e => { e with key := uk, val := uv }) clock) hb
      have hj : j0 < rows.size := by
        rcases Nat.lt_or_ge j0 rows.size with q | q
        · exact q
        · rw [Array.getElem?_eq_none q] at he'; cases he'
      refine ⟨.skip, undef, _, E, ?_, .inr ⟨rfl, rfl⟩, Step.setMap hR hg hρ hb (rows' := rows.modify j0 fun e => { e with key := uk, val := uv }) (clock' := clock) ⟨es0.set j0 (k, v), ?_, (perm_set hget).trans (((perm_both hp hget1 hget).cons _).trans (perm_set hget1).symm), by rw [distinct_map, set_keys hget1, ← distinct_map]; exact hd, ?_, ?_⟩, undef_rel⟩
      · simp [Instr.mapUpdate, run_underlying hu, hgo, hck, h1, he', hst, hset]
      · have : (rows.modify j0 fun e => { e with key := uk, val := uv }).toList = rows.toList.set j0 { e with key := uk, val := uv } := by
          rw [Array.toList_modify]
          apply List.ext_getElem?
          intro n
          rw [List.getElem?_modify, List.getElem?_set]
          by_cases hn : j0 = n
          · subst hn
            rw [he, if_pos rfl, if_pos (by simpa using hj)]
            simp
          · rw [if_neg hn]
            simp [hn]
        rw [this]
        exact EntR.set hk hv j0 hE
      · intro e' he2
        have : ∃ n, (rows.modify j0 fun e => { e with key := uk, val := uv }).toList[n]? = some e' := List.mem_iff_getElem?.1 he2
        obtain ⟨n, hn⟩ := this
        rw [Array.toList_modify, List.getElem?_modify] at hn
        cases hq' : rows.toList[n]? with
        | none => simp [hq'] at hn
        | some e0 =>
          have h0 := hcl e0 (List.mem_of_getElem? hq')
          simp [hq'] at hn
          subst hn
          split <;> exact h0
      · have : (rows.modify j0 fun e => { e with key := uk, val := uv }).toList.map (·.born) = rows.toList.map (·.born) := by
          rw [Array.toList_modify]
          apply List.ext_getElem?
          intro n
          rw [List.getElem?_map, List.getElem?_map, List.getElem?_modify]
          cases rows.toList[n]? with
          | none => rfl
          | some e0 =>
            simp only [Option.map_some]
            split <;> rfl
        rw [this]
        exact hbn
theorem del_sound (hR : Rel E H w) {t kt et : TypeId} {K : KT} (hu : P.underlying t = some (.map kt et)) (hK : keyKinds P kt = some K) {i : Nat} {k : AV} {um uk : Value} (hm : AVRel E w (.map i) um) (hk : AVRel E w k uk)
    {es es' : List (AV × AV)} {l : List Lit} (hg : H.get i = some (.map es)) (hl : keyA K k = some l) (h : delE K l es = some es') (t2 ty : TypeId) :
    ∃ w', (Builtin.delete_ #[t, t2] ty #[um, uk]).run P w = .ok undef w' ∧ Step E H w E (H.set i (some (.map es'))) w' := by
  obtain ⟨L, hρ, hO, _⟩ := hR.obj _ _ hg
  obtain ⟨rows, clock, hb, es0, hE, hp, hd, hcl, hbn⟩ := hO
  simp only [AVRel] at hm
  obtain ⟨L', hρ', rfl⟩ := hm
  rw [hρ] at hρ'
  cases hρ'
  have hgo := getMap_run (P := P) hb
  have hck := check_sound (P := P) hK hl hk rows.isEmpty
  unfold delE at h
  cases hf : findE K l es 0 with
  | none => simp [hf] at h
  | some r =>
    obtain ⟨r0, hf0, n1, n2⟩ := findE_perm ⟨_, hl⟩ hp hd hf
    obtain ⟨r', h1, h2⟩ := find_sound (P := P) hK hl hk hE hf0
    cases r with
    | none =>
      simp only [hf, Option.some.injEq] at h
      subst h
      obtain rfl := n1 rfl
      simp only [FoundR] at h2
      subst h2
      have hset := setMap_run (P := P) (Obj.map rows clock) hb
      refine ⟨_, ?_, Step.setMap hR hg hρ hb (rows' := rows) (clock' := clock) ⟨es0, hE, hp, hd, hcl, hbn⟩⟩
      simp [Builtin.delete_, run_underlying hu, hgo, hck, h1, hset, undef]
    | some p =>
      obtain ⟨j, v0⟩ := p
      simp only [hf, Option.some.injEq] at h
      subst h
      obtain ⟨j0, e0⟩ := n2 j v0 rfl
      subst e0
      simp only [FoundR] at h2
      obtain ⟨u0, rfl, hv0⟩ := h2
      obtain ⟨k1, m1, _, hget1, hm1, hq1⟩ := findE_get hf
      obtain ⟨k0, m, _, hget, hm0, hq⟩ := findE_get hf0
      simp only [Nat.sub_zero] at hget hget1
      obtain ⟨xs, hxs⟩ := keyA_lits hl
      obtain ⟨ys, hys⟩ := keyA_lits hm0
      obtain ⟨zs, hzs⟩ := keyA_lits hm1
      have hlm : l = m := (litsEq_iff hxs hys).1 hq
      subst hlm
      have hlm1 : l = m1 := (litsEq_iff hxs hzs).1 hq1
      subst hlm1
      obtain rfl := keyA_inj hl hm0
      obtain rfl := keyA_inj hl hm1
      have hset := setMap_run (P := P) (Obj.map (rows.eraseIdxIfInBounds j0) clock) hb
      have hel : (rows.eraseIdxIfInBounds j0).toList = rows.toList.eraseIdx j0 := by
        unfold Array.eraseIdxIfInBounds
        split
        · rename_i hlt
          simp
        · rename_i hlt
          rw [List.eraseIdx_of_length_le (by simp; omega)]
      refine ⟨_, ?_, Step.setMap hR hg hρ hb (rows' := rows.eraseIdxIfInBounds j0) (clock' := clock) ⟨es0.eraseIdx j0, ?_, perm_both hp hget1 hget, hd.sublist (List.eraseIdx_sublist _ _), ?_, ?_⟩⟩
      · simp [Builtin.delete_, run_underlying hu, hgo, hck, h1, hset, undef]
      · rw [hel]
        exact EntR.erase j0 hE
      · intro e he
        rw [hel] at he
        exact hcl e (List.mem_of_mem_eraseIdx he)
      · rw [hel]
        exact hbn.sublist ((List.eraseIdx_sublist _ _).map _)
theorem cap_bound {need cap : Nat} (h : cap < need) (hn : need ≤ 2 ^ 30) : Builtin.nextslicecap need cap ≤ 2 ^ 31 := by
  have hg : ∀ (r c : Nat), c < need + need / 4 + 193 → Builtin.growBy need r c < need + need / 4 + 193 := by
    intro r
    induction r with
    | zero => intro c h; exact h
    | succ r ih =>
      intro c h
      simp only [Builtin.growBy]
      split
      · exact h
      · exact ih _ (by omega)
  unfold Builtin.nextslicecap
  split
  · omega
  · split
    · omega
    · have := hg 4 cap (by omega)
      omega
theorem ObjR.new {E' : Env} {cs : List AV} {us rest : List Value} {t : TypeId} {z room : Nat} {opn : Option Nat} (hr : AVRelL E' (w.alloc (.cells (us ++ rest).toArray t)) cs us) (hop : opn = none ∨ (opn = some z ∧ us.length ≤ room * z)) (hroom : room * z ≤ us.length + rest.length) :
    ObjR E' (w.alloc (.cells (us ++ rest).toArray t)) ⟨w.heap.size, 0, room⟩ (.cells cs opn) := by
  have hl := hr.length
  refine ⟨(us ++ rest).toArray, t, (0, 0), us, ?_, hr, ?_, ?_, ?_, ?_⟩
  · rw [alloc_heap, if_pos rfl]
  · intro j u hj
    simp only [Nat.zero_add]
    rw [List.getElem?_toArray, List.getElem?_append_left (by
      rcases Nat.lt_or_ge j us.length with q | q
      · exact q
      · rw [List.getElem?_eq_none q] at hj; cases hj)]
    exact hj
  · simp only [Nat.zero_add, List.size_toArray, List.length_append]
    rcases hop with rfl | ⟨rfl, _⟩
    · simp only [span]; omega
    · simp only [span]; omega
  · intro j hj
    omega
  · rcases hop with rfl | ⟨rfl, h⟩
    · trivial
    · simp only [fits]; omega
theorem Step.newRow (hR : Rel E H w) {w0 : World} (hw : w0.heap = w.heap) (h1 : w0.os = w.os) (h2 : w0.tape = w.tape) (h3 : w0.output = w.output) {cs : List AV} {us rest : List Value} {t : TypeId} {z room : Nat} {opn : Option Nat}
    (hr : AVRelL E w cs us) (hop : opn = none ∨ (opn = some z ∧ us.length ≤ room * z)) (hroom : room * z ≤ us.length + rest.length) :
    Step E H w (E.add H.next ⟨w.heap.size, 0, room⟩) (H.add (.cells cs opn)) (w0.alloc (.cells (us ++ rest).toArray t)) := by
  have s1 := Step.of_heap hR hw h1 h2 h3
  have hR0 := hR.of_heap hw
  have hsz : w0.heap.size = w.heap.size := by rw [hw]
  have := Step.add (obj := .cells (us ++ rest).toArray t) (o := .cells cs opn) (room := room) hR0 (fun hext => ObjR.new (AVRelL.mono hext _ _ (AVRelL.mono s1.ext _ _ hr)) hop hroom)
  rw [hsz] at this
  exact s1.trans this
theorem sl_new {E : Env} {w : World} {n b room l : Nat} (hl : l ≤ room) : AVRel (E.add n ⟨b, 0, room⟩) w (.sl n 0 l openCap) (.slice (some ⟨b, 0, none⟩) l room) := by
  simp only [AVRel]
  refine ⟨⟨b, 0, room⟩, ⟨b, 0, none⟩, room, by simp [Env.add], rfl, .inr ⟨by unfold openAt openCap; decide, ⟨0, rfl, rfl⟩, .inl rfl⟩, hl⟩
theorem rest_len (z : Array Value) (n : Nat) : (Builtin.zeroCells z n).toList.length = n * z.size := by simp [Builtin.zeroCells]
theorem grow_run {t u e : TypeId} {i : TypeInfo} {zv : Value} (hu : P.underlying t = some (.slice e)) (hnz : appSrc P u = true) (hi : P.info? e = some i) (hz : i.zero = some zv)
    (hb : i.bytes ≤ 2 ^ 16) {ad : Option Addr} {l c n : Nat} {x : Value} {old new : Array Value} (hc : c < l + n) (hn : l + n ≤ 2 ^ 30)
    (hlen : (Builtin.lenOf x).run P w = .ok n w) (ho : (Builtin.firstCells i.size l (.slice ad l c)).run P w.drew = .ok old w.drew) (hw : (Builtin.firstCells i.size n x).run P w.drew = .ok new w.drew) (ty : TypeId) :
    ∃ (cap : Nat) (w0 : World), l + n ≤ cap ∧ w0.heap = w.heap ∧ w0.os = w.os ∧ w0.tape = w.tape ∧ w0.output = w.output ∧
      (Builtin.append_ #[t, u] ty #[.slice ad l c, x]).run P w = .ok (.slice (some ⟨w.heap.size, 0, none⟩) (l + n) cap) (w0.alloc (.cells (old ++ new ++ Builtin.zeroCells zv.cells (cap - (l + n))) e)) := by
  have hcb := cap_bound hc hn
  have hbound : Builtin.nextslicecap (l + n) c * i.bytes ≤ 281474976710656 := by
    have : Builtin.nextslicecap (l + n) c * i.bytes ≤ 2 ^ 31 * 2 ^ 16 := Nat.mul_le_mul hcb hb
    have e : (2 : Nat) ^ 31 * 2 ^ 16 = 140737488355328 := by decide
    omega
  have h48' : ¬ (281474976710656 < Builtin.nextslicecap (l + n) c * i.bytes) := by omega
  have h63' : ¬ (9223372036854775807 < ((l : Int) + (n : Int))) := by omega
  have hcn : ¬ (l + n ≤ c) := by omega
  refine ⟨(Question.appendCap (l + n) c e).cut (w.tape w.drawn (.appendCap (l + n) c e)), w.drew, Nat.le_add_right _ _, rfl, rfl, rfl, rfl, ?_⟩
  unfold appSrc at hnz
  split at hnz
  · rename_i e' hud
    simp [Builtin.append_, run_underlying hu, run_underlying hud, sizeOf, typeInfo, zeroValue, hi, hz, hlen, hcn, h63', h48', Question.forced, ho, hw, newRow]
  · rename_i hud
    simp [Builtin.append_, run_underlying hu, run_underlying hud, sizeOf, typeInfo, zeroValue, hi, hz, hlen, hcn, h63', h48', Question.forced, ho, hw, newRow]
  · cases hnz
theorem room_run {t u e : TypeId} {i : TypeInfo} (hu : P.underlying t = some (.slice e)) (hnz : appSrc P u = true) (hi : P.info? e = some i)
    {a : Addr} {l c n : Nat} {x : Value} {new : Array Value} (hc : l + n ≤ c)
    (hlen : (Builtin.lenOf x).run P w = .ok n w) (hnew : (Builtin.firstCells i.size n x).run P w = .ok new w) {w' : World} (hst : (storeCells (a.add (l * i.size)) new.toList).run P w = .ok () w') (ty : TypeId) :
    (Builtin.append_ #[t, u] ty #[.slice (some a) l c, x]).run P w = .ok (.slice (some a) (l + n) c) w' := by
  unfold appSrc at hnz
  split at hnz
  · rename_i e' hud
    simp [Builtin.append_, run_underlying hu, run_underlying hud, sizeOf, typeInfo, hi, hlen, hc, hnew, hst]
  · rename_i hud
    simp [Builtin.append_, run_underlying hu, run_underlying hud, sizeOf, typeInfo, hi, hlen, hc, hnew, hst]
  · cases hnz
theorem none_run {t u e : TypeId} {i : TypeInfo} (hu : P.underlying t = some (.slice e)) (hnz : appSrc P u = true) (hi : P.info? e = some i)
    {x : Value} {new : Array Value} (hlen : (Builtin.lenOf x).run P w = .ok 0 w) (hnew : (Builtin.firstCells i.size 0 x).run P w = .ok new w) (ty : TypeId) :
    (Builtin.append_ #[t, u] ty #[.slice none 0 0, x]).run P w = .ok (.slice none 0 0) w := by
  unfold appSrc at hnz
  split at hnz
  · rename_i e' hud
    simp [Builtin.append_, run_underlying hu, run_underlying hud, sizeOf, typeInfo, hi, hlen, hnew]
  · rename_i hud
    simp [Builtin.append_, run_underlying hu, run_underlying hud, sizeOf, typeInfo, hi, hlen, hnew]
  · cases hnz
end
end Go.Eng
end
section
namespace Go.Eng
section
variable {E : Env} {H : AHeap} {w : World} {P : Program}
theorem srcA_length {z n : Nat} {x : AV} {c : List AV} (h : srcA H z n x = some c) (hl : ∀ l, lenA x = some l → n ≤ l) : c.length = n * z := by
  unfold srcA at h
  split at h
  · split at h
    · rename_i h0
      cases h; subst h0; simp
    · cases h
  · split at h
    · split at h
      · cases h; simp; omega
      · cases h
    · cases h
  · split at h
    · cases h; simp; omega
    · cases h
  · rename_i s
    split at h
    · rename_i h1
      cases h
      have := hl s.length rfl
      subst h1
      simp
      omega
    · cases h
  · cases h
theorem drew_ext : Env.Ext E E w w.drew := ⟨fun _ _ h => h, fun _ h => h, fun _ _ => rfl, fun _ _ _ h => h⟩
theorem drew_rel (h : Rel E H w) : Rel E H w.drew := h.of_heap rfl
theorem Step.rename (hR : Rel E H w) {i : Nat} {o o' : AObj} {L L' : Loc} {w' : World} (hg : H.get i = some o) (hρ : E.ρ i = some L) (hLb : L'.b = L.b) (hsz : w'.heap.size = w.heap.size) (hoth : ∀ b, b ≠ L.b → w'.heap[b]? = w.heap[b]?)
    (h1 : w'.os = w.os) (h2 : w'.tape = w.tape) (h3 : w'.output = w.output) (hO : Env.Ext E (E.add H.next L') w w' → ObjR (E.add H.next L') w' L' o') :
    Step E H w (E.add H.next L') ((H.set i none).add o') w' := by
  have hn : E.ρ H.next = none := by
    cases h : E.ρ H.next with
    | none => rfl
    | some L => exact absurd (hR.dom _ _ h).1 (Nat.lt_irrefl _)
  have hin : i < H.next := (hR.dom i L hρ).1
  have hnI : ¬ E.I L.b := by
    obtain ⟨L'', q1, _, q3⟩ := hR.obj i o hg
    rw [hρ] at q1
    cases q1
    exact q3
  have hext : Env.Ext E (E.add H.next L') w w' := by
    refine ⟨fun j L h => ?_, fun _ h => h, fun b hb => hoth b (fun e => hnI (e ▸ hb)), fun _ _ _ h => h⟩
    simp only [Env.add]
    rw [if_neg (fun e => by rw [e, hn] at h; cases h)]
    exact h
  have hget : ∀ j, ((H.set i none).add o').get j = if j = H.next then some o' else if j = i then none else H.get j := by
    intro j
    rw [AHeap.get_add]
    show (if j = H.next then some o' else (H.set i none).get j) = _
    rw [AHeap.get_set]
  refine ⟨hext, ⟨?_, ?_, ?_, ?_⟩, ⟨h1, h2, h3, by omega, ?_⟩, ?_, Nat.le_succ _, ?_, fun _ h => .inl h⟩
  · intro j Lj h
    simp only [Env.add] at h
    split at h
    · rename_i e
      cases h
      refine ⟨?_, ?_⟩
      · show j < H.next + 1
        omega
      · rw [hLb, hsz]
        exact (hR.dom i L hρ).2
    · have := hR.dom j Lj h
      refine ⟨?_, by omega⟩
      show j < H.next + 1
      omega
  · intro b hb
    have := hR.imm b hb
    omega
  · intro j p h
    rw [hget] at h
    split at h
    · rename_i e
      subst e
      cases h
      exact ⟨L', by simp [Env.add], hO hext, by rw [hLb]; exact hnI⟩
    · split at h
      · cases h
      · rename_i e1 e2
        obtain ⟨Lj, q1, q2, q3⟩ := hR.obj j p h
        exact ⟨Lj, hext.ρ _ _ q1, ObjR.mono hext (hoth _ (hR.inj j i p o Lj L h hg q1 hρ e2)) q2, q3⟩
  · intro j k p q Lj Lk hj hk hρj hρk hne
    rw [hget] at hj hk
    simp only [Env.add] at hρj hρk
    split at hj
    · rename_i e
      rw [if_pos e] at hρj
      cases hρj
      split at hk
      · rename_i e'; exact absurd (e.trans e'.symm) hne
      · split at hk
        · cases hk
        · rename_i e1 e2
          rw [if_neg e1] at hρk
          rw [hLb]
          exact fun e => hR.inj k i q o Lk L hk hg hρk hρ e2 e.symm
    · split at hj
      · cases hj
      · rename_i e1 e2
        rw [if_neg e1] at hρj
        split at hk
        · rename_i e
          rw [if_pos e] at hρk
          cases hρk
          rw [hLb]
          exact hR.inj j i p o Lj L hj hg hρj hρ e2
        · split at hk
          · cases hk
          · rename_i e3 e4
            rw [if_neg e3] at hρk
            exact hR.inj j k p q Lj Lk hj hk hρj hρk hne
  · intro b hb hnb
    exact hoth b (fun e => hnb i o L hg hρ e.symm)
  · intro j p Lj hj hρj
    rw [hget] at hj
    simp only [Env.add] at hρj
    split at hj
    · rename_i e
      rw [if_pos e] at hρj
      cases hρj
      exact .inr ⟨i, o, L, hg, hρ, hLb.symm⟩
    · split at hj
      · cases hj
      · rename_i e1 e2
        rw [if_neg e1] at hρj
        exact .inr ⟨j, p, Lj, hj, hρj, rfl⟩
  · intro j Lj h
    simp only [Env.add] at h
    split at h
    · rename_i e; exact .inr (by omega)
    · exact .inl h
theorem Step.forget {E' : Env} {H' H'' : AHeap} {w' : World} (h : Step E H w E' H' w') (hn : H''.next = H'.next) (hs : ∀ j o, H''.get j = some o → H'.get j = some o) : Step E H w E' H'' w' where
  ext := h.ext
  rel := ⟨fun i L hi => by rw [hn]; exact h.rel.dom i L hi, h.rel.imm, fun i o hg => h.rel.obj i o (hs i o hg), fun i j o o' L L' hi hj => h.rel.inj i j o o' L L' (hs i o hi) (hs j o' hj)⟩
  fr := h.fr
  nb := fun i o L hg hρ => h.nb i o L (hs i o hg) hρ
  nx := by rw [hn]; exact h.nx
  ids := h.ids
  imm := h.imm
theorem grow_step (hR : Rel E H w) {H1 : AHeap} (hH1 : H1 = H) {cs news : List AV} {olds new : Array Value} {zv : Value} {e : TypeId} {w0 : World} {l n cap z : Nat} (hcap : l + n ≤ cap) (hw : w0.heap = w.heap) (h1 : w0.os = w.os) (h2 : w0.tape = w.tape) (h3 : w0.output = w.output)
    (ho : AVRelL E w.drew cs olds.toList) (hn : AVRelL E w.drew news new.toList) (hcl : cs.length = l * z) (hnl : news.length = n * z) (hz : zv.cells.size = z) :
    Step E H w (E.add H.next ⟨w.heap.size, 0, cap⟩) (H.add (.cells (cs ++ news) (some z))) (w0.alloc (.cells (olds ++ new ++ Builtin.zeroCells zv.cells (cap - (l + n))) e)) ∧
    AVRel (E.add H.next ⟨w.heap.size, 0, cap⟩) (w0.alloc (.cells (olds ++ new ++ Builtin.zeroCells zv.cells (cap - (l + n))) e)) (.sl H.next 0 (l + n) openCap) (.slice (some ⟨w.heap.size, 0, none⟩) (l + n) cap) := by
  have hb : Env.Ext E E w.drew w := ⟨fun _ _ h => h, fun _ h => h, fun _ _ => rfl, fun _ _ _ h => h⟩
  have hl1 := ho.length
  have hl2 := hn.length
  have hz0 : ∀ k, (Builtin.zeroCells zv.cells k).toList.length = k * z := fun k => by rw [rest_len, hz]
  refine ⟨?_, sl_new hcap⟩
  have := Step.newRow (t := e) (z := z) (room := cap) (opn := some z) hR hw h1 h2 h3 (cs := cs ++ news) (us := olds.toList ++ new.toList) (rest := (Builtin.zeroCells zv.cells (cap - (l + n))).toList)
    (AVRelL.append (AVRelL.mono hb _ _ ho) (AVRelL.mono hb _ _ hn)) (.inr ⟨rfl, ?_⟩) ?_
  · have e1 : (olds.toList ++ new.toList ++ (Builtin.zeroCells zv.cells (cap - (l + n))).toList).toArray = olds ++ new ++ Builtin.zeroCells zv.cells (cap - (l + n)) := by
      apply Array.toList_inj.1
      simp
    rw [e1] at this
    exact this
  · rw [List.length_append, hl1, hl2, hcl, hnl, ← Nat.add_mul]
    exact Nat.mul_le_mul_right z hcap
  · rw [List.length_append, hl1, hl2, hcl, hnl, hz0, ← Nat.add_mul, ← Nat.add_mul]
    exact Nat.mul_le_mul_right z (by omega)
set_option maxHeartbeats 1000000 in
theorem app_sound (hR : Rel E H w) {t u e : TypeId} {i : TypeInfo} {zv : Value} (hu : P.underlying t = some (.slice e)) (hnz : appSrc P u = true) (hi : P.info? e = some i) (hz : i.zero = some zv) (hzs : zv.cells.size = i.size)
    {x y r : AV} {p q : Value} (hx : AVRel E w x p) (hy : AVRel E w y q) {H' : AHeap} (h : appA H i.size i.bytes x y = .eff r H') (ty : TypeId) :
    ∃ v w' E', (Builtin.append_ #[t, u] ty #[p, q]).run P w = .ok v w' ∧ Step E H w E' H' w' ∧ AVRel E' w' r v := by
  unfold appA at h
  split at h
  · cases h
  · rename_i n hn
    split at h
    · cases h
    · rename_i new hsrc
      split at h
      · cases h
      · rename_i hc0
        simp only [not_or, Bool.not_eq_true, Bool.not_eq_false', Nat.not_lt] at hc0
        obtain ⟨hone, hby⟩ := hc0
        have hone' : new.all AV.oneCell = true := by simpa using hone
        have hlen := len_sound (P := P) hn hy
        have hnl := srcA_length hsrc (fun l q => by rw [hn] at q; cases q; exact Nat.le_refl _)
        obtain ⟨us, hfirst, hus⟩ := src_sound (P := P) hR hsrc hy (fun l q => by rw [hn] at q; cases q; exact Nat.le_refl _)
        obtain ⟨usd, hfirstd, husd⟩ := src_sound (P := P) (drew_rel hR) hsrc (AVRel.mono drew_ext _ _ hy) (fun l q => by rw [hn] at q; cases q; exact Nat.le_refl _)
        split at h
        · simp only [AVRel] at hx
          subst hx
          split at h
          · rename_i h0
            cases h
            subst h0
            exact ⟨_, w, E, none_run hu hnz hi hlen hfirst ty, Step.refl hR, by simp [AVRel]⟩
          · split at h
            · cases h
            · rename_i h0 h30
              cases h
              obtain ⟨cap, w0, q1, q2, q3, q4, q5, q6⟩ := grow_run (P := P) (w := w) hu hnz hi hz hby (ad := none) (l := 0) (c := 0) (n := n) (x := q) (old := #[]) (new := usd) (by omega) (by omega) hlen rfl hfirstd ty
              obtain ⟨s1, s2⟩ := grow_step (e := e) hR rfl (cs := []) (olds := #[]) q1 q2 q3 q4 q5 (by simp [AVRelL]) husd (by simp) hnl hzs
              simp only [Nat.zero_add, List.nil_append] at q6 s1 s2
              exact ⟨_, _, _, q6, s1, s2⟩
        · rename_i cs l full
          have hx0 := hx
          simp only [AVRel] at hx
          rcases hx with ⟨rfl, rfl, a, c, rfl, hf⟩ | ⟨b, s, c, us0, rfl, hI, hcell, hrel, hle, hf⟩
          · split at h
            · simp at h
            · split at h
              · cases h
              · rename_i h0 hc1
                cases h
                simp only [not_or, Nat.not_lt, Bool.not_eq_true, Bool.not_eq_false'] at hc1
                obtain ⟨hc1, hc2, hc3⟩ := hc1
                have hfull : full = true := by simpa using hc2
                have hcl := hf hfull
                subst hcl
                obtain ⟨od, hfo, hodr⟩ := src_sound (P := P) (drew_rel hR) (show srcA H i.size 0 (.imm [] 0 full) = some [] by simp [srcA]) (AVRel.mono drew_ext _ _ hx0) (fun l' q => by cases q; exact Nat.le_refl _)
                obtain ⟨cap, w0, q1, q2, q3, q4, q5, q6⟩ := grow_run (P := P) (w := w) hu hnz hi hz hby (ad := a) (l := 0) (c := 0) (n := n) (x := q) (by omega) (by omega) hlen hfo hfirstd ty
                obtain ⟨s1, s2⟩ := grow_step (e := e) hR rfl q1 q2 q3 q4 q5 hodr husd (by simp) hnl hzs
                simp only [Nat.zero_add, List.nil_append, Nat.zero_mul, List.take_nil] at q6 s1 s2 ⊢
                exact ⟨_, _, _, q6, s1, s2⟩
          split at h
          · rename_i h0
            split at h
            · cases h
            cases h
            subst h0
            have hus0 : us.toList = [] := by
              apply List.eq_nil_of_length_eq_zero
              rw [hus.length, hnl]
              simp
            refine ⟨_, w, E, room_run (w' := w) hu hnz hi (by omega) hlen hfirst (by rw [hus0]; rfl) ty, Step.refl hR, ?_⟩
            exact hx0
          · split at h
            · cases h
            · rename_i h0 hc1
              cases h
              simp only [not_or, Nat.not_lt, Bool.not_eq_true, Bool.not_eq_false'] at hc1
              obtain ⟨hc1, hc2, hc3⟩ := hc1
              have hfull : full = true := by simpa using hc2
              have hcl := hf hfull
              subst hcl
              have hso : srcA H i.size c (.imm cs c full) = some (cs.take (c * i.size)) := by simp only [srcA]; rw [if_pos hc3]
              obtain ⟨od, hfo, hodr⟩ := src_sound (P := P) (drew_rel hR) hso (AVRel.mono drew_ext _ _ hx0) (fun l' q => by cases q; exact Nat.le_refl _)
              obtain ⟨cap, w0, q1, q2, q3, q4, q5, q6⟩ := grow_run (P := P) (w := w) hu hnz hi hz hby (ad := some ⟨b, s, none⟩) (l := c) (c := c) (n := n) (x := q) (by omega) (by omega) hlen hfo hfirstd ty
              obtain ⟨s1, s2⟩ := grow_step (e := e) hR rfl q1 q2 q3 q4 q5 hodr husd (by simp; omega) hnl hzs
              exact ⟨_, _, _, q6, s1, s2⟩
        · rename_i id o l c
          split at h
          · cases h
          · rename_i h30
            split at h
            · rename_i cs opn hg
              have hx0 := hx
              obtain ⟨L, ad, c', C, t', fz, us0, hρ, rfl, hsl, hle, hb, hrel, hcell, hsp, hfz, hft⟩ := row_sound hR hx hg
              split at h
              · rename_i h0
                cases h
                subst h0
                have hus0 : us.toList = [] := by
                  apply List.eq_nil_of_length_eq_zero
                  rw [hus.length, hnl]
                  simp
                exact ⟨_, w, E, room_run (w' := w) hu hnz hi (by omega) hlen hfirst (by rw [hus0]; rfl) ty, Step.refl hR, hx0⟩
              · rename_i h0
                have husl : us.toList.length = n * i.size := by rw [hus.length, hnl]
                have honeu := AVRelL.oneCell hus hone'
                split at h
                · cases h
                · rename_i hol
                  have hso : srcA H i.size l (.sl id o l c) = some ((cs.drop o).take (l * i.size)) := by simp only [srcA, hg]; rw [if_pos (by omega)]
                  have growth : c' < l + n → ∃ v w' E', (Builtin.append_ #[t, u] ty #[.slice (some ad) l c', q]).run P w = .ok v w' ∧ Step E H w E' (H.add (.cells ((cs.drop o).take (l * i.size) ++ new) (some i.size))) w' ∧ AVRel E' w' (.sl H.next 0 (l + n) openCap) v := by
                    intro hlt
                    obtain ⟨od, hfo, hodr⟩ := src_sound (P := P) (drew_rel hR) hso (AVRel.mono drew_ext _ _ hx0) (fun l' q => by cases q; exact Nat.le_refl _)
                    obtain ⟨cap, w0, q1, q2, q3, q4, q5, q6⟩ := grow_run (P := P) (w := w) hu hnz hi hz hby (ad := some ad) (l := l) (c := c') (n := n) (x := q) hlt (by omega) hlen hfo hfirstd ty
                    obtain ⟨s1, s2⟩ := grow_step (e := e) hR rfl q1 q2 q3 q4 q5 hodr husd (by simp; omega) hnl hzs
                    exact ⟨_, _, _, q6, s1, s2⟩
                  have hspan := span_ge L cs.length opn
                  -- the store into the object's own cells
                  have inplace : ad = ⟨L.b, L.s + o, none⟩ → l + n ≤ c' → o + (l + n) * i.size ≤ span L cs.length opn →
                      (Builtin.append_ #[t, u] ty #[.slice (some ad) l c', q]).run P w = .ok (.slice (some ad) (l + n) c') (w.setCells L.b (L.s + (o + l * i.size)) us.toList) := by
                    intro had hcap hin
                    subst had
                    refine room_run hu hnz hi hcap hlen hfirst ?_ ty
                    rw [add_plain, Nat.add_assoc]
                    refine storeCells_run hb ?_ (fun j hj => ?_) honeu
                    · rw [husl]
                      rw [Nat.add_mul] at hin
                      omega
                    · rw [husl] at hj
                      rw [Nat.add_mul] at hin
                      have := hfz (o + l * i.size + j) (by omega)
                      omega
                  split at h
                  · rename_i hcc
                    have hcx : c' = c ∧ (c = 0 ∨ ad = ⟨L.b, L.s + o, none⟩) := by
                      rcases hsl with ⟨_, q1, q2⟩ | ⟨q, _⟩
                      · exact ⟨q1, q2⟩
                      · omega
                    obtain ⟨rfl, hadr⟩ := hcx
                    split at h
                    · rename_i hroom
                      split at h
                      · rename_i hin
                        cases h
                        have had : ad = ⟨L.b, L.s + o, none⟩ := by
                          rcases hadr with q | q
                          · omega
                          · exact q
                        have hin' : o + (l + n) * i.size ≤ cs.length := hin
                        have hmul : (l + n) * i.size = l * i.size + n * i.size := Nat.add_mul _ _ _
                        refine ⟨_, _, E, inplace had hroom (by omega), Step.write hR hg hρ hb hrel hcell hsp hfz hft hus (by rw [hnl]; omega) (by omega) rfl, ?_⟩
                        simp only [AVRel]
                        refine ⟨L, ad, c', hρ, rfl, ?_, hroom⟩
                        rcases hsl with ⟨q0, q1, q2⟩ | ⟨q, _⟩
                        · exact .inl ⟨q0, q1, q2⟩
                        · omega
                      · cases h
                    · cases h
                      exact growth (by omega)
                  · rename_i hcc
                    split at h
                    · cases h
                    · rename_i hk
                      simp only [Bool.or_eq_true, Bool.not_eq_true', beq_eq_false_iff_ne, ne_eq, beq_iff_eq, decide_eq_true_eq, not_or, Decidable.not_not, Nat.not_lt] at hk
                      obtain ⟨⟨⟨hopn, hko⟩, hz0⟩, hcoc⟩ := hk
                      subst hopn
                      have hsl' : (∃ k, c + k = openCap ∧ c' + k = L.room) ∧ (ad = ⟨L.b, L.s + o, none⟩ ∨ (l = 0 ∧ c' = 0)) := by
                        rcases hsl with ⟨q, _⟩ | ⟨_, q⟩
                        · omega
                        · exact q
                      obtain ⟨⟨k, hk1, hk2⟩, hadr⟩ := hsl'
                      have hkk : openCap - c = k := by omega
                      rw [hkk] at hko
                      have hroomz : L.room * i.size = c' * i.size + o := by rw [← hk2, Nat.add_mul, hko]
                      simp only [fits] at hft
                      have hmul : (l + n) * i.size = l * i.size + n * i.size := Nat.add_mul _ _ _
                      have hspz : span L cs.length (some i.size) = L.room * i.size := by unfold span; simp only; omega
                      split at h
                      · rename_i hin
                        cases h
                        have hcap : l + n ≤ c' := by
                          have : (l + n) * i.size ≤ c' * i.size := by omega
                          exact Nat.le_of_mul_le_mul_right this (by omega)
                        have had : ad = ⟨L.b, L.s + o, none⟩ := by
                          rcases hadr with q | q
                          · exact q
                          · omega
                        refine ⟨_, _, E, inplace had hcap (by omega), Step.write hR hg hρ hb hrel hcell hsp hfz hft hus (by rw [hnl]; omega) (by omega) rfl, ?_⟩
                        simp only [AVRel]
                        exact ⟨L, ad, c', hρ, rfl, .inr ⟨by omega, ⟨k, hk1, hk2⟩, .inl had⟩, hcap⟩
                      · rename_i hin
                        cases h
                        by_cases hcap : l + n ≤ c'
                        · have had : ad = ⟨L.b, L.s + o, none⟩ := by
                            rcases hadr with q | q
                            · exact q
                            · omega
                          have hcm : (l + n) * i.size ≤ c' * i.size := Nat.mul_le_mul_right _ hcap
                          obtain ⟨q1, q2, q3, q4, q5, q6⟩ := setCells_heap L.b us.toList (L.s + (o + l * i.size)) w C t' fz hb
                          refine ⟨_, _, E.add H.next ⟨L.b, L.s + o, c'⟩, inplace had hcap (by omega), Step.rename hR hg hρ rfl q3 q2 q4 q5 q6 (fun hext => ?_), ?_⟩
                          · have hlu := hrel.length
                            refine ⟨_, t', fz, (us0.drop o).take (l * i.size) ++ us.toList, q1, AVRelL.append (AVRelL.mono hext _ _ ((hrel.drop o).take _)) (AVRelL.mono hext _ _ hus), ?_, ?_, ?_, ?_⟩
                            · intro j v hj
                              rw [putCells_get _ _ _ _ (by rw [husl]; omega)]
                              by_cases hjl : j < l * i.size
                              · rw [if_neg (by simp only; omega)]
                                rw [List.getElem?_append_left (by simp; omega), List.getElem?_take, if_pos hjl, List.getElem?_drop] at hj
                                simp only
                                rw [Nat.add_assoc]
                                exact hcell _ _ hj
                              · rw [List.getElem?_append_right (by simp; omega)] at hj
                                have hmin : ((us0.drop o).take (l * i.size)).length = l * i.size := by simp; omega
                                rw [hmin] at hj
                                have hjn : j - l * i.size < us.toList.length := by
                                  rcases Nat.lt_or_ge (j - l * i.size) us.toList.length with q | q
                                  · exact q
                                  · rw [List.getElem?_eq_none q] at hj; cases hj
                                rw [if_pos (by simp only; omega)]
                                rw [← hj]
                                congr 1
                                simp only
                                omega
                            · rw [putCells_size]
                              simp only [span, List.length_append, List.length_take, List.length_drop, hnl]
                              omega
                            · intro j hj
                              simp only [span, List.length_append, List.length_take, List.length_drop, hnl] at hj
                              have := hfz (o + j) (by omega)
                              simp only
                              omega
                            · simp only [fits, List.length_append, List.length_take, List.length_drop, hnl]
                              omega
                          · subst had
                            simp only [AVRel]
                            exact ⟨⟨L.b, L.s + o, c'⟩, ⟨L.b, L.s + o, none⟩, c', by simp [Env.add], rfl, .inr ⟨by unfold openAt openCap; decide, ⟨0, rfl, rfl⟩, .inl rfl⟩, hcap⟩
                        · obtain ⟨v, w', E', e1, e2, e3⟩ := growth (by omega)
                          refine ⟨v, w', E', e1, e2.forget rfl (fun j p hj => ?_), e3⟩
                          rw [AHeap.get_add] at hj ⊢
                          have hj' : (if j = H.next then some (AObj.cells ((cs.drop o).take (l * i.size) ++ new) (some i.size)) else (H.set id none).get j) = some p := hj
                          rw [AHeap.get_set] at hj'
                          split at hj'
                          · rename_i ej
                            rw [if_pos ej]
                            exact hj'
                          · rename_i ej
                            rw [if_neg ej]
                            split at hj'
                            · cases hj'
                            · exact hj'
            · cases h
        · cases h
theorem zeroRow (z : Array Value) (n : Nat) (hz : 0 < z.size) : ((Array.range (n * z.size)).map (z[· % z.size]!)).toList = (List.replicate n z.toList).flatten := by
  induction n with
  | zero => simp
  | succ n ih =>
    rw [List.replicate_succ', List.flatten_concat]
    have e : ((Array.range ((n + 1) * z.size)).map (z[· % z.size]!)).toList = ((Array.range (n * z.size)).map (z[· % z.size]!)).toList ++ z.toList := by
      simp only [Array.toList_map, Array.toList_range]
      rw [Nat.add_mul, Nat.one_mul, List.range_add, List.map_append, List.map_map]
      congr 1
      apply List.ext_getElem
      · simp
      · intro k h1 h2
        simp at h1 h2
        simp only [List.getElem_map, List.getElem_range, Function.comp, Nat.mul_add_mod_self_right, Array.getElem_toList]
        rw [Nat.mod_eq_of_lt h2]
        exact getElem!_pos z k h2
    rw [e, ih]
theorem repR {z : List AV} {us : List Value} (h : AVRelL E w z us) : ∀ n, AVRelL E w (List.replicate n z).flatten (List.replicate n us).flatten
  | 0 => by simp [AVRelL]
  | n + 1 => by
    simp only [List.replicate_succ, List.flatten_cons]
    exact AVRelL.append h (repR h n)
theorem mkslice_sound (hR : Rel E H w) {t e : TypeId} {i : TypeInfo} {z : List AV} (hu : P.underlying t = some (.slice e)) (hi : P.info? e = some i) (hz : zeroCells P e = some z) (hzl : z.length = i.size) (hz0 : i.size ≠ 0)
    {l c r : AV} {ul uc : Value} (hl : AVRel E w l ul) (hc : AVRel E w c uc) {H' : AHeap} (h : mkSliceA H z i.bytes l c = .eff r H') :
    ∃ v w' E', (Instr.makeSlice t ul uc).run P w = .ok v w' ∧ Step E H w E' H' w' ∧ AVRel E' w' r v := by
  unfold mkSliceA at h
  split at h
  · rename_i l c
    split at h
    · rename_i hcond
      obtain ⟨h1, h2, h3⟩ := hcond
      cases h
      obtain rfl := hl.int_inv
      obtain rfl := hc.int_inv
      obtain ⟨i', zv, hi', hzv, hzr⟩ := zero_sound (E := E) (w := w) hz
      rw [hi] at hi'
      cases hi'
      have hzs : zv.cells.size = i.size := by rw [← Array.length_toList, hzr.length, hzl]
      have hby : (i.bytes : Int) * (c : Int) ≤ 281474976710656 := by
        have : i.bytes * c ≤ 2 ^ 16 * 2 ^ 24 := Nat.mul_le_mul h3 h2
        have e : (2 : Nat) ^ 16 * 2 ^ 24 = 1099511627776 := by decide
        have h : ((i.bytes * c : Nat) : Int) ≤ 281474976710656 := by omega
        rwa [Int.natCast_mul] at h
      have hrun := run_make (P := P) w t e i zv hu hi hzv .i64 .i64 (l : Int) (c : Int) (by omega) (by omega) hby (by omega)
      simp only [Int.toNat_natCast] at hrun
      have hcells : ((Array.range (c * i.size)).map (zv.cells[· % zv.cells.size]!)).toList = (List.replicate c zv.cells.toList).flatten := by
        have := zeroRow zv.cells c (by omega)
        rw [hzs] at this ⊢
        exact this
      have hstep := Step.newRow (w0 := w) (t := e) (z := 0) (room := c) (opn := none) hR rfl rfl rfl rfl (repR hzr c) (.inl rfl) (rest := []) (by omega)
      rw [List.append_nil, ← hcells, Array.toArray_toList] at hstep
      refine ⟨.slice (some ⟨w.heap.size, 0, none⟩) l c, _, _, ?_, hstep, ?_⟩
      · exact hrun
      · simp only [AVRel]
        exact ⟨⟨w.heap.size, 0, c⟩, ⟨w.heap.size, 0, none⟩, c, by simp [Env.add], rfl, .inl ⟨by unfold openAt; omega, rfl, .inr rfl⟩, h1⟩
    · cases h
  · cases h
end
end Go.Eng
end
section
namespace Go.Eng
section
variable {E : Env} {H : AHeap} {w : World} {P : Program}
theorem copy_sound (hR : Rel E H w) {t u e : TypeId} {i : TypeInfo} (hu : P.underlying t = some (.slice e)) (hi : P.info? e = some i) {x y : AV} {p q : Value} (hx : AVRel E w x p) (hy : AVRel E w y q)
    {lx ly : Nat} (hlx : lenA x = some lx) (hly : lenA y = some ly) {new : List AV} (hsrc : srcA H i.size (Nat.min ly lx) y = some new) (hone : new.all AV.oneCell = true) {r : AV} {H' : AHeap}
    (h : (match x with
          | .nils => AR.eff (.int .i64 0) H
          | .sl k o _ _ => match H.get k with
            | some (.cells c opn) => if o + Nat.min ly lx * i.size ≤ c.length then AR.eff (.int .i64 (Nat.min ly lx)) (H.set k (some (.cells (overA c o new) opn))) else .fail
            | _ => .fail
          | _ => .fail) = .eff r H') (ty : TypeId) :
    ∃ v w', (Builtin.copy_ #[t, u] ty #[p, q]).run P w = .ok v w' ∧ Step E H w E H' w' ∧ AVRel E w' r v := by
  have hlen := len_sound (P := P) hly hy
  have hnl := srcA_length hsrc (fun l q => by rw [hly] at q; cases q; exact Nat.min_le_left _ _)
  obtain ⟨us, hfirst, hus⟩ := src_sound (P := P) hR hsrc hy (fun l q => by rw [hly] at q; cases q; exact Nat.min_le_left _ _)
  split at h
  · cases h
    simp only [AVRel] at hx
    subst hx
    simp only [lenA, Option.some.injEq] at hlx
    subst hlx
    have hm : Nat.min ly 0 = 0 := Nat.min_zero ly
    rw [hm] at hfirst
    refine ⟨.int .i64 0, w, ?_, Step.refl hR, by simp [AVRel]⟩
    simp [Builtin.copy_, run_underlying hu, hlen, sizeOf, typeInfo, hi, hm, hfirst, goInt]
  · rename_i k o l c
    split at h
    · rename_i cs opn hg
      split at h
      · rename_i hin
        cases h
        obtain ⟨L, ad, c', C, t', fz, us0, hρ, rfl, hsl, hle, hb, hrel, hcell, hsp, hfz, hft⟩ := row_sound hR hx hg
        simp only [lenA, Option.some.injEq] at hlx
        subst hlx
        have husl : us.toList.length = Nat.min ly l * i.size := by rw [hus.length, hnl]
        have honeu := AVRelL.oneCell hus hone
        have hspan := span_ge L cs.length opn
        by_cases h0 : l = 0
        · subst h0
          have hm : Nat.min ly 0 = 0 := Nat.min_zero ly
          rw [hm] at hfirst husl hnl ⊢
          have hus0 : us.toList = [] := List.eq_nil_of_length_eq_zero (by rw [husl]; simp)
          have hnew0 : new = [] := List.eq_nil_of_length_eq_zero (by rw [hnl]; simp)
          subst hnew0
          refine ⟨.int .i64 0, w, ?_, ?_, by simp [AVRel]⟩
          · have hst : (storeCells ad us.toList).run P w = .ok () w := by rw [hus0]; rfl
            simp [Builtin.copy_, run_underlying hu, hlen, sizeOf, typeInfo, hi, hm, hfirst, hst, goInt]
          · have := Step.write (o := 0) (vs := []) hR hg hρ hb hrel hcell hsp hfz hft (new := []) (by simp [AVRelL]) (by simp) (by omega) rfl
            have e : overA cs o [] = overA cs 0 [] := by simp [overA]
            rw [e]
            exact this
        · have had := hsl.addr hle h0
          subst had
          have hst := storeCells_run (P := P) hb (o := L.s + o) (vs := us.toList) (by rw [husl]; omega) (fun j hj => by rw [husl] at hj; have := hfz (o + j) (by omega); omega) honeu
          refine ⟨.int .i64 (Nat.min ly l), _, ?_, Step.write hR hg hρ hb hrel hcell hsp hfz hft hus (by rw [hnl]; omega) (by omega) rfl, by simp [AVRel]⟩
          simp [Builtin.copy_, run_underlying hu, hlen, sizeOf, typeInfo, hi, hfirst, hst, goInt]
      · cases h
    · cases h
  · cases h
def NewOK (P : Program) (E : Env) (w : World) (n : Nat) (x : AV) (ob : AObj) (r : Result Next) : Prop :=
  ∃ u obj room, r = .ok (.value u) (w.alloc obj) ∧ ∀ E', E'.ρ n = some ⟨w.heap.size, 0, room⟩ → Env.Ext E E' w (w.alloc obj) → AVRel E' (w.alloc obj) x u ∧ ObjR E' (w.alloc obj) ⟨w.heap.size, 0, room⟩ ob
theorem newCells {E' : Env} {cs : List AV} {C : Array Value} {t : TypeId} (hr : AVRelL E' (w.alloc (.cells C t)) cs C.toList) : ObjR E' (w.alloc (.cells C t)) ⟨w.heap.size, 0, 0⟩ (.cells cs none) := by
  have := ObjR.new (E' := E') (w := w) (us := C.toList) (rest := []) (t := t) (z := 0) (room := 0) (opn := none) (cs := cs) (by simpa using hr) (.inl rfl) (by omega)
  simpa using this
theorem ptrNew {E' : Env} {w' : World} {n b room : Nat} (h : E'.ρ n = some ⟨b, 0, room⟩) : AVRel E' w' (.ptr n 0) (.pointer (some ⟨b, 0, none⟩)) := by
  simp only [AVRel]
  exact ⟨_, h, by simp⟩
theorem compBin_cls {op : BinOp} {t : TypeId} {x z : Operand} {y : XOp} (hc : compBin P op t x z = some y) : y.cls = .p := by
  unfold compBin at hc
  simp only [bind] at hc
  obtain ⟨x', hx', hc⟩ := bindSome hc
  obtain ⟨z', hz', hc⟩ := bindSome hc
  have main : (match P.underlying t with
        | some (.int _) | some .string => some (XOp.bin op x' z')
        | some .bool => (keyKinds P t).bind fun K => some (.eqf (op == .neq) K x' z')
        | some (.struct _) | some (.array _ _) => if P.eqGuardType P.depth t then none else (keyKinds P t).bind fun K => some (.eqf (op == .neq) K x' z')
        | some (.slice _) => some (.eqn (op == .neq) .s x' z')
        | some (.map _ _) => some (.eqn (op == .neq) .m x' z')
        | some (.func ..) => some (.eqn (op == .neq) .f x' z')
        | some (.pointer e) => if (sizeT P e).getD 0 ≠ 0 then some (.eqn (op == .neq) .p x' z') else none
        | some (.interface _) => if isNilConst x || isNilConst z then some (.eqn (op == .neq) .i x' z') else none
        | _ => none) = some y → y.cls = .p := by
    intro hc
    split at hc
    · cases hc; rfl
    · cases hc; rfl
    · obtain ⟨K, hK, hc⟩ := bindSome hc
      cases hc; rfl
    · split at hc
      · cases hc
      · obtain ⟨K, hK, hc⟩ := bindSome hc
        cases hc; rfl
    · split at hc
      · cases hc
      · obtain ⟨K, hK, hc⟩ := bindSome hc
        cases hc; rfl
    · cases hc; rfl
    · cases hc; rfl
    · cases hc; rfl
    · split at hc
      · cases hc; rfl
      · cases hc
    · split at hc
      · cases hc; rfl
      · cases hc
    · cases hc
  cases op with
  | eql => exact main hc
  | neq => exact main hc
  | _ => cases hc; rfl
theorem compConv_cls {s d : TypeId} {x : Operand} {y : XOp} (hc : compConv P s d x = some y) : y.cls = .p ∨ y.cls = .r := by
  unfold compConv at hc
  simp only [bind] at hc
  obtain ⟨x', hx', hc⟩ := bindSome hc
  split at hc
  · cases hc; exact .inl rfl
  · cases hc; exact .inl rfl
  · split at hc
    · cases hc; exact .inr rfl
    · cases hc
  · cases hc
theorem compBuiltin_cls {b : Builtin} {ts : List TypeId} {args : List Operand} {y : XOp} (hc : compBuiltin P b ts args = some y) : y.cls ≠ .n ∧ (y.cls = .e → b = .append ∨ b = .delete ∨ b = .copy) := by
  unfold compBuiltin at hc
  split at hc
  · simp only [bind] at hc
    obtain ⟨d, hd, hc⟩ := bindSome hc
    split at hc
    · obtain ⟨_, _, hc⟩ := bindSome hc
      cases hc; simp [XOp.cls]
    · obtain ⟨_, _, hc⟩ := bindSome hc
      cases hc; simp [XOp.cls]
    · cases hc; simp [XOp.cls]
    · obtain ⟨_, _, hc⟩ := bindSome hc
      cases hc; simp [XOp.cls]
    · split at hc
      · cases hc; simp [XOp.cls]
      · cases hc
    · cases hc
  · split at hc
    · simp only [bind] at hc
      obtain ⟨_, _, hc⟩ := bindSome hc
      obtain ⟨_, _, hc⟩ := bindSome hc
      split at hc
      · obtain ⟨_, _, hc⟩ := bindSome hc
        obtain ⟨_, _, hc⟩ := bindSome hc
        cases hc; simp [XOp.cls]
      · cases hc
    · cases hc
  · simp only [bind] at hc
    obtain ⟨_, _, hc⟩ := bindSome hc
    cases hc; simp [XOp.cls]
  · simp only [bind] at hc
    obtain ⟨_, _, hc⟩ := bindSome hc
    cases hc; simp [XOp.cls]
  · split at hc
    · simp only [bind] at hc
      obtain ⟨_, _, hc⟩ := bindSome hc
      obtain ⟨_, _, hc⟩ := bindSome hc
      obtain ⟨_, _, hc⟩ := bindSome hc
      cases hc; simp [XOp.cls]
    · cases hc
  · split at hc
    · simp only [bind] at hc
      obtain ⟨_, _, hc⟩ := bindSome hc
      obtain ⟨_, _, hc⟩ := bindSome hc
      obtain ⟨_, _, hc⟩ := bindSome hc
      cases hc; simp [XOp.cls]
    · cases hc
  · cases hc
theorem comp_new {o : Oper} {y : XOp} (hc : compOp P o = some y) (hy : y.cls = .n) :
    (∃ e z, o.op = .alloc e ∧ zeroCells P e = some z ∧ y = .alloc z) ∨ (∃ e v x, o.op = .box e v ∧ xo v = some x ∧ y = .box x) ∨
    (∃ t n ps e s z qs, o.op = .buildSlice t n ps ∧ P.underlying t = some (.slice e) ∧ sizeT P e = some s ∧ zeroCells P e = some z ∧ ¬ (s = 0 ∨ z.length ≠ s ∨ n * s > 2 ^ 24) ∧ partsX (fun i => some (i * s, s)) ps.toList = some qs ∧ y = .bslice z qs n) ∨
    (∃ t, o.op = .makeMap t none ∧ y = .mkmap) := by
  obtain ⟨dst, op, type, pos, after, guard⟩ := o
  unfold compOp at hc
  cases op <;> simp only [bind, reduceCtorEq] at hc
  case range t x =>
    split at hc
    · obtain ⟨m, _, hc⟩ := bindSome hc
      cases hc
      simp [XOp.cls] at hy
    · cases hc
  case next x b =>
    split at hc
    · cases hc
    · obtain ⟨m, _, hc⟩ := bindSome hc
      cases hc
      simp [XOp.cls] at hy
  case entry x =>
    obtain ⟨m, _, hc⟩ := bindSome hc
    cases hc
    simp [XOp.cls] at hy
  case alloc e =>
    obtain ⟨z, hz, hc⟩ := bindSome hc
    cases hc
    exact .inl ⟨e, z, rfl, hz, rfl⟩
  case box e v =>
    obtain ⟨x, hx, hc⟩ := bindSome hc
    cases hc
    exact .inr (.inl ⟨e, v, x, rfl, hx, rfl⟩)
  case buildSlice t n ps =>
    split at hc
    · rename_i e hu
      obtain ⟨s, hs, hc⟩ := bindSome hc
      obtain ⟨z, hz, hc⟩ := bindSome hc
      split at hc
      · cases hc
      · rename_i hcond
        obtain ⟨qs, hqs, hc⟩ := bindSome hc
        cases hc
        exact .inr (.inr (.inl ⟨t, n, ps, e, s, z, qs, rfl, hu, hs, hz, hcond, hqs, rfl⟩))
    · cases hc
  case makeMap t r =>
    split at hc
    · cases hc
      exact .inr (.inr (.inr ⟨t, rfl, rfl⟩))
    · cases hc
  case move x =>
    obtain ⟨_, _, hc⟩ := bindSome hc
    cases hc
    exact absurd hy (by simp [XOp.cls])
  case assign x =>
    obtain ⟨_, _, hc⟩ := bindSome hc
    cases hc
    exact absurd hy (by simp [XOp.cls])
  case pick c a b =>
    obtain ⟨_, _, hc⟩ := bindSome hc
    obtain ⟨_, _, hc⟩ := bindSome hc
    obtain ⟨_, _, hc⟩ := bindSome hc
    cases hc
    exact absurd hy (by simp [XOp.cls])
  case load t a =>
    obtain ⟨_, _, hc⟩ := bindSome hc
    obtain ⟨_, _, hc⟩ := bindSome hc
    cases hc
    exact absurd hy (by simp [XOp.cls])
  case store t a x =>
    obtain ⟨_, _, hc⟩ := bindSome hc
    obtain ⟨_, _, hc⟩ := bindSome hc
    obtain ⟨_, _, hc⟩ := bindSome hc
    cases hc
    exact absurd hy (by simp [XOp.cls])
  case nilCheck x =>
    obtain ⟨_, _, hc⟩ := bindSome hc
    cases hc
    exact absurd hy (by simp [XOp.cls])
  case unOp op t x =>
    obtain ⟨_, _, hc⟩ := bindSome hc
    cases hc
    exact absurd hy (by simp [XOp.cls])
  case extract x i =>
    obtain ⟨_, _, hc⟩ := bindSome hc
    cases hc
    exact absurd hy (by simp [XOp.cls])
  case build t ps =>
    obtain ⟨_, _, hc⟩ := bindSome hc
    split at hc
    · obtain ⟨_, _, hc⟩ := bindSome hc
      obtain ⟨_, _, hc⟩ := bindSome hc
      cases hc
      exact absurd hy (by simp [XOp.cls])
    · obtain ⟨_, _, hc⟩ := bindSome hc
      obtain ⟨_, _, hc⟩ := bindSome hc
      cases hc
      exact absurd hy (by simp [XOp.cls])
    · cases hc
  case makeInterface t x =>
    split at hc
    · cases hc
    · obtain ⟨_, _, hc⟩ := bindSome hc
      cases hc
      exact absurd hy (by simp [XOp.cls])
    · cases hc
  case makeFunc fn first cs =>
    split at hc
    · split at hc
      · obtain ⟨_, _, hc⟩ := bindSome hc
        cases hc
        exact absurd hy (by simp [XOp.cls])
      · cases hc
    · cases hc
  case makeSlice t l c =>
    split at hc
    · obtain ⟨_, _, hc⟩ := bindSome hc
      obtain ⟨_, _, hc⟩ := bindSome hc
      split at hc
      · cases hc
      · obtain ⟨_, _, hc⟩ := bindSome hc
        obtain ⟨_, _, hc⟩ := bindSome hc
        cases hc
        exact absurd hy (by simp [XOp.cls])
    · cases hc
  case slice t x lo hi mx =>
    split at hc
    · obtain ⟨_, _, hc⟩ := bindSome hc
      obtain ⟨_, _, hc⟩ := bindSome hc
      obtain ⟨_, _, hc⟩ := bindSome hc
      obtain ⟨_, _, hc⟩ := bindSome hc
      obtain ⟨_, _, hc⟩ := bindSome hc
      cases hc
      exact absurd hy (by simp [XOp.cls])
    · obtain ⟨_, _, hc⟩ := bindSome hc
      obtain ⟨_, _, hc⟩ := bindSome hc
      obtain ⟨_, _, hc⟩ := bindSome hc
      obtain ⟨_, _, hc⟩ := bindSome hc
      obtain ⟨_, _, hc⟩ := bindSome hc
      cases hc
      exact absurd hy (by simp [XOp.cls])
    · split at hc
      · obtain ⟨_, _, hc⟩ := bindSome hc
        obtain ⟨_, _, hc⟩ := bindSome hc
        obtain ⟨_, _, hc⟩ := bindSome hc
        cases hc
        exact absurd hy (by simp [XOp.cls])
      · cases hc
    · cases hc
  case fieldAddr t x f =>
    split at hc
    · obtain ⟨_, _, hc⟩ := bindSome hc
      obtain ⟨_, _, hc⟩ := bindSome hc
      split at hc
      · cases hc
      · obtain ⟨_, _, hc⟩ := bindSome hc
        cases hc
        exact absurd hy (by simp [XOp.cls])
    · cases hc
  case field t x f =>
    split at hc
    · obtain ⟨_, _, hc⟩ := bindSome hc
      obtain ⟨_, _, hc⟩ := bindSome hc
      obtain ⟨_, _, hc⟩ := bindSome hc
      cases hc
      exact absurd hy (by simp [XOp.cls])
    · cases hc
  case indexAddr t x i =>
    split at hc
    · obtain ⟨_, _, hc⟩ := bindSome hc
      obtain ⟨_, _, hc⟩ := bindSome hc
      obtain ⟨_, _, hc⟩ := bindSome hc
      cases hc
      exact absurd hy (by simp [XOp.cls])
    · obtain ⟨_, _, hc⟩ := bindSome hc
      obtain ⟨_, _, hc⟩ := bindSome hc
      obtain ⟨_, _, hc⟩ := bindSome hc
      cases hc
      exact absurd hy (by simp [XOp.cls])
    · cases hc
  case index t x i =>
    split at hc
    · obtain ⟨_, _, hc⟩ := bindSome hc
      obtain ⟨_, _, hc⟩ := bindSome hc
      obtain ⟨_, _, hc⟩ := bindSome hc
      obtain ⟨_, _, hc⟩ := bindSome hc
      cases hc
      exact absurd hy (by simp [XOp.cls])
    · obtain ⟨_, _, hc⟩ := bindSome hc
      obtain ⟨_, _, hc⟩ := bindSome hc
      cases hc
      exact absurd hy (by simp [XOp.cls])
    · cases hc
  case lookup t m k ok =>
    split at hc
    · obtain ⟨_, _, hc⟩ := bindSome hc
      obtain ⟨_, _, hc⟩ := bindSome hc
      obtain ⟨_, _, hc⟩ := bindSome hc
      obtain ⟨_, _, hc⟩ := bindSome hc
      obtain ⟨_, _, hc⟩ := bindSome hc
      obtain ⟨_, _, hc⟩ := bindSome hc
      cases hc
      exact absurd hy (by simp [XOp.cls])
    · cases hc
  case mapUpdate t m k v =>
    split at hc
    · obtain ⟨_, _, hc⟩ := bindSome hc
      obtain ⟨_, _, hc⟩ := bindSome hc
      obtain ⟨_, _, hc⟩ := bindSome hc
      obtain ⟨_, _, hc⟩ := bindSome hc
      cases hc
      exact absurd hy (by simp [XOp.cls])
    · cases hc
  case insert t m k v =>
    split at hc
    · obtain ⟨_, _, hc⟩ := bindSome hc
      obtain ⟨_, _, hc⟩ := bindSome hc
      obtain ⟨_, _, hc⟩ := bindSome hc
      obtain ⟨_, _, hc⟩ := bindSome hc
      cases hc
      exact absurd hy (by simp [XOp.cls])
    · cases hc
  case binOp op t x z zt => exact absurd ((compBin_cls hc).symm.trans hy) (by decide)
  case convert s d x => exact absurd hy (by rcases compConv_cls hc with h | h <;> rw [h] <;> decide)
  case call c =>
    obtain ⟨cal, args, ats⟩ := c
    cases cal <;> simp only at hc
    case value f =>
      obtain ⟨_, _, hc⟩ := bindSome hc
      obtain ⟨_, _, hc⟩ := bindSome hc
      cases hc
      exact absurd hy (by simp [XOp.cls])
    case invoke => cases hc
    case builtin b => exact absurd hy (compBuiltin_cls hc).1
theorem new_sound {H : AHeap} {tm : Tr AV} {a : Act} (hT : TmR E w tm a.tmps) {o : Oper} {y : XOp} (hc : compOp P o = some y) (hy : y.cls = .n) {n : Nat} {x : AV} {ob : AObj} (h : xop (St.ev tm) H n y = .new x ob) :
    NewOK P E w n x ob ((execOp a.eval o).run P w) := by
  obtain ⟨dst, op, type, pos, after, guard⟩ := o
  rcases comp_new hc hy with ⟨e, z, rfl, hz, rfl⟩ | ⟨e, v, x', rfl, hx', rfl⟩ | ⟨t, m, ps, e, s, z, qs, rfl, hu, hs, hz, hcond, hqs, rfl⟩ | ⟨t, rfl, rfl⟩
  · simp only [xop] at h
    cases h
    obtain ⟨i, zv, hi, hzv, hzr⟩ := zero_sound (E := E) (w := w) hz
    refine ⟨.pointer (some ⟨w.heap.size, 0, none⟩), .cells zv.cells e, 0, ?_, fun E' h1 h2 => ⟨ptrNew h1, newCells (AVRelL.mono h2 _ _ hzr)⟩⟩
    simp [execOp, Instr.alloc, zeroValue, typeInfo, hi, hzv, newVar, newRow]
  · simp only [xop] at h
    split at h
    · rename_i v0 hv
      cases h
      have hr := (ev_rel hT hx' hv).cells_rel
      refine ⟨.pointer (some ⟨w.heap.size, 0, none⟩), .cells (a.eval v).cells e, 0, ?_, fun E' h1 h2 => ⟨ptrNew h1, newCells (AVRelL.mono h2 _ _ hr)⟩⟩
      simp [execOp, Instr.box, newVar, newRow]
    · cases h
  · simp only [xop] at h
    split at h
    · rename_i c hcs
      cases h
      obtain ⟨l, hl, hf⟩ := bindSome hcs
      obtain ⟨i, zv, hi, hzv, hzr⟩ := zero_sound (E := E) (w := w) hz
      have hsz : i.size = s := by
        simp only [sizeT, hi, Option.map_some, Option.some.injEq] at hs
        exact hs
      simp only [not_or, Decidable.not_not, Nat.not_lt] at hcond
      obtain ⟨c1, c2, c3⟩ := hcond
      have hzs : zv.cells.size = s := by rw [← Array.length_toList, hzr.length, c2]
      have hcells : ((Array.range (m * s)).map (zv.cells[· % zv.cells.size]!)).toList = (List.replicate m zv.cells.toList).flatten := by
        have := zeroRow zv.cells m (by omega)
        rw [hzs] at this ⊢
        exact this
      have hrep : AVRelL E w (List.replicate m z).flatten ((Array.range (m * s)).map (zv.cells[· % zv.cells.size]!)).toList := by
        rw [hcells]
        exact repR hzr m
      obtain ⟨c', h1, h2⟩ := fill_sound hT hqs hl hf hrep
      refine ⟨.slice (some ⟨w.heap.size, 0, none⟩) m m, .cells c' e, 0, ?_, fun E' h3 h4 => ⟨?_, newCells (AVRelL.mono h4 _ _ h2)⟩⟩
      · have h24 : ¬ (16777216 < m * s) := by omega
        by_cases h0 : m * s = 0
        · have hm0 : m = 0 := by
            rcases Nat.mul_eq_zero.1 h0 with q | q
            · exact q
            · exact absurd q c1
          subst hm0
          have hr0 : Array.range 0 = (#[] : Array Nat) := rfl
          have h1' : Instr.fill (fun i => some (i * s, s)) #[] (ps.toList.map fun p => (p.1, a.eval p.2)) = some c' := by simpa [hr0] using h1
          simp [execOp, Instr.buildSlice, run_underlying hu, sizeOf, typeInfo, hi, hsz, newRow, hr0, h1']
        · simp [execOp, Instr.buildSlice, run_underlying hu, sizeOf, typeInfo, zeroValue, hi, hsz, hzv, h24, h0, newRow, h1]
      · simp only [AVRel]
        refine ⟨_, ⟨w.heap.size, 0, none⟩, m, h3, rfl, .inl ⟨?_, rfl, .inr rfl⟩, Nat.le_refl _⟩
        have : m ≤ m * s := Nat.le_mul_of_pos_right m (by omega)
        unfold openAt
        omega
    · cases h
  · simp only [xop] at h
    cases h
    refine ⟨.map (some w.heap.size), .map #[] 0, 0, ?_, fun E' h1 h2 => ⟨?_, ?_⟩⟩
    · simp [execOp, Instr.makeMap]
    · simp only [AVRel]
      exact ⟨_, h1, rfl⟩
    · exact ⟨#[], 0, by rw [alloc_heap, if_pos rfl], [], by simp [EntR], by simp, by simp, by simp, by simp⟩
theorem map_two {α β : Type} (f : α → β) (x y : α) : (#[x, y] : Array α).map f = #[f x, f y] := by simp
theorem bindEff {s : Sem Value} {x : AV} {H' : AHeap} (h : ∃ v w' E', s.run P w = .ok v w' ∧ Step E H w E' H' w' ∧ AVRel E' w' x v) : EffOK P E H w x H' ((do pure (Next.value (← s)) : Sem Next).run P w) :=
  let ⟨v, w', E', h1, h2, h3⟩ := h; ⟨_, v, w', E', execV h1, .inl rfl, h2, h3⟩
set_option maxHeartbeats 1000000 in
theorem eff_sound (hR : Rel E H w) {tm : Tr AV} {a : Act} (hT : TmR E w tm a.tmps) {o : Oper} {y : XOp} (hc : compOp P o = some y) (hy : y.cls = .e) {n : Nat} {x : AV} {H' : AHeap} (h : xop (St.ev tm) H n y = .eff x H') :
    EffOK P E H w x H' ((execOp a.eval o).run P w) := by
  obtain ⟨dst, op, type, pos, after, guard⟩ := o
  unfold compOp at hc
  cases op <;> simp only [bind, reduceCtorEq] at hc
  case range t x =>
    split at hc
    · obtain ⟨m, _, hc⟩ := bindSome hc
      cases hc
      simp [xop] at h
    · cases hc
  case next x b =>
    split at hc
    · cases hc
    · obtain ⟨m, _, hc⟩ := bindSome hc
      cases hc
      simp [xop] at h
  case entry x =>
    obtain ⟨m, _, hc⟩ := bindSome hc
    cases hc
    simp [xop] at h
  case store t ad v =>
    obtain ⟨s, hs, hc⟩ := bindSome hc
    obtain ⟨x', hx', hc⟩ := bindSome hc
    obtain ⟨v', hv', hc⟩ := bindSome hc
    cases hc
    simp only [xop] at h
    split at h
    · rename_i a1 x1 h1 h2
      split at h
      · rename_i H1 hst
        cases h
        simp only [execOp]
        exact store_sound hR hs (ev_rel hT hx' h1) (ev_rel hT hv' h2) hst
      · cases h
    · cases h
  case mapUpdate t m k v =>
    split at hc
    · rename_i kt et hu
      obtain ⟨K, hK, hc⟩ := bindSome hc
      obtain ⟨m', hm', hc⟩ := bindSome hc
      obtain ⟨k', hk', hc⟩ := bindSome hc
      obtain ⟨v', hv', hc⟩ := bindSome hc
      cases hc
      simp only [xop] at h
      split at h
      · rename_i i kv vv e1 e2 e3
        split at h
        · rename_i es l hg hl
          split at h
          · rename_i es' hup
            cases h
            simp only [execOp]
            exact upd_sound hR hu hK (ev_rel hT hm' e1) (ev_rel hT hk' e2) (ev_rel hT hv' e3) hg hl hup
          · cases h
        · cases h
      · cases h
    · cases hc
  case insert t m k v =>
    split at hc
    · rename_i kt et hu
      obtain ⟨K, hK, hc⟩ := bindSome hc
      obtain ⟨m', hm', hc⟩ := bindSome hc
      obtain ⟨k', hk', hc⟩ := bindSome hc
      obtain ⟨v', hv', hc⟩ := bindSome hc
      cases hc
      simp only [xop] at h
      split at h
      · rename_i i kv vv e1 e2 e3
        split at h
        · rename_i es l hg hl
          split at h
          · rename_i es' hup
            cases h
            simp only [execOp]
            exact upd_sound hR hu hK (ev_rel hT hm' e1) (ev_rel hT hk' e2) (ev_rel hT hv' e3) hg hl hup
          · cases h
        · cases h
      · cases h
    · cases hc
  case makeSlice t l c =>
    split at hc
    · rename_i e hu
      obtain ⟨i, hi, hc⟩ := bindSome hc
      obtain ⟨z, hz, hc⟩ := bindSome hc
      split at hc
      · cases hc
      · rename_i hcond
        obtain ⟨l', hl', hc⟩ := bindSome hc
        obtain ⟨c', hc', hc⟩ := bindSome hc
        cases hc
        simp only [not_or, Decidable.not_not] at hcond
        simp only [xop] at h
        split at h
        · rename_i lv cv e1 e2
          simp only [execOp]
          exact bindEff (mkslice_sound hR hu hi hz hcond.1 hcond.2 (ev_rel hT hl' e1) (ev_rel hT hc' e2) h)
        · cases h
    · cases hc
  case move x =>
    obtain ⟨_, _, hc⟩ := bindSome hc
    cases hc
    exact absurd hy (by simp [XOp.cls])
  case assign x =>
    obtain ⟨_, _, hc⟩ := bindSome hc
    cases hc
    exact absurd hy (by simp [XOp.cls])
  case pick c a b =>
    obtain ⟨_, _, hc⟩ := bindSome hc
    obtain ⟨_, _, hc⟩ := bindSome hc
    obtain ⟨_, _, hc⟩ := bindSome hc
    cases hc
    exact absurd hy (by simp [XOp.cls])
  case load t a =>
    obtain ⟨_, _, hc⟩ := bindSome hc
    obtain ⟨_, _, hc⟩ := bindSome hc
    cases hc
    exact absurd hy (by simp [XOp.cls])
  case nilCheck x =>
    obtain ⟨_, _, hc⟩ := bindSome hc
    cases hc
    exact absurd hy (by simp [XOp.cls])
  case unOp op t x =>
    obtain ⟨_, _, hc⟩ := bindSome hc
    cases hc
    exact absurd hy (by simp [XOp.cls])
  case extract x i =>
    obtain ⟨_, _, hc⟩ := bindSome hc
    cases hc
    exact absurd hy (by simp [XOp.cls])
  case build t ps =>
    obtain ⟨_, _, hc⟩ := bindSome hc
    split at hc
    · obtain ⟨_, _, hc⟩ := bindSome hc
      obtain ⟨_, _, hc⟩ := bindSome hc
      cases hc
      exact absurd hy (by simp [XOp.cls])
    · obtain ⟨_, _, hc⟩ := bindSome hc
      obtain ⟨_, _, hc⟩ := bindSome hc
      cases hc
      exact absurd hy (by simp [XOp.cls])
    · cases hc
  case makeInterface t x =>
    split at hc
    · cases hc
    · obtain ⟨_, _, hc⟩ := bindSome hc
      cases hc
      exact absurd hy (by simp [XOp.cls])
    · cases hc
  case makeFunc fn first cs =>
    split at hc
    · split at hc
      · obtain ⟨_, _, hc⟩ := bindSome hc
        cases hc
        exact absurd hy (by simp [XOp.cls])
      · cases hc
    · cases hc
  case slice t x lo hi mx =>
    split at hc
    · obtain ⟨_, _, hc⟩ := bindSome hc
      obtain ⟨_, _, hc⟩ := bindSome hc
      obtain ⟨_, _, hc⟩ := bindSome hc
      obtain ⟨_, _, hc⟩ := bindSome hc
      obtain ⟨_, _, hc⟩ := bindSome hc
      cases hc
      exact absurd hy (by simp [XOp.cls])
    · obtain ⟨_, _, hc⟩ := bindSome hc
      obtain ⟨_, _, hc⟩ := bindSome hc
      obtain ⟨_, _, hc⟩ := bindSome hc
      obtain ⟨_, _, hc⟩ := bindSome hc
      obtain ⟨_, _, hc⟩ := bindSome hc
      cases hc
      exact absurd hy (by simp [XOp.cls])
    · split at hc
      · obtain ⟨_, _, hc⟩ := bindSome hc
        obtain ⟨_, _, hc⟩ := bindSome hc
        obtain ⟨_, _, hc⟩ := bindSome hc
        cases hc
        exact absurd hy (by simp [XOp.cls])
      · cases hc
    · cases hc
  case fieldAddr t x f =>
    split at hc
    · obtain ⟨_, _, hc⟩ := bindSome hc
      obtain ⟨_, _, hc⟩ := bindSome hc
      split at hc
      · cases hc
      · obtain ⟨_, _, hc⟩ := bindSome hc
        cases hc
        exact absurd hy (by simp [XOp.cls])
    · cases hc
  case field t x f =>
    split at hc
    · obtain ⟨_, _, hc⟩ := bindSome hc
      obtain ⟨_, _, hc⟩ := bindSome hc
      obtain ⟨_, _, hc⟩ := bindSome hc
      cases hc
      exact absurd hy (by simp [XOp.cls])
    · cases hc
  case indexAddr t x i =>
    split at hc
    · obtain ⟨_, _, hc⟩ := bindSome hc
      obtain ⟨_, _, hc⟩ := bindSome hc
      obtain ⟨_, _, hc⟩ := bindSome hc
      cases hc
      exact absurd hy (by simp [XOp.cls])
    · obtain ⟨_, _, hc⟩ := bindSome hc
      obtain ⟨_, _, hc⟩ := bindSome hc
      obtain ⟨_, _, hc⟩ := bindSome hc
      cases hc
      exact absurd hy (by simp [XOp.cls])
    · cases hc
  case index t x i =>
    split at hc
    · obtain ⟨_, _, hc⟩ := bindSome hc
      obtain ⟨_, _, hc⟩ := bindSome hc
      obtain ⟨_, _, hc⟩ := bindSome hc
      obtain ⟨_, _, hc⟩ := bindSome hc
      cases hc
      exact absurd hy (by simp [XOp.cls])
    · obtain ⟨_, _, hc⟩ := bindSome hc
      obtain ⟨_, _, hc⟩ := bindSome hc
      cases hc
      exact absurd hy (by simp [XOp.cls])
    · cases hc
  case lookup t m k ok =>
    split at hc
    · obtain ⟨_, _, hc⟩ := bindSome hc
      obtain ⟨_, _, hc⟩ := bindSome hc
      obtain ⟨_, _, hc⟩ := bindSome hc
      obtain ⟨_, _, hc⟩ := bindSome hc
      obtain ⟨_, _, hc⟩ := bindSome hc
      obtain ⟨_, _, hc⟩ := bindSome hc
      cases hc
      exact absurd hy (by simp [XOp.cls])
    · cases hc
  case alloc e =>
    obtain ⟨_, _, hc⟩ := bindSome hc
    cases hc
    exact absurd hy (by simp [XOp.cls])
  case box e v =>
    obtain ⟨_, _, hc⟩ := bindSome hc
    cases hc
    exact absurd hy (by simp [XOp.cls])
  case buildSlice t n ps =>
    split at hc
    · obtain ⟨_, _, hc⟩ := bindSome hc
      obtain ⟨_, _, hc⟩ := bindSome hc
      split at hc
      · cases hc
      · obtain ⟨_, _, hc⟩ := bindSome hc
        cases hc
        exact absurd hy (by simp [XOp.cls])
    · cases hc
  case makeMap t r =>
    split at hc
    · cases hc
      exact absurd hy (by simp [XOp.cls])
    · cases hc
  case binOp op t x z zt => exact absurd ((compBin_cls hc).symm.trans hy) (by decide)
  case convert s d x => exact absurd hy (by rcases compConv_cls hc with h | h <;> rw [h] <;> decide)
  case call c =>
    obtain ⟨cal, args, ats⟩ := c
    cases cal <;> simp only at hc
    case value f =>
      exfalso
      obtain ⟨f', hf', hc⟩ := bindSome hc
      obtain ⟨l', hl', hc⟩ := bindSome hc
      cases hc
      simp [xop] at h
    case invoke => cases hc
    case builtin b =>
      have key : ∀ cs : Array Bool, EffOK P E H w x H' ((builtin b ats type cs (args.map a.eval)).run P w) := by
        intro cs
        have hcl := (compBuiltin_cls hc).2 hy
        unfold compBuiltin at hc
        split at hc
        · simp at hcl
        · rename_i t u p q e1 e2
          have e1 := toList_two e1
          have e2 := toList_two e2
          subst e1; subst e2
          simp only [bind] at hc
          split at hc
          · rename_i e hu
            obtain ⟨i, hi, hc⟩ := bindSome hc
            obtain ⟨z, hz, hc⟩ := bindSome hc
            split at hc
            · rename_i hcond
              obtain ⟨p', hp', hc⟩ := bindSome hc
              obtain ⟨q', hq', hc⟩ := bindSome hc
              cases hc
              simp only [Bool.and_eq_true, beq_iff_eq] at hcond
              simp only [xop] at h
              split at h
              · rename_i xv yv h1 h2
                simp only [builtin, map_two]
                exact bindEff (app_sound hR hu hcond.1 hi hz hcond.2 (ev_rel hT hp' h1) (ev_rel hT hq' h2) h _)
              · cases h
            · cases hc
          · cases hc
        · simp at hcl
        · simp at hcl
        · rename_i t t2 m k e1 e2
          have e1 := toList_two e1
          have e2 := toList_two e2
          subst e1; subst e2
          split at hc
          · rename_i kt et hu
            simp only [bind] at hc
            obtain ⟨K, hK, hc⟩ := bindSome hc
            obtain ⟨m', hm', hc⟩ := bindSome hc
            obtain ⟨k', hk', hc⟩ := bindSome hc
            cases hc
            simp only [xop] at h
            split at h
            · rename_i i kv e1 e2
              split at h
              · rename_i es l hg hl
                split at h
                · rename_i es' hdel
                  cases h
                  obtain ⟨w', q1, q2⟩ := del_sound (P := P) hR hu hK (ev_rel hT hm' e1) (ev_rel hT hk' e2) hg hl hdel t2 type
                  simp only [builtin, map_two]
                  exact bindEff ⟨undef, w', E, q1, q2, undef_rel⟩
                · cases h
              · cases h
            · cases h
          · cases hc
        · rename_i t t2 p q e1 e2
          have e1 := toList_two e1
          have e2 := toList_two e2
          subst e1; subst e2
          split at hc
          · rename_i e hu
            simp only [bind] at hc
            obtain ⟨i, hi, hc⟩ := bindSome hc
            obtain ⟨p', hp', hc⟩ := bindSome hc
            obtain ⟨q', hq', hc⟩ := bindSome hc
            cases hc
            simp only [xop] at h
            split at h
            · rename_i xv yv h1 h2
              split at h
              · rename_i lx ly hlx hly
                split at h
                · cases h
                · rename_i new hsrc
                  split at h
                  · cases h
                  · rename_i hone
                    obtain ⟨v, w', q1, q2, q3⟩ := copy_sound (P := P) hR hu hi (ev_rel hT hp' h1) (ev_rel hT hq' h2) hlx hly hsrc (by simpa using hone) h type
                    simp only [builtin, map_two]
                    exact bindEff ⟨v, w', E, q1, q2, q3⟩
              · cases h
            · cases h
          · cases hc
        · cases hc
      simp only [execOp, resolve, invoke, Sem.run_bind]
      exact key _
end
end Go.Eng
end
section
namespace Go.Eng
variable {P : Program}
def CallOK (P : Program) (f : Nat) (args : List AV) (H : AHeap) (v : AV) (H' : AHeap) : Prop :=
  (∃ fn, P.funcs[f]? = some fn ∧ fn.body.isNone = false ∧ (fn.name == "runtime.NumGoroutine") = false) ∧
  ∀ E w us, Rel E H w → AVRelL E w args us → Calls P f us.toArray w fun e w' => ∃ u E', e = .returned u ∧ Step E H w E' H' w' ∧ AVRel E' w' v u
abbrev CF := Nat → List AV → AHeap → Option (AV × AHeap)
def CFok (P : Program) (cf : CF) : Prop := ∀ f args H v H', cf f args H = some (v, H') → CallOK P f args H v H'
structure RStep (E : Env) (H : AHeap) (w : World) (base : Nat) (E' : Env) (H' : AHeap) (w' : World) : Prop where
  ext : Env.Ext E E' w w'
  rel : Rel E' H' w'
  fr : Fr E H w w'
  nb : ∀ i o L, H'.get i = some o → E'.ρ i = some L → w.heap.size ≤ L.b ∨ ∃ j o' L', H.get j = some o' ∧ E.ρ j = some L' ∧ L'.b = L.b
  nx : H.next ≤ H'.next
  ids : ∀ i L, E'.ρ i = some L → E.ρ i = some L ∨ base ≤ i
  imm : ∀ b, E'.I b → E.I b ∨ w.heap.size ≤ b ∨ ∃ j o L, H.get j = some o ∧ E.ρ j = some L ∧ L.b = b
theorem Step.toR {E E' : Env} {H H' : AHeap} {w w' : World} {base : Nat} (h : Step E H w E' H' w') (hb : base ≤ H.next) : RStep E H w base E' H' w' :=
  ⟨h.ext, h.rel, h.fr, h.nb, h.nx, fun i L q => (h.ids i L q).imp id (fun q => Nat.le_trans hb q), h.imm⟩
theorem RStep.refl {E : Env} {H : AHeap} {w : World} {base : Nat} (h : Rel E H w) : RStep E H w base E H w :=
  ⟨Env.Ext.refl _ _, h, Fr.refl _ _ _, fun i o L hg hρ => .inr ⟨i, o, L, hg, hρ, rfl⟩, Nat.le_refl _, fun _ _ h => .inl h, fun _ h => .inl h⟩
theorem RStep.trans {base : Nat} {E1 E2 E3 : Env} {H1 H2 H3 : AHeap} {w1 w2 w3 : World} (a : RStep E1 H1 w1 base E2 H2 w2) (b : RStep E2 H2 w2 base E3 H3 w3) : RStep E1 H1 w1 base E3 H3 w3 where
  ext := a.ext.trans b.ext
  rel := b.rel
  fr := {
    os := b.fr.os.trans a.fr.os
    tape := b.fr.tape.trans a.fr.tape
    output := b.fr.output.trans a.fr.output
    size := Nat.le_trans a.fr.size b.fr.size
    block := by
      intro k hk hn
      have hk2 := Nat.lt_of_lt_of_le hk a.fr.size
      refine (b.fr.block k hk2 (fun i o L hg hρ e => ?_)).trans (a.fr.block k hk hn)
      rcases a.nb i o L hg hρ with h | ⟨j, o', L', h1, h2, h3⟩
      · omega
      · exact hn j o' L' h1 h2 (h3.trans e) }
  nb := by
    intro i o L hg hρ
    rcases b.nb i o L hg hρ with h | ⟨j, o', L', h1, h2, h3⟩
    · exact .inl (Nat.le_trans a.fr.size h)
    · rcases a.nb j o' L' h1 h2 with h | ⟨j', o'', L'', h4, h5, h6⟩
      · exact .inl (h3 ▸ h)
      · exact .inr ⟨j', o'', L'', h4, h5, h6.trans h3⟩
  nx := Nat.le_trans a.nx b.nx
  ids := by
    intro i L h
    rcases b.ids i L h with h | h
    · exact a.ids i L h
    · exact .inr h
  imm := by
    intro k h
    rcases b.imm k h with h | h | ⟨j, o, L, h1, h2, h3⟩
    · exact a.imm k h
    · exact .inr (.inl (Nat.le_trans a.fr.size h))
    · rcases a.nb j o L h1 h2 with h | ⟨j', o', L', h4, h5, h6⟩
      · exact .inr (.inl (h3 ▸ h))
      · exact .inr (.inr ⟨j', o', L', h4, h5, h6.trans h3⟩)
section
variable {E : Env} {w : World}
theorem ofV_ne_new {o : Option AV} {x : AV} {ob : AObj} : AR.ofV o ≠ .new x ob := by cases o <;> simp [AR.ofV]
theorem ofV_ne_eff {o : Option AV} {x : AV} {H : AHeap} : AR.ofV o ≠ .eff x H := by cases o <;> simp [AR.ofV]
theorem appA_ne_new {H : AHeap} {z b : Nat} {x y v : AV} {ob : AObj} : appA H z b x y ≠ .new v ob := by
  intro h
  unfold appA at h
  repeat' (first | (cases h; done) | split at h)
theorem mkSliceA_ne_new {H : AHeap} {z : List AV} {b : Nat} {x y v : AV} {ob : AObj} : mkSliceA H z b x y ≠ .new v ob := by
  intro h
  unfold mkSliceA at h
  repeat' (first | (cases h; done) | split at h)
theorem xop_new_cls {ev : XO → Option AV} {H : AHeap} {n : Nat} {y : XOp} {x : AV} {ob : AObj} (h : xop ev H n y = .new x ob) : y.cls = .n := by
  cases y <;> simp only [xop] at h <;> first
    | rfl
    | exact absurd h ofV_ne_new
    | (cases h; done)
    | (exfalso; repeat' (first | (cases h; done) | exact absurd h ofV_ne_new | exact absurd h appA_ne_new | exact absurd h mkSliceA_ne_new | split at h))
theorem xop_eff_cls {ev : XO → Option AV} {H : AHeap} {n : Nat} {y : XOp} {x : AV} {H' : AHeap} (h : xop ev H n y = .eff x H') : y.cls = .e := by
  cases y <;> simp only [xop] at h <;> first
    | rfl
    | exact absurd h ofV_ne_eff
    | (cases h; done)
    | (exfalso; repeat' (first | (cases h; done) | exact absurd h ofV_ne_eff | split at h))
theorem call_exec {tm : Tr AV} {a : Act} (hT : TmR E w tm a.tmps) {o : Oper} {f : XO} {args : List XO} (hc : compOp P o = some (.call f args)) {g : Nat} {cs l : List AV} (h1 : St.ev tm f = some (.fn g cs)) (h2 : evL (St.ev tm) args = some l)
    (hf : ∃ fn, P.funcs[g]? = some fn ∧ fn.body.isNone = false ∧ (fn.name == "runtime.NumGoroutine") = false) :
    ∃ us, (execOp a.eval o).run P w = .ok (.enter g us.toArray) w ∧ AVRelL E w (l ++ cs) us := by
  obtain ⟨dst, op, type, pos, after, guard⟩ := o
  have key : ∃ fo args0 ats, op = .call ⟨.value fo, args0, ats⟩ ∧ xo fo = some f ∧ args0.toList.mapM xo = some args := by
    unfold compOp at hc
    cases op <;> simp only [bind, reduceCtorEq] at hc
    case range t x =>
      split at hc
      · obtain ⟨m, _, hc⟩ := bindSome hc
        cases hc
      · cases hc
    case next x b =>
      split at hc
      · cases hc
      · obtain ⟨m, _, hc⟩ := bindSome hc
        cases hc
    case entry x =>
      obtain ⟨m, _, hc⟩ := bindSome hc
      cases hc
    case call c =>
      obtain ⟨cal, args0, ats⟩ := c
      cases cal <;> simp only at hc
      case value fo =>
        obtain ⟨f', hf', hc⟩ := bindSome hc
        obtain ⟨l', hl', hc⟩ := bindSome hc
        cases hc
        exact ⟨fo, args0, ats, rfl, hf', hl'⟩
      case invoke => cases hc
      case builtin b =>
        exfalso
        unfold compBuiltin at hc
        split at hc
        · simp only [bind] at hc
          obtain ⟨d, hd, hc⟩ := bindSome hc
          split at hc
          · obtain ⟨_, _, hc⟩ := bindSome hc; cases hc
          · obtain ⟨_, _, hc⟩ := bindSome hc; cases hc
          · cases hc
          · obtain ⟨_, _, hc⟩ := bindSome hc; cases hc
          · split at hc <;> cases hc
          · cases hc
        · split at hc
          · simp only [bind] at hc
            obtain ⟨_, _, hc⟩ := bindSome hc
            obtain ⟨_, _, hc⟩ := bindSome hc
            split at hc
            · obtain ⟨_, _, hc⟩ := bindSome hc
              obtain ⟨_, _, hc⟩ := bindSome hc
              cases hc
            · cases hc
          · cases hc
        · simp only [bind] at hc
          obtain ⟨_, _, hc⟩ := bindSome hc; cases hc
        · simp only [bind] at hc
          obtain ⟨_, _, hc⟩ := bindSome hc; cases hc
        · split at hc
          · simp only [bind] at hc
            obtain ⟨_, _, hc⟩ := bindSome hc
            obtain ⟨_, _, hc⟩ := bindSome hc
            obtain ⟨_, _, hc⟩ := bindSome hc
            cases hc
          · cases hc
        · split at hc
          · simp only [bind] at hc
            obtain ⟨_, _, hc⟩ := bindSome hc
            obtain ⟨_, _, hc⟩ := bindSome hc
            obtain ⟨_, _, hc⟩ := bindSome hc
            cases hc
          · cases hc
        · cases hc
    case binOp => exfalso; have := compBin_cls hc; simp [XOp.cls] at this
    case convert => exfalso; have := compConv_cls hc; simp [XOp.cls] at this
    case move x =>
      obtain ⟨_, _, hc⟩ := bindSome hc
      cases hc
    case assign x =>
      obtain ⟨_, _, hc⟩ := bindSome hc
      cases hc
    case pick c a b =>
      obtain ⟨_, _, hc⟩ := bindSome hc
      obtain ⟨_, _, hc⟩ := bindSome hc
      obtain ⟨_, _, hc⟩ := bindSome hc
      cases hc
    case load t a =>
      obtain ⟨_, _, hc⟩ := bindSome hc
      obtain ⟨_, _, hc⟩ := bindSome hc
      cases hc
    case store t a x =>
      obtain ⟨_, _, hc⟩ := bindSome hc
      obtain ⟨_, _, hc⟩ := bindSome hc
      obtain ⟨_, _, hc⟩ := bindSome hc
      cases hc
    case nilCheck x =>
      obtain ⟨_, _, hc⟩ := bindSome hc
      cases hc
    case unOp op t x =>
      obtain ⟨_, _, hc⟩ := bindSome hc
      cases hc
    case extract x i =>
      obtain ⟨_, _, hc⟩ := bindSome hc
      cases hc
    case alloc e =>
      obtain ⟨_, _, hc⟩ := bindSome hc
      cases hc
    case box e v =>
      obtain ⟨_, _, hc⟩ := bindSome hc
      cases hc
    case build t ps =>
      obtain ⟨_, _, hc⟩ := bindSome hc
      split at hc
      · obtain ⟨_, _, hc⟩ := bindSome hc
        obtain ⟨_, _, hc⟩ := bindSome hc
        cases hc
      · obtain ⟨_, _, hc⟩ := bindSome hc
        obtain ⟨_, _, hc⟩ := bindSome hc
        cases hc
      · cases hc
    case makeInterface t x =>
      split at hc
      · cases hc
      · obtain ⟨_, _, hc⟩ := bindSome hc
        cases hc
      · cases hc
    case makeFunc fn first cs =>
      split at hc
      · split at hc
        · obtain ⟨_, _, hc⟩ := bindSome hc
          cases hc
        · cases hc
      · cases hc
    case makeSlice t l c =>
      split at hc
      · obtain ⟨_, _, hc⟩ := bindSome hc
        obtain ⟨_, _, hc⟩ := bindSome hc
        split at hc
        · cases hc
        · obtain ⟨_, _, hc⟩ := bindSome hc
          obtain ⟨_, _, hc⟩ := bindSome hc
          cases hc
      · cases hc
    case slice t x lo hi mx =>
      split at hc
      · obtain ⟨_, _, hc⟩ := bindSome hc
        obtain ⟨_, _, hc⟩ := bindSome hc
        obtain ⟨_, _, hc⟩ := bindSome hc
        obtain ⟨_, _, hc⟩ := bindSome hc
        obtain ⟨_, _, hc⟩ := bindSome hc
        cases hc
      · obtain ⟨_, _, hc⟩ := bindSome hc
        obtain ⟨_, _, hc⟩ := bindSome hc
        obtain ⟨_, _, hc⟩ := bindSome hc
        obtain ⟨_, _, hc⟩ := bindSome hc
        obtain ⟨_, _, hc⟩ := bindSome hc
        cases hc
      · split at hc
        · obtain ⟨_, _, hc⟩ := bindSome hc
          obtain ⟨_, _, hc⟩ := bindSome hc
          obtain ⟨_, _, hc⟩ := bindSome hc
          cases hc
        · cases hc
      · cases hc
    case fieldAddr t x f =>
      split at hc
      · obtain ⟨_, _, hc⟩ := bindSome hc
        obtain ⟨_, _, hc⟩ := bindSome hc
        split at hc
        · cases hc
        · obtain ⟨_, _, hc⟩ := bindSome hc
          cases hc
      · cases hc
    case field t x f =>
      split at hc
      · obtain ⟨_, _, hc⟩ := bindSome hc
        obtain ⟨_, _, hc⟩ := bindSome hc
        obtain ⟨_, _, hc⟩ := bindSome hc
        cases hc
      · cases hc
    case indexAddr t x i =>
      split at hc
      · obtain ⟨_, _, hc⟩ := bindSome hc
        obtain ⟨_, _, hc⟩ := bindSome hc
        obtain ⟨_, _, hc⟩ := bindSome hc
        cases hc
      · obtain ⟨_, _, hc⟩ := bindSome hc
        obtain ⟨_, _, hc⟩ := bindSome hc
        obtain ⟨_, _, hc⟩ := bindSome hc
        cases hc
      · cases hc
    case index t x i =>
      split at hc
      · obtain ⟨_, _, hc⟩ := bindSome hc
        obtain ⟨_, _, hc⟩ := bindSome hc
        obtain ⟨_, _, hc⟩ := bindSome hc
        obtain ⟨_, _, hc⟩ := bindSome hc
        cases hc
      · obtain ⟨_, _, hc⟩ := bindSome hc
        obtain ⟨_, _, hc⟩ := bindSome hc
        cases hc
      · cases hc
    case lookup t m k ok =>
      split at hc
      · obtain ⟨_, _, hc⟩ := bindSome hc
        obtain ⟨_, _, hc⟩ := bindSome hc
        obtain ⟨_, _, hc⟩ := bindSome hc
        obtain ⟨_, _, hc⟩ := bindSome hc
        obtain ⟨_, _, hc⟩ := bindSome hc
        obtain ⟨_, _, hc⟩ := bindSome hc
        cases hc
      · cases hc
    case mapUpdate t m k v =>
      split at hc
      · obtain ⟨_, _, hc⟩ := bindSome hc
        obtain ⟨_, _, hc⟩ := bindSome hc
        obtain ⟨_, _, hc⟩ := bindSome hc
        obtain ⟨_, _, hc⟩ := bindSome hc
        cases hc
      · cases hc
    case insert t m k v =>
      split at hc
      · obtain ⟨_, _, hc⟩ := bindSome hc
        obtain ⟨_, _, hc⟩ := bindSome hc
        obtain ⟨_, _, hc⟩ := bindSome hc
        obtain ⟨_, _, hc⟩ := bindSome hc
        cases hc
      · cases hc
    case buildSlice t n ps =>
      split at hc
      · obtain ⟨_, _, hc⟩ := bindSome hc
        obtain ⟨_, _, hc⟩ := bindSome hc
        split at hc
        · cases hc
        · obtain ⟨_, _, hc⟩ := bindSome hc
          cases hc
      · cases hc
    case makeMap t r =>
      split at hc
      · cases hc
      · cases hc
  obtain ⟨fo, args0, ats, rfl, hfo, hargs⟩ := key
  have hr := ev_rel hT hfo h1
  simp only [AVRel] at hr
  obtain ⟨us, e, hus⟩ := hr
  have hl := evL_rel hT hargs h2
  obtain ⟨fn, q1, q2, q3⟩ := hf
  refine ⟨args0.toList.map a.eval ++ us.toList, ?_, AVRelL.append hl hus⟩
  have q2' : ¬ fn.body = none := by
    intro q
    rw [q] at q2
    cases q2
  have q3' : ¬ fn.name = "runtime.NumGoroutine" := by simpa using q3
  have harr' : args0.map a.eval ++ us = (args0.toList.map a.eval ++ us.toList).toArray := by
    apply Array.toList_inj.1
    simp
  simp only [execOp, resolve, e, Deferred.ofValue, Sem.run_bind]
  simp [invoke, callFunc, program, Sem.run, q1, q2', q3', harr']
end
end Go.Eng
end
section
namespace Go.Eng
variable {P : Program}
theorem compOper_inv {ops : Array Oper} {o : Oper} {o' : XOper} (h : compOper P ops o = some o') :
    compOp P o = some o'.op ∧ o'.dst = o.dst ∧ ((o.guard = none ∧ o'.guard = none) ∨ ∃ j b d, o.guard = some (j, b) ∧ o'.guard = some (d, b) ∧ (ops[j]?).bind (·.dst) = some d) := by
  unfold compOper at h
  simp only [bind] at h
  obtain ⟨x, hx, h⟩ := bindSome h
  split at h
  · rename_i hg
    cases h
    exact ⟨hx, rfl, .inl ⟨hg, rfl⟩⟩
  · rename_i j b hg
    obtain ⟨d, hd, h⟩ := bindSome h
    cases h
    exact ⟨hx, rfl, .inr ⟨j, b, d, hg, rfl, hd⟩⟩
theorem wanted_sound {E : Env} {w : World} {ops : Array Oper} {o : Oper} {o' : XOper} (hc : compOper P ops o = some o') {tm : Tr AV} {a : Act} (hT : TmR E w tm a.tmps) {r : Bool} (h : wantedA tm o' = some r) :
    Region.wanted o (yielded ops a.tmps) = r := by
  obtain ⟨_, _, hg⟩ := compOper_inv hc
  unfold wantedA at h
  unfold Region.wanted
  rcases hg with ⟨h1, h2⟩ | ⟨j, b, d, h1, h2, h3⟩
  · rw [h2] at h
    rw [h1]
    simpa using h
  · rw [h2] at h
    rw [h1]
    simp only at h ⊢
    split at h
    · rename_i c hc'
      cases h
      obtain ⟨u, hu1, hu2⟩ := hT d _ hc'
      have := hu2.bool_inv
      subst this
      simp [yielded, h3, hu1]
    · rename_i hc'
      cases h
      obtain ⟨u, hu1, hu2⟩ := hT d _ hc'
      simp only [AVRel, AVRelL] at hu2
      obtain ⟨us, rfl, e⟩ := hu2
      simp [yielded, h3, hu1]
    · cases h
def After (E : Env) (H : AHeap) (w : World) (tm : Tr AV) (n base : Nat) (dst : Option Nat) (s' : St) (u : Value) (w' : World) : Prop :=
  ∃ E' x, RStep E H w base E' s'.H w' ∧ (∀ i L, E'.ρ i = some L → E.ρ i = some L ∨ i = n ∨ H.next ≤ i) ∧ AVRel E' w' x u ∧ s'.tm = putT tm dst x
theorem go_sound {cf : CF} (hcf : CFok P cf) {o : Oper} {o' : XOper} (hc : compOp P o = some o'.op) (hdst : o'.dst = o.dst) {s : St} {v : AV} {H1 : AHeap} {n : Nat} (hs : xval cf (St.ev s.tm) s.H n o'.op = some (v, H1)) {E : Env} {w : World} {a : Act}
    (hR : Rel E s.H w) (hT : TmR E w s.tm a.tmps) (hn : E.ρ n = none) (hlt : n < s.H.next) {base : Nat} (hb : base ≤ n) {K : Act → World → Prop} {Q : Exit → Act → World → Prop}
    (hK : ∀ u w', After E s.H w s.tm n base o.dst ⟨putT s.tm o.dst v, H1⟩ u w' → K (a.put o.dst u) w') : o.wp P a w K Q := by
  unfold Oper.wp
  have hbn : base ≤ s.H.next := by omega
  unfold xval at hs
  split at hs
  · rename_i f args hop
    split at hs
    · rename_i g cs l h1 h2
      obtain ⟨hf, hcalls⟩ := hcf _ _ _ _ _ hs
      obtain ⟨us, he, hus⟩ := call_exec hT (hop ▸ hc) h1 h2 hf
      rw [he]
      simp only [Oper.upon]
      refine (hcalls E w us hR hus).mono ?_
      rintro e w' ⟨u, E', rfl, hstep, hval⟩
      refine hK u w' ⟨E', v, hstep.toR hbn, fun i L h => ?_, hval, rfl⟩
      rcases hstep.ids i L h with q | q
      · exact .inl q
      · exact .inr (.inr q)
    · cases hs
  · rename_i op hne
    generalize hx : xop (St.ev s.tm) s.H n o'.op = r at hs
    split at hs
    · cases hs
    · rename_i x
      cases hs
      obtain ⟨u, h1, h2⟩ := pr_sound hR hT hc hx
      rw [h1]
      simp only [Oper.upon]
      exact hK u w ⟨E, _, RStep.refl hR, fun i L h => .inl h, h2, rfl⟩
    · rename_i x ob
      cases hs
      obtain ⟨u, obj, room, h1, h2⟩ := new_sound hT hc (xop_new_cls hx) hx
      rw [h1]
      simp only [Oper.upon]
      have hrho : (E.add n ⟨w.heap.size, 0, room⟩).ρ n = some ⟨w.heap.size, 0, room⟩ := by simp [Env.add]
      obtain ⟨q1, q2, q3, q4⟩ := Step.alloc (obj := obj) (o := ob) (room := room) hR hn hlt (Nat.le_refl _) (fun hext => (h2 _ hrho hext).2)
      refine hK u _ ⟨_, _, ⟨q1, q2, q3, q4, Nat.le_refl _, fun i L h => ?_, fun _ h => .inl h⟩, fun i L h => ?_, (h2 _ hrho q1).1, rfl⟩
      · simp only [Env.add] at h
        split at h
        · rename_i e; exact .inr (by omega)
        · exact .inl h
      · simp only [Env.add] at h
        split at h
        · rename_i e; exact .inr (.inl e)
        · exact .inl h
    · rename_i x H
      cases hs
      obtain ⟨nx, u, w', E', h1, h2, h3, h4⟩ := eff_sound hR hT hc (xop_eff_cls hx) hx
      rw [h1]
      have hk := hK u w' ⟨E', _, h3.toR hbn, fun i L h => (h3.ids i L h).imp id .inr, h4, rfl⟩
      rcases h2 with rfl | ⟨rfl, rfl⟩
      · simp only [Oper.upon]
        exact hk
      · simp only [Oper.upon]
        exact hk
theorem put_size (a : Act) (d : Option Tmp) (v : Value) : (a.put d v).tmps.size = a.tmps.size := by
  cases d <;> simp [Act.put]
theorem put_defers (a : Act) (d : Option Tmp) (v : Value) : (a.put d v).defers = a.defers := by
  cases d <;> rfl
theorem step_sound {cf : CF} (hcf : CFok P cf) {ops : Array Oper} {i : Nat} {o : Oper} {o' : XOper} (hi : ops[i]? = some o) (hc : compOper P ops o = some o') {s s' : St} {n : Nat} (hs : xstep cf s n o' = some s') {E : Env} {w : World} {a : Act}
    (hR : Rel E s.H w) (hT : TmR E w s.tm a.tmps) (hn : E.ρ n = none) (hlt : n < s.H.next) {base : Nat} (hb : base ≤ n) {K : Act → World → Prop} {Q : Exit → Act → World → Prop}
    (hK : ∀ u w', After E s.H w s.tm n base o.dst s' u w' → K (a.put o.dst u) w') : wpOp P ops Q i K a w := by
  obtain ⟨h1, h2, _⟩ := compOper_inv hc
  unfold wpOp
  rw [hi]
  simp only
  unfold xstep at hs
  split at hs
  · rename_i hw
    rw [wanted_sound hc hT hw]
    simp only [if_true]
    split at hs
    · rename_i x H hv
      cases hs
      exact .inl (go_sound hcf h1 h2 hv hR hT hn hlt hb (fun u w' q => hK u w' (by rw [h2]; exact q)))
    · cases hs
  · rename_i hw
    cases hs
    rw [wanted_sound hc hT hw]
    simp only [Bool.false_eq_true, if_false]
    exact hK undef w ⟨E, undefA, RStep.refl hR, fun i L h => .inl h, undef_rel, by rw [h2]⟩
  · cases hs
theorem ops_sound {cf : CF} (hcf : CFok P cf) {ops : Array Oper} {Q : Exit → Act → World → Prop} {base : Nat} : ∀ (rest : List XOper) (i : Nat) (s s' : St) (E : Env) (w : World) (a : Act),
    (∀ (k : Nat) (x : XOper), rest[k]? = some x → ∃ o, ops[i + k]? = some o ∧ compOper P ops o = some x) → (∀ x ∈ rest, dstOk a.tmps.size x = true) → xops cf rest (base + i) s = some s' → Rel E s.H w → TmR E w s.tm a.tmps →
    (∀ k, i ≤ k → k < i + rest.length → E.ρ (base + k) = none) → base + i + rest.length ≤ s.H.next →
    (∀ E' a' w', RStep E s.H w base E' s'.H w' → TmR E' w' s'.tm a'.tmps → a'.defers = a.defers → a'.tmps.size = a.tmps.size → Q .normal a' w') →
    wpOps P ops Q (List.range' i rest.length) a w
  | [], i, s, s', E, w, a, _, _, hx, hR, hT, _, _, hQ => by
    simp only [xops, Option.some.injEq] at hx
    subst hx
    simp only [List.length_nil, List.range'_zero, wpOps]
    exact hQ E a w (RStep.refl hR) hT rfl rfl
  | x :: rest, i, s, s', E, w, a, hops, hd, hx, hR, hT, hn, hnx, hQ => by
    simp only [xops] at hx
    split at hx
    · rename_i s1 hs1
      obtain ⟨o, ho, hc⟩ := hops 0 x rfl
      simp only [Nat.add_zero] at ho
      simp only [List.length_cons] at hn hnx ⊢
      rw [List.range'_succ, wpOps_cons]
      refine step_sound hcf ho hc hs1 hR hT (hn i (Nat.le_refl _) (by omega)) (by omega) (base := base) (by omega) ?_
      rintro u w1 ⟨E1, v, h1, h2, h3, h4⟩
      have hdst : o.dst = x.dst := (compOper_inv hc).2.1.symm
      have hdx := hd x (by simp)
      have hT1 : TmR E1 w1 s1.tm (a.put o.dst u).tmps := by
        rw [h4]
        refine TmR.put (hT.mono h1.ext) h3 (fun d hd' => ?_)
        rw [hdst] at hd'
        simp only [dstOk, hd'] at hdx
        simpa using hdx
      refine ops_sound hcf rest (i + 1) s1 s' E1 w1 (a.put o.dst u) (fun k y hk => ?_) (fun y hy => ?_) (by rw [← Nat.add_assoc]; exact hx) h1.rel hT1 (fun k hk1 hk2 => ?_) ?_ (fun E' a' w' q1 q2 q3 q4 => ?_)
      · obtain ⟨o', ho', hc'⟩ := hops (k + 1) y (by simpa using hk)
        exact ⟨o', by rw [← ho']; congr 1; omega, hc'⟩
      · rw [put_size]
        exact hd y (by simp [hy])
      · cases hq : E1.ρ (base + k) with
        | none => rfl
        | some L =>
          rcases h2 _ _ hq with q | q | q
          · rw [hn k (by omega) (by omega)] at q; cases q
          · omega
          · omega
      · have := h1.nx
        omega
      · exact hQ E' a' w' (h1.trans q1) q2 (q3.trans (put_defers _ _ _)) (q4.trans (put_size _ _ _))
    · cases hx
end Go.Eng
end
section
namespace Go.Eng
theorem evL_congr {e1 e2 : XO → Option AV} : ∀ {l : List XO}, (∀ x ∈ l, e1 x = e2 x) → evL e1 l = evL e2 l
  | [], _ => rfl
  | x :: l, h => by
    simp only [evL]
    rw [h x (by simp), evL_congr (fun y hy => h y (by simp [hy]))]
theorem evParts_congr {e1 e2 : XO → Option AV} : ∀ {l : List (Nat × Nat × XO)}, (∀ x ∈ l.map (·.2.2), e1 x = e2 x) → evParts e1 l = evParts e2 l
  | [], _ => rfl
  | (o, n, x) :: l, h => by
    simp only [evParts]
    rw [h x (by simp), evParts_congr (fun y hy => h y (by simp only [List.map_cons, List.mem_cons]; exact .inr hy))]
theorem obnd_congr {e1 e2 : XO → Option AV} {y d : Nat} {o : Option XO} (h : ∀ x ∈ o.toList, e1 x = e2 x) : obnd e1 y d o = obnd e2 y d o := by
  cases o with
  | none => rfl
  | some x => simp only [obnd]; rw [h x (by simp)]
theorem hiBnd_congr {e1 e2 : XO → Option AV} {y d : Nat} {o m : Option XO} (h : ∀ x ∈ o.toList, e1 x = e2 x) : hiBnd e1 y d o m = hiBnd e2 y d o m := by
  cases o with
  | none => cases m <;> rfl
  | some x => simp only [hiBnd]; rw [h x (by simp)]
theorem bounds_congr {e1 e2 : XO → Option AV} {l c : Nat} {lo hi m : Option XO} (h : ∀ x ∈ lo.toList ++ hi.toList ++ m.toList, e1 x = e2 x) : bounds e1 l c lo hi m = bounds e2 l c lo hi m := by
  unfold bounds
  rw [obnd_congr (o := m) (fun x hx => h x (by simp only [List.mem_append]; exact .inr hx))]
  congr 1
  funext k
  rw [hiBnd_congr (o := hi) (fun x hx => h x (by simp only [List.mem_append]; exact .inl (.inr hx)))]
  congr 1
  funext k'
  rw [obnd_congr (o := lo) (fun x hx => h x (by simp only [List.mem_append]; exact .inl (.inl hx)))]
theorem cutA_congr {e1 e2 : XO → Option AV} {z : Nat} {x : AV} {lo hi m : Option XO} (h : ∀ x ∈ lo.toList ++ hi.toList ++ m.toList, e1 x = e2 x) : cutA e1 z x lo hi m = cutA e2 z x lo hi m := by
  unfold cutA
  simp only [bounds_congr h]
theorem acutA_congr {e1 e2 : XO → Option AV} {n z : Nat} {x : AV} {lo hi m : Option XO} (h : ∀ x ∈ lo.toList ++ hi.toList ++ m.toList, e1 x = e2 x) : acutA e1 n z x lo hi m = acutA e2 n z x lo hi m := by
  unfold acutA
  simp only [bounds_congr h]
theorem scutA_congr {e1 e2 : XO → Option AV} {x : AV} {lo hi : Option XO} (h : ∀ x ∈ lo.toList ++ hi.toList, e1 x = e2 x) : scutA e1 x lo hi = scutA e2 x lo hi := by
  unfold scutA
  have : ∀ l c, bounds e1 l c lo hi none = bounds e2 l c lo hi none := fun l c => bounds_congr (by simpa using h)
  simp only [this]
theorem xop_congr {e1 e2 : XO → Option AV} {H : AHeap} {n : Nat} {y : XOp} (h : ∀ x ∈ y.opnds, e1 x = e2 x) : xop e1 H n y = xop e2 H n y := by
  cases y <;> simp only [XOp.opnds, List.mem_cons, List.not_mem_nil, or_false, forall_eq_or_imp, forall_eq, List.mem_append] at h
  case build z ps => simp only [xop, evParts_congr h]
  case bslice z ps m => simp only [xop, evParts_congr h]
  case mkfn f cs => simp only [xop, evL_congr h]
  case mn l => simp only [xop, evL_congr h]
  case mx l => simp only [xop, evL_congr h]
  case call f l => simp only [xop]
  case cut z x lo hi m =>
    simp only [xop]
    have hx := h x (by simp)
    rw [hx]
    congr 1
    cases e2 x with
    | none => rfl
    | some v => exact cutA_congr (fun y hy => h y (by simp only [List.mem_append] at hy ⊢; rcases hy with (hy | hy) | hy <;> simp [hy]))
  case acut l z x lo hi m =>
    simp only [xop]
    have hx := h x (by simp)
    rw [hx]
    congr 1
    cases e2 x with
    | none => rfl
    | some v => exact acutA_congr (fun y hy => h y (by simp only [List.mem_append] at hy ⊢; rcases hy with (hy | hy) | hy <;> simp [hy]))
  case scut x lo hi =>
    simp only [xop]
    have hx := h x (by simp)
    rw [hx]
    congr 1
    cases e2 x with
    | none => rfl
    | some v => exact scutA_congr (fun y hy => h y (by simp only [List.mem_append] at hy ⊢; rcases hy with hy | hy <;> simp [hy]))
  all_goals simp only [xop, h]
theorem xval_congr {cf : CF} {e1 e2 : XO → Option AV} {H : AHeap} {n : Nat} {y : XOp} (h : ∀ x ∈ y.opnds, e1 x = e2 x) : xval cf e1 H n y = xval cf e2 H n y := by
  cases y
  case call f l =>
    simp only [XOp.opnds, List.mem_cons, forall_eq_or_imp] at h
    simp only [xval, h.1, evL_congr h.2]
  all_goals simp only [xval, xop_congr h]
mutual
theorem AV.beq_sound : ∀ {a b : AV}, AV.beq a b = true → a = b
  | .bool _, b, h => by cases b <;> simp [AV.beq] at h; subst h; rfl
  | .int _ _, b, h => by cases b <;> simp [AV.beq] at h; obtain ⟨rfl, rfl⟩ := h; rfl
  | .str _, b, h => by cases b <;> simp [AV.beq] at h; subst h; rfl
  | .ptr _ _, b, h => by cases b <;> simp [AV.beq] at h; obtain ⟨rfl, rfl⟩ := h; rfl
  | .nilp, b, h => by cases b <;> simp [AV.beq] at h; rfl
  | .sl _ _ _ _, b, h => by cases b <;> simp [AV.beq] at h; obtain ⟨⟨⟨rfl, rfl⟩, rfl⟩, rfl⟩ := h; rfl
  | .nils, b, h => by cases b <;> simp [AV.beq] at h; rfl
  | .map _, b, h => by cases b <;> simp [AV.beq] at h; subst h; rfl
  | .nilm, b, h => by cases b <;> simp [AV.beq] at h; rfl
  | .fn _ l, b, h => by
    cases b <;> simp [AV.beq] at h
    obtain ⟨rfl, h2⟩ := h
    rw [AV.beqL_sound h2]
  | .nilf, b, h => by cases b <;> simp [AV.beq] at h; rfl
  | .ifc _ x, b, h => by
    cases b <;> simp [AV.beq] at h
    obtain ⟨rfl, h2⟩ := h
    rw [AV.beq_sound h2]
  | .nili, b, h => by cases b <;> simp [AV.beq] at h; rfl
  | .agg l, b, h => by
    cases b <;> simp [AV.beq] at h
    rw [AV.beqL_sound h]
  | .tup l, b, h => by
    cases b <;> simp [AV.beq] at h
    rw [AV.beqL_sound h]
  | .imm l _ _, b, h => by
    cases b <;> simp [AV.beq] at h
    obtain ⟨⟨h1, rfl⟩, rfl⟩ := h
    rw [AV.beqL_sound h1]
  | .iptr l _, b, h => by
    cases b <;> simp [AV.beq] at h
    obtain ⟨h1, rfl⟩ := h
    rw [AV.beqL_sound h1]
  | .glob _ _, b, h => by cases b <;> simp [AV.beq] at h; obtain ⟨rfl, rfl⟩ := h; rfl
theorem AV.beqL_sound : ∀ {a b : List AV}, AV.beqL a b = true → a = b
  | [], b, h => by cases b <;> simp [AV.beqL] at h; rfl
  | x :: l, b, h => by
    cases b <;> simp [AV.beqL] at h
    obtain ⟨h1, h2⟩ := h
    rw [AV.beq_sound h1, AV.beqL_sound h2]
end
def AHeap.Le (H H' : AHeap) : Prop := ∀ i o, H.get i = some o → H'.get i = some o
theorem cellsAt_mono {H H' : AHeap} (h : H.Le H') {x : AV} {c : List AV} (hc : cellsAt H x = some c) : cellsAt H' x = some c := by
  unfold cellsAt at hc ⊢
  split at hc
  · split at hc
    · rename_i cs opn hg
      simp only [h _ _ hg]
      exact hc
    · cases hc
  · exact hc
  · cases hc
theorem srcA_mono {H H' : AHeap} (h : H.Le H') {z n : Nat} {x : AV} {c : List AV} (hc : srcA H z n x = some c) : srcA H' z n x = some c := by
  unfold srcA at hc ⊢
  split at hc
  · exact hc
  · split at hc
    · rename_i cs opn hg
      simp only [h _ _ hg]
      exact hc
    · cases hc
  · exact hc
  · exact hc
  · cases hc
theorem entsA_mono {H H' : AHeap} (h : H.Le H') {x : AV} {c : List (AV × AV)} (hc : entsA H x = some c) : entsA H' x = some c := by
  unfold entsA at hc ⊢
  split at hc
  · exact hc
  · split at hc
    · rename_i es hg
      simp only [h _ _ hg]
      exact hc
    · rename_i es t hg
      simp only [h _ _ hg]
      exact hc
    · cases hc
  · cases hc
theorem xop_r_mono {ev : XO → Option AV} {H H' : AHeap} (h : H.Le H') {n n' : Nat} {y : XOp} (hy : y.cls = .r) {x : AV} (hx : xop ev H n y = .v x) : xop ev H' n' y = .v x := by
  cases y <;> simp only [XOp.cls, reduceCtorEq] at hy
  case load m a =>
    simp only [xop] at hx ⊢
    obtain ⟨v, hv, hl⟩ := bindSome (show (ev a).bind (loadA H m) = some x from ofV_v hx)
    have : loadA H' m v = some x := by
      unfold loadA at hl ⊢
      cases hc : cellsAt H v with
      | none => simp [hc] at hl
      | some c => rw [cellsAt_mono h hc]; rw [hc] at hl; exact hl
    rw [hv]
    simp only [Option.bind_some, this, AR.ofV]
  case look ks zero m k ok =>
    simp only [xop] at hx ⊢
    cases he : (ev m).bind (entsA H) with
    | none => simp [he] at hx
    | some es =>
      obtain ⟨v, hv, hes⟩ := bindSome he
      have : (ev m).bind (entsA H') = some es := by rw [hv]; exact entsA_mono h hes
      rw [this]
      rw [he] at hx
      exact hx
  case mlen m =>
    simp only [xop] at hx ⊢
    cases he : (ev m).bind (entsA H) with
    | none => simp [he] at hx
    | some es =>
      obtain ⟨v, hv, hes⟩ := bindSome he
      have : (ev m).bind (entsA H') = some es := by rw [hv]; exact entsA_mono h hes
      rw [this]
      rw [he] at hx
      exact hx
  case bts a =>
    simp only [xop] at hx ⊢
    split at hx
    · rename_i v hv
      split at hx
      · cases hx
      · rename_i l hl
        split at hx
        · cases hx
        · rename_i hns
          obtain ⟨bs, hbs, he⟩ := Option.map_eq_some_iff.1 (show ((srcA H 1 l v).bind bytesA).map AV.str = some x from ofV_v hx)
          obtain ⟨c, hc, hb⟩ := bindSome hbs
          have hc' := srcA_mono h hc
          subst he
          cases v <;> first | exact absurd rfl (hns _) | (simp only [hc', Option.bind_some, hb, Option.map_some, AR.ofV])
    · cases hx
theorem xop_n_heap {ev : XO → Option AV} {H H' : AHeap} {n : Nat} {y : XOp} (hy : y.cls = .n) : xop ev H n y = xop ev H' n y := by
  cases y <;> simp only [XOp.cls, reduceCtorEq] at hy <;> rfl
theorem xop_p_heap {ev : XO → Option AV} {H H' : AHeap} {n n' : Nat} {y : XOp} (hy : y.cls = .p) : xop ev H n y = xop ev H' n' y := by
  cases y <;> simp only [XOp.cls, reduceCtorEq] at hy <;> rfl
theorem xval_heap {cf : CF} {ev : XO → Option AV} {H H1 : AHeap} {n : Nat} {y : XOp} {v : AV} (h : xval cf ev H n y = some (v, H1)) (hy : y.cls ≠ .e) :
    (y.cls = .n ∧ ∃ ob, xop ev H n y = .new v ob ∧ H1 = H.set n (some ob)) ∨ (y.cls ≠ .n ∧ xop ev H n y = .v v ∧ H1 = H) := by
  unfold xval at h
  split at h
  · exact absurd rfl hy
  · split at h
    · cases h
    · rename_i x hx
      cases h
      refine .inr ⟨fun q => ?_, hx, rfl⟩
      cases y <;> simp only [XOp.cls, reduceCtorEq] at q <;> simp only [xop] at hx <;> first | (cases hx; done) | (split at hx <;> cases hx)
    · rename_i x ob hx
      cases h
      exact .inl ⟨xop_new_cls hx, ob, hx, rfl⟩
    · rename_i x H' hx
      exact absurd (xop_eff_cls hx) hy
end Go.Eng
end
section
namespace Go.Eng
variable {P : Program}
def HEq' (H H' : AHeap) : Prop := (∀ i, H.get i = H'.get i) ∧ H.next = H'.next
theorem HEq'.refl (H : AHeap) : HEq' H H := ⟨fun _ => rfl, rfl⟩
theorem HEq'.symm {H H' : AHeap} (h : HEq' H H') : HEq' H' H := ⟨fun i => (h.1 i).symm, h.2.symm⟩
theorem HEq'.trans {H1 H2 H3 : AHeap} (a : HEq' H1 H2) (b : HEq' H2 H3) : HEq' H1 H3 := ⟨fun i => (a.1 i).trans (b.1 i), a.2.trans b.2⟩
theorem RStep.right {E E' : Env} {H H' H'' : AHeap} {w w' : World} {base : Nat} (h : RStep E H w base E' H' w') (hs : ∀ i o, H''.get i = some o → H'.get i = some o) (hn : H''.next = H'.next) : RStep E H w base E' H'' w' where
  ext := h.ext
  rel := ⟨fun i L hi => by rw [hn]; exact h.rel.dom i L hi, h.rel.imm, fun i o hg => h.rel.obj i o (hs i o hg), fun i j o o' L L' hi hj => h.rel.inj i j o o' L L' (hs i o hi) (hs j o' hj)⟩
  fr := h.fr
  nb := fun i o L hg hρ => h.nb i o L (hs i o hg) hρ
  nx := by rw [hn]; exact h.nx
  ids := h.ids
  imm := h.imm
theorem Rel.sub {E : Env} {H H' : AHeap} {w : World} (h : Rel E H w) (hs : ∀ i o, H'.get i = some o → H.get i = some o) (hn : H'.next = H.next) : Rel E H' w :=
  ⟨fun i L hi => by rw [hn]; exact h.dom i L hi, h.imm, fun i o hg => h.obj i o (hs i o hg), fun i j o o' L L' hi hj => h.inj i j o o' L L' (hs i o hi) (hs j o' hj)⟩
theorem RStep.left {E E' : Env} {H H' H0 : AHeap} {w w' : World} {base : Nat} (h : RStep E H w base E' H' w') (hs : ∀ i o, H.get i = some o → ∃ o', H0.get i = some o') (hn : H0.next ≤ H'.next) : RStep E H0 w base E' H' w' where
  ext := h.ext
  rel := h.rel
  fr := ⟨h.fr.os, h.fr.tape, h.fr.output, h.fr.size, fun b hb hnb => h.fr.block b hb (fun i o L hg hρ => by obtain ⟨o', ho'⟩ := hs i o hg; exact hnb i o' L ho' hρ)⟩
  nb := fun i o L hg hρ => by
    rcases h.nb i o L hg hρ with q | ⟨j, o', L', q1, q2, q3⟩
    · exact .inl q
    · obtain ⟨o'', ho''⟩ := hs j o' q1
      exact .inr ⟨j, o'', L', ho'', q2, q3⟩
  nx := hn
  ids := h.ids
  imm := fun b hb => by
    rcases h.imm b hb with q | q | ⟨j, o', L', q1, q2, q3⟩
    · exact .inl q
    · exact .inr (.inl q)
    · obtain ⟨o'', ho''⟩ := hs j o' q1
      exact .inr (.inr ⟨j, o'', L', ho'', q2, q3⟩)
theorem RStep.frame {E E' : Env} {H H' HL HL' : AHeap} {w w' : World} {base : Nat} (h : RStep E H w base E' H' w') (hRL : Rel E HL w) (hsub : ∀ i o, H.get i = some o → HL.get i = some o)
    (hnew : ∀ i o, HL'.get i = some o → H'.get i = some o ∨ (H'.get i = none ∧ H.get i = none ∧ HL.get i = some o)) (hn : HL'.next = H'.next) (hnx : HL.next ≤ H'.next) : RStep E HL w base E' HL' w' := by
  have extra : ∀ i o, H.get i = none → HL.get i = some o → ∃ L, E.ρ i = some L ∧ ObjR E w L o ∧ ¬ E.I L.b ∧ L.b < w.heap.size ∧ (∀ j o' L', H.get j = some o' → E.ρ j = some L' → L'.b ≠ L.b) := by
    intro i o h1 h2
    obtain ⟨L, q1, q2, q3⟩ := hRL.obj i o h2
    refine ⟨L, q1, q2, q3, (hRL.dom i L q1).2, fun j o' L' hj hρ => ?_⟩
    refine hRL.inj j i o' o L' L (hsub j o' hj) h2 hρ q1 (fun e => ?_)
    subst e
    rw [h1] at hj
    cases hj
  have far : ∀ i o, H.get i = none → HL.get i = some o → ∀ L, E'.ρ i = some L → (∀ j o' L', H'.get j = some o' → E'.ρ j = some L' → L'.b ≠ L.b) := by
    intro i o h1 h2 L hL j o' L' hj hρ e
    obtain ⟨L0, q1, q2, q3, q4, q5⟩ := extra i o h1 h2
    have hL0 := h.ext.ρ i L0 q1
    rw [hL] at hL0
    cases hL0
    rcases h.nb j o' L' hj hρ with q | ⟨k, ok, Lk, k1, k2, k3⟩
    · omega
    · exact q5 k ok Lk k1 k2 (k3.trans e)
  refine ⟨h.ext, ⟨fun i L hi => by rw [hn]; exact h.rel.dom i L hi, h.rel.imm, ?_, ?_⟩, ?_, ?_, by rw [hn]; exact hnx, h.ids, ?_⟩
  · intro i o hg
    rcases hnew i o hg with q | ⟨q0, q1, q2⟩
    · exact h.rel.obj i o q
    · obtain ⟨L, l1, l2, l3, l4, l5⟩ := extra i o q1 q2
      refine ⟨L, h.ext.ρ i L l1, ObjR.mono h.ext (h.fr.block L.b l4 l5) l2, fun hI => ?_⟩
      rcases h.imm L.b hI with q | q | ⟨j, o', L', j1, j2, j3⟩
      · exact l3 q
      · omega
      · exact l5 j o' L' j1 j2 j3
  · intro i j o o' L L' hi hj hρi hρj hne
    rcases hnew i o hi with q | ⟨q0, q1, q2⟩
    · rcases hnew j o' hj with r | ⟨r0, r1, r2⟩
      · exact h.rel.inj i j o o' L L' q r hρi hρj hne
      · exact far j o' r1 r2 L' hρj i o L q hρi
    · rcases hnew j o' hj with r | ⟨r0, r1, r2⟩
      · exact (far i o q1 q2 L hρi j o' L' r hρj).symm
      · obtain ⟨Li, l1, _⟩ := extra i o q1 q2
        obtain ⟨Lj, m1, _⟩ := extra j o' r1 r2
        have e1 := h.ext.ρ i Li l1
        have e2 := h.ext.ρ j Lj m1
        rw [hρi] at e1
        rw [hρj] at e2
        cases e1; cases e2
        exact hRL.inj i j o o' L L' q2 r2 l1 m1 hne
  · exact ⟨h.fr.os, h.fr.tape, h.fr.output, h.fr.size, fun b hb hnb => h.fr.block b hb (fun i o L hg hρ => hnb i o L (hsub i o hg) hρ)⟩
  · intro i o L hg hρ
    rcases hnew i o hg with q | ⟨q0, q1, q2⟩
    · rcases h.nb i o L q hρ with r | ⟨j, o', L', r1, r2, r3⟩
      · exact .inl r
      · exact .inr ⟨j, o', L', hsub j o' r1, r2, r3⟩
    · obtain ⟨L0, l1, _⟩ := extra i o q1 q2
      have e1 := h.ext.ρ i L0 l1
      rw [hρ] at e1
      cases e1
      exact .inr ⟨i, o, L, q2, l1, rfl⟩
  · intro b hb
    rcases h.imm b hb with q | q | ⟨j, o', L', q1, q2, q3⟩
    · exact .inl q
    · exact .inr (.inl q)
    · exact .inr (.inr ⟨j, o', L', hsub j o' q1, q2, q3⟩)
def Closed (ops : List Oper) (L : Nat → Bool) : Prop := ∀ i o, L i = true → ops[i]? = some o → ∀ p ∈ predsOf o, L p = true
theorem ancs_spec (ops : List Oper) : ∀ (r : List Oper) (acc : List (List Nat)), (∀ k o, r[k]? = some o → ops[acc.length + k]? = some o) →
    (∀ j i, i ∈ acc.getD j [] → ∀ o, ops[j]? = some o → ∀ L, Closed ops L → (∀ p ∈ predsOf o, L p = true) → L i = true) →
    ∀ j i, i ∈ (ancsGo acc r).getD j [] → ∀ o, ops[j]? = some o → ∀ L, Closed ops L → (∀ p ∈ predsOf o, L p = true) → L i = true
  | [], acc, _, h => h
  | o :: r, acc, hr, h => by
    rw [ancsGo]
    refine ancs_spec ops r _ (fun k o' hk => ?_) (fun j i hi o' ho' L hL hp => ?_)
    · have := hr (k + 1) o' (by simpa using hk)
      rw [List.length_append, List.length_singleton]
      rw [← this]
      congr 1
      omega
    · rw [List.getD_eq_getElem?_getD] at hi
      by_cases hj : j < acc.length
      · rw [List.getElem?_append_left hj] at hi
        exact h j i (by rw [List.getD_eq_getElem?_getD]; exact hi) o' ho' L hL hp
      · by_cases hj2 : j = acc.length
        · subst hj2
          have h0 := hr 0 o rfl
          rw [Nat.add_zero] at h0
          rw [h0] at ho'
          cases ho'
          rw [List.getElem?_append_right (Nat.le_refl _), Nat.sub_self, List.getElem?_cons_zero, Option.getD_some, List.mem_eraseDups, List.mem_append] at hi
          rcases hi with hi | hi
          · exact hp i hi
          · rw [List.mem_flatten] at hi
            obtain ⟨l, hl, hil⟩ := hi
            rw [List.mem_map] at hl
            obtain ⟨p, hpm, rfl⟩ := hl
            have hLp := hp p hpm
            cases hop : ops[p]? with
            | none =>
              -- no such operation: nothing stands there
              exfalso
              rw [List.getD_eq_getElem?_getD] at hil
              cases hap : acc[p]? with
              | none => rw [hap] at hil; simp at hil
              | some q =>
                have : p < acc.length := by
                  rcases Nat.lt_or_ge p acc.length with z | z
                  · exact z
                  · rw [List.getElem?_eq_none z] at hap; cases hap
                have hlen : acc.length < ops.length := by
                  rcases Nat.lt_or_ge acc.length ops.length with z | z
                  · exact z
                  · rw [List.getElem?_eq_none z] at h0; cases h0
                rw [List.getElem?_eq_none_iff] at hop
                omega
            | some op => exact h p i hil op hop L hL (hL p op hLp hop)
        · rw [List.getElem?_append_right (by omega)] at hi
          have : ([(predsOf o ++ ((predsOf o).map fun p => acc.getD p []).flatten).eraseDups])[j - acc.length]? = none := by
            rw [List.getElem?_eq_none_iff]
            simp
            omega
          rw [this] at hi
          simp at hi
structure Reg (P : Program) (cf : CF) (ops : Array Oper) (xs : List XOper) (A : List (List Nat)) (base : Nat) (S : Nat → St) : Prop where
  len : xs.length = ops.size
  comp : ∀ (i : Nat) (x : XOper), xs[i]? = some x → ∃ o, ops[i]? = some o ∧ compOper P ops o = some x
  step : ∀ (i : Nat) (x : XOper), xs[i]? = some x → xstep cf (S i) (base + i) x = some (S (i + 1))
  back : ∀ (j : Nat) (o : Oper), ops[j]? = some o → ∀ p ∈ predsOf o, p < j
  pair : ∀ (i j : Nat) (x y : XOper), i < j → xs[i]? = some x → xs[j]? = some y → i ∈ A.getD j [] ∨ (freePair x.op.cls y.op.cls = true ∧ apartX x y = true)
  anc : ∀ (j i : Nat), i ∈ A.getD j [] → ∀ o, ops[j]? = some o → ∀ L, Closed ops.toList L → (∀ p ∈ predsOf o, L p = true) → L i = true
  fresh : ∀ (k : Nat) (x : XOper), xs[k]? = some x → x.op.cls = .n → ∀ i, i ≤ xs.length → (i ≤ k ∨ wantedA (S k).tm x = some false) → (S i).H.get (base + k) = none
section
variable {cf : CF} {ops : Array Oper} {xs : List XOper} {A : List (List Nat)} {base : Nat} {S : Nat → St}
theorem xstep_tm {s s' : St} {n : Nat} {o : XOper} (h : xstep cf s n o = some s') : ∃ v, s'.tm = putT s.tm o.dst v := by
  unfold xstep at h
  split at h
  · split at h
    · cases h; exact ⟨_, rfl⟩
    · cases h
  · cases h; exact ⟨_, rfl⟩
  · cases h
theorem putT_get (tm : Tr AV) (d : Option Nat) (v : AV) (t : Nat) : (putT tm d v).get t = if d = some t then some v else tm.get t := by
  cases d with
  | none => simp [putT]
  | some d =>
    simp only [putT, Tr.get_set, Option.some.injEq]
    by_cases h : t = d
    · subst h; simp
    · rw [if_neg h, if_neg (fun e => h e.symm)]
def dstAt (xs : List XOper) (k : Nat) : Option Nat := (xs[k]?).bind (·.dst)
def tmK (xs : List XOper) (S : Nat → St) (L : Nat → Bool) : Nat → Tr AV
  | 0 => (S 0).tm
  | k + 1 => if L k = true then (match dstAt xs k with | some d => (tmK xs S L k).set d ((S (k + 1)).tm.get d) | none => tmK xs S L k) else tmK xs S L k
theorem tmK_agree {L M : Nat → Bool} {t : Nat} : ∀ (k : Nat), (∀ i, i < k → dstAt xs i = some t → L i = M i) → (tmK xs S L k).get t = (tmK xs S M k).get t
  | 0, _ => rfl
  | k + 1, h => by
    have ih := tmK_agree (L := L) (M := M) (t := t) k (fun i hi => h i (by omega))
    simp only [tmK]
    cases hd : dstAt xs k with
    | none => simp only [ite_self]; exact ih
    | some d =>
      simp only
      by_cases e : d = t
      · subst e
        rw [h k (by omega) hd]
        split
        · simp [Tr.get_set]
        · exact ih
      · have g : ∀ (T : Tr AV) (v : Option AV), (T.set d v).get t = T.get t := fun T v => Tr.get_set_ne _ _ (fun q => e q.symm)
        split <;> split <;> simp only [g, ih]
theorem tmK_canon (R : Reg P cf ops xs A base S) {j t : Nat} : ∀ (k : Nat), k ≤ xs.length → (tmK xs S (fun i => decide (i < j)) k).get t = (S (min k j)).tm.get t
  | 0, _ => by simp [tmK]
  | k + 1, h => by
    have ih := tmK_canon R (j := j) (t := t) k (by omega)
    obtain ⟨x, hx⟩ : ∃ x, xs[k]? = some x := ⟨xs[k], List.getElem?_eq_getElem (by omega)⟩
    obtain ⟨v, hv⟩ := xstep_tm (R.step k x hx)
    simp only [tmK]
    by_cases hk : k < j
    · have e1 : min (k + 1) j = k + 1 := by omega
      have e2 : min k j = k := by omega
      rw [e2] at ih
      rw [e1, if_pos (by simpa using hk)]
      have hd : dstAt xs k = x.dst := by simp [dstAt, hx]
      rw [hd]
      cases hxd : x.dst with
      | none =>
        simp only
        rw [ih, hv, hxd]
        rfl
      | some d =>
        simp only [Tr.get_set]
        by_cases e : t = d
        · subst e; simp
        · rw [if_neg e, ih, hv, putT_get, hxd, if_neg (by simpa using fun q => e q.symm)]
    · have e1 : min (k + 1) j = j := by omega
      have e2 : min k j = j := by omega
      rw [e2] at ih
      rw [e1, if_neg (by simpa using hk)]
      exact ih
theorem tmK_last {L : Nat → Bool} {j t : Nat} (hj : L j = true) (hd : dstAt xs j = some t) : ∀ (k : Nat), j < k → (∀ i, j < i → i < k → dstAt xs i = some t → L i = false) → (tmK xs S L k).get t = (S (j + 1)).tm.get t
  | 0, h, _ => by omega
  | k + 1, h, hl => by
    simp only [tmK]
    by_cases e : k = j
    · subst e
      rw [if_pos hj, hd]
      simp [Tr.get_set]
    · have ih := tmK_last hj hd k (by omega) (fun i h1 h2 => hl i h1 (by omega))
      cases hdk : dstAt xs k with
      | none => simp only [ite_self]; exact ih
      | some d =>
        simp only
        by_cases e' : d = t
        · subst e'
          have := hl k (by omega) (by omega) hdk
          rw [if_neg (by simp [this])]
          exact ih
        · split
          · rw [Tr.get_set_ne _ _ (fun q => e' q.symm)]
            exact ih
          · exact ih
def isC (xs : List XOper) (c : Cls) (k : Nat) : Bool := match xs[k]? with | some x => x.op.cls == c | none => false
def hK (xs : List XOper) (S : Nat → St) (base : Nat) (L : Nat → Bool) (g : Nat) : Nat → AHeap
  | 0 => (S g).H
  | k + 1 => if isC xs .n k then (if L k = true then (if k < g then hK xs S base L g k else (hK xs S base L g k).set (base + k) ((S (k + 1)).H.get (base + k))) else (hK xs S base L g k).set (base + k) none) else hK xs S base L g k
theorem hK_next {L : Nat → Bool} {g : Nat} : ∀ k, (hK xs S base L g k).next = (S g).H.next
  | 0 => rfl
  | k + 1 => by
    simp only [hK]
    split
    · split
      · split
        · exact hK_next k
        · exact hK_next k
      · exact hK_next k
    · exact hK_next k
theorem hK_other {L : Nat → Bool} {g id : Nat} : ∀ k, (∀ i, i < k → isC xs .n i = true → id ≠ base + i) → (hK xs S base L g k).get id = (S g).H.get id
  | 0, _ => rfl
  | k + 1, h => by
    have ih := hK_other (L := L) (g := g) (id := id) k (fun i hi => h i (by omega))
    simp only [hK]
    split
    · rename_i hn
      have hne := h k (by omega) hn
      split
      · split
        · exact ih
        · rw [AHeap.get_set, if_neg hne]; exact ih
      · rw [AHeap.get_set, if_neg hne]; exact ih
    · exact ih
theorem hK_at {L : Nat → Bool} {g i : Nat} (hn : isC xs .n i = true) : ∀ k, i < k → (hK xs S base L g k).get (base + i) = if L i = true then (if i < g then (S g).H.get (base + i) else (S (i + 1)).H.get (base + i)) else none
  | 0, h => by omega
  | k + 1, h => by
    by_cases e : i = k
    · subst e
      have ho := hK_other (xs := xs) (S := S) (base := base) (L := L) (g := g) (id := base + i) i (fun j hj _ => by omega)
      simp only [hK, hn, if_true]
      split
      · split
        · exact ho
        · rw [AHeap.get_set, if_pos rfl]
      · rw [AHeap.get_set, if_pos rfl]
    · have ih := hK_at (L := L) (g := g) hn k (by omega)
      simp only [hK]
      have hne : base + i ≠ base + k := by omega
      split
      · split
        · split
          · exact ih
          · rw [AHeap.get_set, if_neg hne]; exact ih
        · rw [AHeap.get_set, if_neg hne]; exact ih
      · exact ih
theorem step_heap (R : Reg P cf ops xs A base S) {i : Nat} {x : XOper} (hx : xs[i]? = some x) (he : x.op.cls ≠ .e) :
    (S (i + 1)).H.next = (S i).H.next ∧ ∀ id, (isC xs .n i = true → id ≠ base + i) → (S (i + 1)).H.get id = (S i).H.get id := by
  have h := R.step i x hx
  unfold xstep at h
  split at h
  · split at h
    · rename_i v H hv
      cases hs : S (i + 1) with
      | mk tm' H' =>
        rw [hs] at h
        simp only [Option.some.injEq, St.mk.injEq] at h
        obtain ⟨_, rfl⟩ := h
        rcases xval_heap hv he with ⟨hn, ob, _, rfl⟩ | ⟨_, _, rfl⟩
        · refine ⟨rfl, fun id hid => ?_⟩
          rw [AHeap.get_set, if_neg (hid (by simp [isC, hx, hn]))]
        · exact ⟨rfl, fun _ _ => rfl⟩
    · cases h
  · cases hs : S (i + 1) with
    | mk tm' H' =>
      rw [hs] at h
      simp only [Option.some.injEq, St.mk.injEq] at h
      obtain ⟨_, rfl⟩ := h
      exact ⟨rfl, fun _ _ => rfl⟩
  · cases h
theorem interval (R : Reg P cf ops xs A base S) {g : Nat} : ∀ (d : Nat), g + d ≤ xs.length → (∀ i, g ≤ i → i < g + d → isC xs .e i = false) →
    (S (g + d)).H.next = (S g).H.next ∧ ∀ id, (∀ i, g ≤ i → i < g + d → isC xs .n i = true → id ≠ base + i) → (S (g + d)).H.get id = (S g).H.get id
  | 0, _, _ => ⟨rfl, fun _ _ => rfl⟩
  | d + 1, h, he => by
    obtain ⟨q1, q2⟩ := interval R (g := g) d (by omega) (fun i h1 h2 => he i h1 (by omega))
    obtain ⟨x, hx⟩ : ∃ x, xs[g + d]? = some x := ⟨xs[g + d], List.getElem?_eq_getElem (by omega)⟩
    have hne : x.op.cls ≠ .e := by
      have := he (g + d) (by omega) (by omega)
      simp only [isC, hx] at this
      intro q
      rw [q] at this
      simp at this
    obtain ⟨r1, r2⟩ := step_heap R hx hne
    refine ⟨r1.trans q1, fun id hid => ?_⟩
    rw [show g + (d + 1) = g + d + 1 by omega, r2 id (fun hn => hid (g + d) (by omega) (by omega) hn), q2 id (fun i h1 h2 hn => hid i h1 (by omega) hn)]
def Valid (xs : List XOper) (L : Nat → Bool) (g : Nat) : Prop := g ≤ xs.length ∧ ∀ i, i < xs.length → isC xs .e i = true → (L i = true ↔ i < g)
theorem hK_shift (R : Reg P cf ops xs A base S) {L : Nat → Bool} {g d : Nat} (h1 : Valid xs L g) (h2 : Valid xs L (g + d)) : HEq' (hK xs S base L g xs.length) (hK xs S base L (g + d) xs.length) := by
  have he : ∀ i, g ≤ i → i < g + d → isC xs .e i = false := by
    intro i q1 q2
    cases hi : isC xs .e i with
    | false => rfl
    | true =>
      have hlt : i < xs.length := by have := h2.1; omega
      have a := (h1.2 i hlt hi)
      have b := (h2.2 i hlt hi)
      have := a.1 (b.2 q2)
      omega
  obtain ⟨q1, q2⟩ := interval R d h2.1 he
  refine ⟨fun id => ?_, by rw [hK_next, hK_next, q1]⟩
  by_cases hex : ∃ i, i < xs.length ∧ isC xs .n i = true ∧ id = base + i
  · obtain ⟨i, hi, hn, rfl⟩ := hex
    rw [hK_at hn _ hi, hK_at hn _ hi]
    split
    · by_cases c1 : i < g
      · rw [if_pos c1, if_pos (by omega)]
        exact (q2 _ (fun k k1 k2 _ => by omega)).symm
      · rw [if_neg c1]
        by_cases c2 : i < g + d
        · rw [if_pos c2]
          obtain ⟨r1, r2⟩ := interval R (g := i + 1) (g + d - (i + 1)) (by have := h2.1; omega) (fun k k1 k2 => he k (by omega) (by omega))
          have := r2 (base + i) (fun k k1 k2 _ => by omega)
          rw [show i + 1 + (g + d - (i + 1)) = g + d by omega] at this
          exact this.symm
        · rw [if_neg c2]
    · rfl
  · rw [hK_other _ (fun i hi hn e => hex ⟨i, hi, hn, e⟩), hK_other _ (fun i hi hn e => hex ⟨i, hi, hn, e⟩)]
    refine (q2 id (fun k k1 k2 hn e => ?_)).symm
    exact hex ⟨k, by have := h2.1; omega, hn, e⟩
theorem hK_any (R : Reg P cf ops xs A base S) {L : Nat → Bool} {g g' : Nat} (h1 : Valid xs L g) (h2 : Valid xs L g') : HEq' (hK xs S base L g xs.length) (hK xs S base L g' xs.length) := by
  rcases Nat.le_total g g' with h | h
  · have := hK_shift R (d := g' - g) h1 (by rw [show g + (g' - g) = g' by omega]; exact h2)
    rwa [show g + (g' - g) = g' by omega] at this
  · have := hK_shift R (d := g - g') h2 (by rw [show g' + (g - g') = g by omega]; exact h1)
    rw [show g' + (g - g') = g by omega] at this
    exact this.symm
end
end Go.Eng
end
