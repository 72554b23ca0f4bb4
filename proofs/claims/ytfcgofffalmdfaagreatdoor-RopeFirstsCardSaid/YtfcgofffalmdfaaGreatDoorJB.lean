/- The abstract machine is sound, 7: what makes and writes memory: the frame. No condition. -/
import Derived.Test.YtfcgofffalmdfaaGreatDoorJA
import Derived.Laws.MakeOwn
import Derived.LoopN
import Derived.Maps.RangeRun
set_option linter.unusedSectionVars false
set_option linter.unusedVariables false
set_option linter.unusedSimpArgs false
section
namespace Go.Eng
structure Step (E : Env) (H : AHeap) (w : World) (E' : Env) (H' : AHeap) (w' : World) : Prop where
  ext : Env.Ext E E' w w'
  rel : Rel E' H' w'
  fr : Fr E H w w'
  nb : ∀ i o L, H'.get i = some o → E'.ρ i = some L → w.heap.size ≤ L.b ∨ ∃ j o' L', H.get j = some o' ∧ E.ρ j = some L' ∧ L'.b = L.b
  nx : H.next ≤ H'.next
  ids : ∀ i L, E'.ρ i = some L → E.ρ i = some L ∨ H.next ≤ i
  imm : ∀ b, E'.I b → E.I b ∨ w.heap.size ≤ b ∨ ∃ j o L, H.get j = some o ∧ E.ρ j = some L ∧ L.b = b
theorem Step.refl {E : Env} {H : AHeap} {w : World} (h : Rel E H w) : Step E H w E H w :=
  ⟨Env.Ext.refl _ _, h, Fr.refl _ _ _, fun i o L hg hρ => .inr ⟨i, o, L, hg, hρ, rfl⟩, Nat.le_refl _, fun _ _ h => .inl h, fun _ h => .inl h⟩
theorem Step.trans {E1 E2 E3 : Env} {H1 H2 H3 : AHeap} {w1 w2 w3 : World} (a : Step E1 H1 w1 E2 H2 w2) (b : Step E2 H2 w2 E3 H3 w3) : Step E1 H1 w1 E3 H3 w3 where
  ext := a.ext.trans b.ext
  rel := b.rel
  fr := {
    os := b.fr.os.trans a.fr.os
    tape := b.fr.tape.trans a.fr.tape
    output := b.fr.output.trans a.fr.output
    size := Nat.le_trans a.fr.size b.fr.size
    block := by
      intro k hk hn
      have hk2 := Nat.lt_of_lt_of_le hk a.fr.size
      refine (b.fr.block k hk2 (fun i o L hg hρ e => ?_)).trans (a.fr.block k hk hn)
      rcases a.nb i o L hg hρ with h | ⟨j, o', L', h1, h2, h3⟩
      · omega
      · exact hn j o' L' h1 h2 (h3.trans e) }
  nb := by
    intro i o L hg hρ
    rcases b.nb i o L hg hρ with h | ⟨j, o', L', h1, h2, h3⟩
    · exact .inl (Nat.le_trans a.fr.size h)
    · rcases a.nb j o' L' h1 h2 with h | ⟨j', o'', L'', h4, h5, h6⟩
      · exact .inl (h3 ▸ h)
      · exact .inr ⟨j', o'', L'', h4, h5, h6.trans h3⟩
  nx := Nat.le_trans a.nx b.nx
  ids := by
    intro i L h
    rcases b.ids i L h with h | h
    · exact a.ids i L h
    · exact .inr (Nat.le_trans a.nx h)
  imm := by
    intro k h
    rcases b.imm k h with h | h | ⟨j, o, L, h1, h2, h3⟩
    · exact a.imm k h
    · exact .inr (.inl (Nat.le_trans a.fr.size h))
    · rcases a.nb j o L h1 h2 with h | ⟨j', o', L', h4, h5, h6⟩
      · exact .inr (.inl (h3 ▸ h))
      · exact .inr (.inr ⟨j', o', L', h4, h5, h6.trans h3⟩)
section
variable {E : Env} {H : AHeap} {w : World}
theorem AHeap.get_set (H : AHeap) (i j : Nat) (o : Option AObj) : (H.set i o).get j = if j = i then o else H.get j := Tr.get_set _ _ _ _
theorem AHeap.get_add (H : AHeap) (o : AObj) (j : Nat) : (H.add o).get j = if j = H.next then some o else H.get j := Tr.get_set _ _ _ _
theorem Rel.of_heap {w' : World} (h : Rel E H w) (hh : w'.heap = w.heap) : Rel E H w' where
  dom := fun i L hi => by rw [hh]; exact h.dom i L hi
  imm := fun b hb => by rw [hh]; exact h.imm b hb
  obj := fun i o hg => by
    obtain ⟨L, h1, h2, h3⟩ := h.obj i o hg
    exact ⟨L, h1, ObjR.mono ⟨fun _ _ q => q, fun _ q => q, fun b _ => by rw [hh], fun _ _ _ q => q⟩ (by rw [hh]) h2, h3⟩
  inj := h.inj
theorem Step.of_heap {w' : World} (h : Rel E H w) (hh : w'.heap = w.heap) (h1 : w'.os = w.os) (h2 : w'.tape = w.tape) (h3 : w'.output = w.output) : Step E H w E H w' where
  ext := ⟨fun _ _ q => q, fun _ q => q, fun b _ => by rw [hh], fun _ _ _ q => q⟩
  rel := h.of_heap hh
  fr := ⟨h1, h2, h3, by rw [hh]; exact Nat.le_refl _, fun b _ _ => by rw [hh]⟩
  nb := fun i o L hg hρ => .inr ⟨i, o, L, hg, hρ, rfl⟩
  nx := Nat.le_refl _
  ids := fun _ _ h => .inl h
  imm := fun _ h => .inl h
theorem Step.update (hR : Rel E H w) {i : Nat} {o o' : AObj} {L : Loc} {w' : World} (hg : H.get i = some o) (hρ : E.ρ i = some L) (hsz : w'.heap.size = w.heap.size) (hoth : ∀ b, b ≠ L.b → w'.heap[b]? = w.heap[b]?)
    (h1 : w'.os = w.os) (h2 : w'.tape = w.tape) (h3 : w'.output = w.output) (hO : Env.Ext E E w w' → ObjR E w' L o') : Step E H w E (H.set i (some o')) w' := by
  have hnI : ¬ E.I L.b := by
    obtain ⟨L', q1, _, q3⟩ := hR.obj i o hg
    rw [hρ] at q1
    cases q1
    exact q3
  have hext : Env.Ext E E w w' := ⟨fun _ _ q => q, fun _ q => q, fun b hb => hoth b (fun e => hnI (e ▸ hb)), fun _ _ _ q => q⟩
  refine ⟨hext, ⟨?_, ?_, ?_, ?_⟩, ⟨h1, h2, h3, by omega, ?_⟩, ?_, Nat.le_refl _, fun _ _ h => .inl h, fun _ h => .inl h⟩
  · intro j L' hj
    have := hR.dom j L' hj
    exact ⟨this.1, by omega⟩
  · intro b hb
    have := hR.imm b hb
    omega
  · intro j p hj
    rw [AHeap.get_set] at hj
    split at hj
    · rename_i e
      subst e
      cases hj
      exact ⟨L, hρ, hO hext, hnI⟩
    · rename_i e
      obtain ⟨L', q1, q2, q3⟩ := hR.obj j p hj
      exact ⟨L', q1, ObjR.mono hext (hoth _ (hR.inj j i p o L' L hj hg q1 hρ e)) q2, q3⟩
  · intro j k p p' Lj Lk hj hk hρj hρk hne
    rw [AHeap.get_set] at hj hk
    have key : ∀ (j : Nat) (p : AObj), (if j = i then some o' else H.get j) = some p → ∃ q, H.get j = some q := by
      intro j p hp
      split at hp
      · rename_i e; subst e; exact ⟨o, hg⟩
      · exact ⟨p, hp⟩
    obtain ⟨q1, hq1⟩ := key j p hj
    obtain ⟨q2, hq2⟩ := key k p' hk
    exact hR.inj j k q1 q2 Lj Lk hq1 hq2 hρj hρk hne
  · intro b hb hn
    exact hoth b (fun e => hn i o L hg hρ e.symm)
  · intro j p Lj hj hρj
    rw [AHeap.get_set] at hj
    split at hj
    · rename_i e; subst e; exact .inr ⟨j, o, Lj, hg, hρj, rfl⟩
    · exact .inr ⟨j, p, Lj, hj, hρj, rfl⟩
def Env.add (E : Env) (n : Nat) (L : Loc) : Env := ⟨fun i => if i = n then some L else E.ρ i, E.I, E.lk⟩
theorem alloc_heap (w : World) (o : Obj) (b : Nat) : (w.alloc o).heap[b]? = if b = w.heap.size then some o else w.heap[b]? := by
  show (w.heap.push o)[b]? = _
  rw [Array.getElem?_push]
theorem Step.alloc (hR : Rel E H w) {n nx : Nat} {obj : Obj} {o : AObj} {room : Nat} (hn : E.ρ n = none) (hlt : n < nx) (hnx : H.next ≤ nx) 
    (hO : Env.Ext E (E.add n ⟨w.heap.size, 0, room⟩) w (w.alloc obj) → ObjR (E.add n ⟨w.heap.size, 0, room⟩) (w.alloc obj) ⟨w.heap.size, 0, room⟩ o) :
    Env.Ext E (E.add n ⟨w.heap.size, 0, room⟩) w (w.alloc obj) ∧ Rel (E.add n ⟨w.heap.size, 0, room⟩) ⟨H.m.set n (some o), nx⟩ (w.alloc obj) ∧ Fr E H w (w.alloc obj) ∧
    (∀ i p L, (⟨H.m.set n (some o), nx⟩ : AHeap).get i = some p → (E.add n ⟨w.heap.size, 0, room⟩).ρ i = some L → w.heap.size ≤ L.b ∨ ∃ j o' L', H.get j = some o' ∧ E.ρ j = some L' ∧ L'.b = L.b) := by
  have hext : Env.Ext E (E.add n ⟨w.heap.size, 0, room⟩) w (w.alloc obj) := by
    refine ⟨fun i L h => ?_, fun _ h => h, fun b hb => ?_, fun _ _ _ h => h⟩
    · simp only [Env.add]
      rw [if_neg (fun e => by rw [e, hn] at h; cases h)]
      exact h
    · have := hR.imm b hb
      rw [alloc_heap, if_neg (by omega)]
  have hsz : (w.alloc obj).heap.size = w.heap.size + 1 := by simp
  have hget : ∀ i, (⟨H.m.set n (some o), nx⟩ : AHeap).get i = if i = n then some o else H.get i := fun i => Tr.get_set _ _ _ _
  refine ⟨hext, ⟨?_, ?_, ?_, ?_⟩, ⟨rfl, rfl, rfl, by omega, ?_⟩, ?_⟩
  · intro i L h
    simp only [Env.add] at h
    split at h
    · rename_i e
      subst e
      cases h
      exact ⟨hlt, by simp⟩
    · have := hR.dom i L h
      exact ⟨Nat.lt_of_lt_of_le this.1 hnx, by omega⟩
  · intro b hb
    have := hR.imm b hb
    omega
  · intro i p h
    rw [hget] at h
    split at h
    · rename_i e
      subst e
      cases h
      refine ⟨⟨w.heap.size, 0, room⟩, by simp [Env.add], hO hext, fun q => ?_⟩
      have := hR.imm _ q
      simp at this
    · obtain ⟨L, q1, q2, q3⟩ := hR.obj i p h
      refine ⟨L, hext.ρ _ _ q1, ObjR.mono hext ?_ q2, q3⟩
      have := (hR.dom i L q1).2
      rw [alloc_heap, if_neg (by omega)]
  · intro i j p q Li Lj hi hj hρi hρj hne
    rw [hget] at hi hj
    simp only [Env.add] at hρi hρj
    split at hi
    · rename_i e
      rw [if_pos e] at hρi
      cases hρi
      split at hj
      · rename_i e'; exact absurd (e.trans e'.symm) hne
      · rename_i e'
        rw [if_neg e'] at hρj
        have := (hR.dom j Lj hρj).2
        simp only
        omega
    · rename_i e
      rw [if_neg e] at hρi
      split at hj
      · rename_i e'
        rw [if_pos e'] at hρj
        cases hρj
        have := (hR.dom i Li hρi).2
        simp only
        omega
      · rename_i e'
        rw [if_neg e'] at hρj
        exact hR.inj i j p q Li Lj hi hj hρi hρj hne
  · intro b hb _
    rw [alloc_heap, if_neg (by omega)]
  · intro i p L hi hρ
    rw [hget] at hi
    simp only [Env.add] at hρ
    split at hi
    · rename_i e
      rw [if_pos e] at hρ
      cases hρ
      exact .inl (Nat.le_refl _)
    · rename_i e
      rw [if_neg e] at hρ
      exact .inr ⟨i, p, L, hi, hρ, rfl⟩
theorem Step.add (hR : Rel E H w) {obj : Obj} {o : AObj} {room : Nat}
    (hO : Env.Ext E (E.add H.next ⟨w.heap.size, 0, room⟩) w (w.alloc obj) → ObjR (E.add H.next ⟨w.heap.size, 0, room⟩) (w.alloc obj) ⟨w.heap.size, 0, room⟩ o) :
    Step E H w (E.add H.next ⟨w.heap.size, 0, room⟩) (H.add o) (w.alloc obj) := by
  have hn : E.ρ H.next = none := by
    cases h : E.ρ H.next with
    | none => rfl
    | some L => exact absurd (hR.dom _ _ h).1 (Nat.lt_irrefl _)
  obtain ⟨a, b, c, d⟩ := Step.alloc hR hn (Nat.lt_succ_self _) (Nat.le_succ _) hO
  refine ⟨a, b, c, d, Nat.le_succ _, fun i L h => ?_, fun _ h => .inl h⟩
  simp only [Env.add] at h
  split at h
  · rename_i e; exact .inr (by omega)
  · exact .inl h
def putCells (C : Array Value) : Nat → List Value → Array Value
  | _, [] => C
  | o, v :: r => putCells (C.setIfInBounds o v) (o + 1) r
theorem putCells_size : ∀ (vs : List Value) (C : Array Value) (o : Nat), (putCells C o vs).size = C.size
  | [], _, _ => rfl
  | v :: r, C, o => by simp [putCells, putCells_size r]
theorem putCells_get : ∀ (vs : List Value) (C : Array Value) (o j : Nat), o + vs.length ≤ C.size → (putCells C o vs)[j]? = if o ≤ j ∧ j < o + vs.length then vs[j - o]? else C[j]?
  | [], C, o, j, _ => by simp [putCells]; omega
  | v :: r, C, o, j, h => by
    simp only [List.length_cons] at h
    rw [putCells, putCells_get r _ (o + 1) j (by simp; omega)]
    by_cases h1 : o + 1 ≤ j ∧ j < o + 1 + r.length
    · rw [if_pos h1, if_pos (by simp; omega), show j - o = (j - (o + 1)) + 1 by omega, List.getElem?_cons_succ]
    · rw [if_neg h1]
      by_cases h2 : j = o
      · subst h2
        rw [if_pos (by simp), Array.getElem?_setIfInBounds_self_of_lt (by omega)]
        simp
      · rw [if_neg (by simp; omega), Array.getElem?_setIfInBounds_ne (fun e => h2 e.symm)]
theorem setCells_heap (b : Nat) : ∀ (vs : List Value) (o : Nat) (w : World) (C : Array Value) (t : TypeId) (fz : Nat × Nat), w.heap[b]? = some (.cells C t fz) →
    (w.setCells b o vs).heap[b]? = some (.cells (putCells C o vs) t fz) ∧ (∀ k, k ≠ b → (w.setCells b o vs).heap[k]? = w.heap[k]?) ∧ (w.setCells b o vs).heap.size = w.heap.size ∧
      (w.setCells b o vs).os = w.os ∧ (w.setCells b o vs).tape = w.tape ∧ (w.setCells b o vs).output = w.output
  | [], o, w, C, t, fz, h => ⟨h, fun _ _ => rfl, rfl, rfl, rfl, rfl⟩
  | v :: r, o, w, C, t, fz, h => by
    have h' : (w.setCell ⟨b, o, none⟩ v).heap[b]? = some (.cells (C.setIfInBounds o v) t fz) := by
      simp [World.setCell, Array.getElem?_modify, h]
    obtain ⟨q1, q2, q3, q4⟩ := setCells_heap b r (o + 1) (w.setCell ⟨b, o, none⟩ v) _ t fz h'
    refine ⟨q1, fun k hk => (q2 k hk).trans ?_, q3.trans (by simp [World.setCell]), q4⟩
    simp only [World.setCell, Array.getElem?_modify]
    rw [if_neg (fun e => hk e.symm)]
theorem Step.write (hR : Rel E H w) {i o : Nat} {cs new cs' : List AV} {opn : Option Nat} {L : Loc} {C : Array Value} {t : TypeId} {fz : Nat × Nat} {us vs : List Value}
    (hg : H.get i = some (.cells cs opn)) (hρ : E.ρ i = some L) (hb : w.heap[L.b]? = some (.cells C t fz)) (hr : AVRelL E w cs us) (hc : ∀ (j : Nat) (u : Value), us[j]? = some u → C[L.s + j]? = some u)
    (hsp : L.s + span L cs.length opn ≤ C.size) (hfz : ∀ j, j < span L cs.length opn → ¬ (fz.1 ≤ L.s + j ∧ L.s + j < fz.2))
    (hft : fits L cs.length opn) (hn : AVRelL E w new vs) (hin : o + new.length ≤ span L cs.length opn) (ho : o ≤ cs.length) (hcs : cs' = overA cs o new) :
    Step E H w E (H.set i (some (.cells cs' opn))) (w.setCells L.b (L.s + o) vs) := by
  have hvl := hn.length
  have hul := hr.length
  obtain ⟨q1, q2, q3, q4, q5, q6⟩ := setCells_heap L.b vs (L.s + o) w C t fz hb
  have hlen : span L cs'.length opn = span L cs.length opn := by
    subst hcs
    unfold span at hin ⊢
    cases opn with
    | none => simp only at hin ⊢; simp [overA]; omega
    | some z => simp only at hin ⊢; simp [overA]; omega
  refine Step.update hR hg hρ q3 (fun b hbn => q2 b hbn) q4 q5 q6 (fun hext => ?_)
  refine ⟨_, t, fz, us.take o ++ vs ++ us.drop (o + vs.length), q1, ?_, ?_, ?_, ?_, ?_⟩
  · subst hcs
    unfold overA
    rw [hvl]
    exact AVRelL.append (AVRelL.append (AVRelL.mono hext _ _ (hr.take o)) (AVRelL.mono hext _ _ hn)) (AVRelL.mono hext _ _ (hr.drop _))
  · intro j u hj
    rw [putCells_get vs C (L.s + o) (L.s + j) (by rw [hvl]; omega)]
    by_cases h1 : j < o
    · rw [if_neg (by omega)]
      rw [List.append_assoc, List.getElem?_append_left (by simp; omega), List.getElem?_take, if_pos h1] at hj
      exact hc j u hj
    · by_cases h2 : j < o + vs.length
      · rw [if_pos (by omega)]
        rw [List.append_assoc, List.getElem?_append_right (by simp; omega), List.getElem?_append_left (by simp; omega)] at hj
        simp only [List.length_take] at hj
        rw [← hj]
        congr 1
        omega
      · rw [if_neg (by omega)]
        rw [List.getElem?_append_right (by simp; omega), List.getElem?_drop] at hj
        simp only [List.length_append, List.length_take] at hj
        refine hc j u ?_
        rw [← hj]
        congr 1
        omega
  · rw [putCells_size, hlen]
    exact hsp
  · intro j hj
    rw [hlen] at hj
    exact hfz j hj
  · subst hcs
    unfold fits at hft ⊢
    unfold span at hin
    cases opn with
    | none => trivial
    | some z => simp only at hin hft ⊢; simp [overA]; omega
end
end Go.Eng
end
section
namespace Go.Eng
section
variable {E : Env} {H : AHeap} {w : World} {P : Program}
def EffOK (P : Program) (E : Env) (H : AHeap) (w : World) (x : AV) (H' : AHeap) (r : Result Next) : Prop :=
  ∃ nx u w' E', r = .ok nx w' ∧ (nx = .value u ∨ (nx = .skip ∧ u = undef)) ∧ Step E H w E' H' w' ∧ AVRel E' w' x u
theorem undef_rel : AVRel E w undefA undef := by
  simp only [undefA, undef, AVRel]
  exact ⟨#[], rfl, by simp [AVRelL]⟩
theorem storeCells_run {b o : Nat} {C : Array Value} {t : TypeId} {fz : Nat × Nat} (hb : w.heap[b]? = some (.cells C t fz)) {vs : List Value} (hl : o + vs.length ≤ C.size)
    (hfz : ∀ j, j < vs.length → ¬ (fz.1 ≤ o + j ∧ o + j < fz.2)) (h1 : ∀ v ∈ vs, v.oneCell' = true) : (storeCells ⟨b, o, none⟩ vs).run P w = .ok () (w.setCells b o vs) := by
  have := run_storeCells_cells (P := P) b o vs 0 w (fun j hj => by
      simp only [World.cell?, hb, Option.isSome_none, Bool.false_eq_true, if_false, Nat.add_zero]
      rw [Array.getElem?_eq_getElem (by omega)]
      rfl) (fun j hj => by
      simp only [World.frozen?, hb, Nat.add_zero]
      have := hfz j hj
      simp only [Bool.and_eq_false_iff, decide_eq_false_iff_not]
      omega) h1
  simpa using this
theorem span_ge (L : Loc) (n : Nat) (o : Option Nat) : n ≤ span L n o := by
  unfold span
  cases o
  · exact Nat.le_refl _
  · exact Nat.le_max_left _ _
theorem store_sound (hR : Rel E H w) {t : TypeId} {n : Nat} (hz : sizeT P t = some n) {a x : AV} {u v : Value} (ha : AVRel E w a u) (hx : AVRel E w x v) {H' : AHeap} (h : storeA H n a x = some H') :
    EffOK P E H w undefA H' ((do Instr.storeAt t u v; pure Next.skip : Sem Next).run P w) := by
  have hs := size_run (w := w) hz
  unfold storeA at h
  simp only at h
  split at h
  · cases h
  · rename_i hc
    simp only [not_or, Decidable.not_not, Bool.not_eq_true, Bool.not_eq_false'] at hc
    obtain ⟨hc1, hc2⟩ := hc
    split at h
    · rename_i i o
      split at h
      · rename_i cs opn hg
        split at h
        · rename_i hle
          cases h
          obtain ⟨L, hρ, hO, _⟩ := hR.obj _ _ hg
          obtain ⟨C, t', fz, us, hb, hr, hcell, hsp, hfz, hft⟩ := hO
          simp only [AVRel] at ha
          obtain ⟨L', hρ', rfl⟩ := ha
          rw [hρ] at hρ'
          cases hρ'
          have hcr := hx.cells_rel
          have hcl := hcr.length
          have hspan := span_ge L cs.length opn
          have hone := AVRelL.oneCell hcr (by simpa using hc2)
          have hrun := storeCells_run (P := P) hb (o := L.s + o) (vs := v.cells.toList) (by rw [hcl]; omega) (fun j hj => by rw [hcl] at hj; have := hfz (o + j) (by omega); omega) hone
          refine ⟨.skip, undef, _, E, ?_, .inr ⟨rfl, rfl⟩, Step.write hR hg hρ hb hr hcell hsp hfz hft hcr (by omega) (by omega) rfl, undef_rel⟩
          have hsz : v.cells.size = n := by rw [← Array.length_toList, hcl]; exact hc1
          simp [Instr.storeAt, Instr.sureAddr, storeVar, hs, hsz, hrun]
        · cases h
      · cases h
    · cases h
theorem EntR.append : ∀ {es fs : List (AV × AV)} {a b : List MapEntry}, EntR E w es a → EntR E w fs b → EntR E w (es ++ fs) (a ++ b)
  | [], fs, a, b, h, h' => by simp only [EntR] at h; subst h; simpa using h'
  | (k, v) :: es, fs, a, b, h, h' => by
    simp only [EntR] at h
    obtain ⟨e, a', rfl, h2, h3, h4⟩ := h
    simp only [List.cons_append, EntR]
    exact ⟨e, _, rfl, h2, h3, EntR.append h4 h'⟩
theorem EntR.set {k v : AV} {e : MapEntry} (hk : AVRel E w k e.key) (hv : AVRel E w v e.val) : ∀ {es : List (AV × AV)} {a : List MapEntry} (i : Nat), EntR E w es a → EntR E w (es.set i (k, v)) (a.set i e)
  | [], a, i, h => by simp only [EntR] at h; subst h; simp [EntR]
  | (k', v') :: es, a, 0, h => by
    simp only [EntR] at h
    obtain ⟨e', a', rfl, h2, h3, h4⟩ := h
    simp only [List.set_cons_zero, EntR]
    exact ⟨e, a', rfl, hk, hv, h4⟩
  | (k', v') :: es, a, i + 1, h => by
    simp only [EntR] at h
    obtain ⟨e', a', rfl, h2, h3, h4⟩ := h
    simp only [List.set_cons_succ, EntR]
    exact ⟨e', _, rfl, h2, h3, EntR.set hk hv i h4⟩
theorem EntR.erase : ∀ {es : List (AV × AV)} {a : List MapEntry} (i : Nat), EntR E w es a → EntR E w (es.eraseIdx i) (a.eraseIdx i)
  | [], a, i, h => by simp only [EntR] at h; subst h; simp [EntR]
  | (k', v') :: es, a, 0, h => by
    simp only [EntR] at h
    obtain ⟨e', a', rfl, h2, h3, h4⟩ := h
    simpa using h4
  | (k', v') :: es, a, i + 1, h => by
    simp only [EntR] at h
    obtain ⟨e', a', rfl, h2, h3, h4⟩ := h
    simp only [List.eraseIdx_cons_succ, EntR]
    exact ⟨e', _, rfl, h2, h3, EntR.erase i h4⟩
theorem EntR.get : ∀ {es : List (AV × AV)} {a : List MapEntry} {i : Nat} {k v : AV}, EntR E w es a → es[i]? = some (k, v) → ∃ e, a[i]? = some e ∧ AVRel E w k e.key ∧ AVRel E w v e.val
  | [], a, i, k, v, h, hi => by simp at hi
  | (k', v') :: es, a, 0, k, v, h, hi => by
    simp only [EntR] at h
    obtain ⟨e', a', rfl, h2, h3, h4⟩ := h
    simp at hi
    obtain ⟨rfl, rfl⟩ := hi
    exact ⟨e', rfl, h2, h3⟩
  | (k', v') :: es, a, i + 1, k, v, h, hi => by
    simp only [EntR] at h
    obtain ⟨e', a', rfl, h2, h3, h4⟩ := h
    simpa using EntR.get h4 (by simpa using hi)
theorem plain_same {k : KK} {x : AV} {l : Lit} {u v : Value} (h : litA k x = some l) (hu : AVRel E w x u) (hv : AVRel E w x v) : u = v ∧ ∀ n, Instr.sameBits n u u = true := by
  rcases litA_cases h with ⟨b, rfl, rfl, rfl⟩ | ⟨q, n, rfl, rfl, rfl⟩ | ⟨s, rfl, rfl, rfl⟩
  · rw [hu.bool_inv, hv.bool_inv]
    exact ⟨rfl, fun n => by cases n <;> simp [Instr.sameBits]⟩
  · rw [hu.int_inv, hv.int_inv]
    exact ⟨rfl, fun n => by cases n <;> simp [Instr.sameBits]⟩
  · rw [hu.str_inv, hv.str_inv]
    exact ⟨rfl, fun n => by cases n <;> simp [Instr.sameBits, beq_toListBytes]⟩
theorem plains_same : ∀ {ks : List KK} {xs : List AV} {l : List Lit} {us vs : List Value}, litsA ks xs = some l → AVRelL E w xs us → AVRelL E w xs vs → us = vs ∧ ∀ n, (us.zip us).all (fun (x, y) => Instr.sameBits n x y) = true
  | [], [], _, us, vs, _, hu, hv => by
    simp only [AVRelL] at hu hv
    subst hu; subst hv
    exact ⟨rfl, fun _ => rfl⟩
  | [], _ :: _, _, _, _, h, _, _ => by simp [litsA] at h
  | _ :: _, [], _, _, _, h, _, _ => by simp [litsA] at h
  | k :: ks, x :: xs, l, us, vs, h, hu, hv => by
    simp only [litsA, bind, Option.bind_eq_some_iff, Option.some.injEq] at h
    obtain ⟨a, ha, m, hm, rfl⟩ := h
    simp only [AVRelL] at hu hv
    obtain ⟨u, us', rfl, hu1, hu2⟩ := hu
    obtain ⟨v, vs', rfl, hv1, hv2⟩ := hv
    obtain ⟨rfl, s1⟩ := plain_same ha hu1 hv1
    obtain ⟨rfl, s2⟩ := plains_same hm hu2 hv2
    exact ⟨rfl, fun n => by simp only [List.zip_cons_cons, List.all_cons, s1 n, s2 n, Bool.and_self]⟩
theorem key_same {K : KT} {x : AV} {l : List Lit} {u v : Value} (h : keyA K x = some l) (hu : AVRel E w x u) (hv : AVRel E w x v) : u = v ∧ Instr.sameBits 10000 u u = true := by
  unfold keyA at h
  split at h
  · split at h
    · simp only [AVRel] at hu hv
      obtain ⟨us, rfl, hu⟩ := hu
      obtain ⟨vs, rfl, hv⟩ := hv
      obtain ⟨e, hs⟩ := plains_same h hu hv
      obtain rfl := Array.toList_inj.1 e
      refine ⟨rfl, ?_⟩
      have := hs 9999
      simp only [Instr.sameBits, beq_self_eq_true, Bool.true_and]
      exact this
    · cases h
  · split at h
    · cases h
    · obtain ⟨k, hk⟩ : ∃ k, K.ks = [k] := by
        have := (litsA_length h).1
        match hq : K.ks, this with
        | [k], _ => exact ⟨k, rfl⟩
      rw [hk] at h
      obtain ⟨_, m, e, hm, rfl⟩ := litsA_one h
      cases e
      obtain ⟨e, hs⟩ := plain_same hm hu hv
      exact ⟨e, hs _⟩
theorem stays_run {old new : Value} (h : old = new) (hs : Instr.sameBits 10000 old old = true) : (Instr.keyThatStays old new).run P w = .ok new w := by
  subst h
  simp [Instr.keyThatStays, hs]
theorem setMap_run {b : Nat} {rows : Array MapEntry} {clock : Nat} (o : Obj) (hb : w.heap[b]? = some (.map rows clock)) : (setObj b o).run P w = .ok () { w with heap := w.heap.setIfInBounds b o } := by
  simp [setObj, Sem.run, hb]
theorem Step.setMap (hR : Rel E H w) {i : Nat} {es es' : List (AV × AV)} {L : Loc} {rows rows' : Array MapEntry} {clock clock' : Nat} (hg : H.get i = some (.map es)) (hρ : E.ρ i = some L) (hb : w.heap[L.b]? = some (.map rows clock))
    (hE : MapR E w es' rows' clock') : Step E H w E (H.set i (some (.map es'))) { w with heap := w.heap.setIfInBounds L.b (.map rows' clock') } := by
  have hlt : L.b < w.heap.size := (hR.dom i L hρ).2
  refine Step.update hR hg hρ (by simp) (fun b hbn => by simp only; rw [Array.getElem?_setIfInBounds_ne (fun e => hbn e.symm)]) rfl rfl rfl (fun hext => ?_)
  exact ⟨rows', clock', by simp only; rw [Array.getElem?_setIfInBounds_self_of_lt hlt], hE.mono hext⟩
theorem set_keys {es : List (AV × AV)} {j : Nat} {k v v0 : AV} (h : es[j]? = some (k, v0)) : (es.set j (k, v)).map (·.1) = es.map (·.1) := by
  apply List.ext_getElem?
  intro n
  rw [List.getElem?_map, List.getElem?_map, List.getElem?_set]
  by_cases e : j = n
  · subst e
    have hl : j < es.length := by
      rcases Nat.lt_or_ge j es.length with q | q
      · exact q
      · rw [List.getElem?_eq_none q] at h; cases h
    rw [if_pos rfl, if_pos hl, h]
    rfl
  · rw [if_neg e]
theorem distinct_map {es : List (AV × AV)} : es.Pairwise (fun a b => a.1 ≠ b.1) ↔ (es.map (·.1)).Pairwise (· ≠ ·) := by
  rw [List.pairwise_map]
theorem perm_erase : ∀ {es : List (AV × AV)} {j : Nat} {p : AV × AV}, es[j]? = some p → es.Perm (p :: es.eraseIdx j)
  | [], _, _, h => by simp at h
  | q :: es, 0, p, h => by simp at h; subst h; simp
  | q :: es, j + 1, p, h => by
    simp only [List.eraseIdx_cons_succ]
    exact ((perm_erase (by simpa using h)).cons q).trans (List.Perm.swap p q _)
theorem perm_set {es : List (AV × AV)} {j : Nat} {p q : AV × AV} (h : es[j]? = some p) : (es.set j q).Perm (q :: es.eraseIdx j) := by
  have hl : j < es.length := by
    rcases Nat.lt_or_ge j es.length with q | q
    · exact q
    · rw [List.getElem?_eq_none q] at h; cases h
  have h1 : (es.set j q)[j]? = some q := by rw [List.getElem?_set, if_pos rfl, if_pos hl]
  have h2 := perm_erase h1
  have h3 : (es.set j q).eraseIdx j = es.eraseIdx j := by
    apply List.ext_getElem?
    intro n
    rw [List.getElem?_eraseIdx, List.getElem?_eraseIdx, List.getElem?_set, List.getElem?_set]
    split
    · rw [if_neg (by omega)]
    · rw [if_neg (by omega)]
  rwa [h3] at h2
theorem perm_both {es es' : List (AV × AV)} {i j : Nat} {p : AV × AV} (hp : es'.Perm es) (h : es[i]? = some p) (h' : es'[j]? = some p) : (es'.eraseIdx j).Perm (es.eraseIdx i) :=
  List.Perm.cons_inv (((perm_erase h').symm.trans hp).trans (perm_erase h))
theorem upd_sound (hR : Rel E H w) {t kt et : TypeId} {K : KT} (hu : P.underlying t = some (.map kt et)) (hK : keyKinds P kt = some K) {i : Nat} {k v : AV} {um uk uv : Value} (hm : AVRel E w (.map i) um) (hk : AVRel E w k uk) (hv : AVRel E w v uv)
    {es es' : List (AV × AV)} {l : List Lit} (hg : H.get i = some (.map es)) (hl : keyA K k = some l) (h : updE K l k v es = some es') :
    EffOK P E H w undefA (H.set i (some (.map es'))) ((do Instr.mapUpdate t um uk uv; pure Next.skip : Sem Next).run P w) := by
  obtain ⟨L, hρ, hO, _⟩ := hR.obj _ _ hg
  obtain ⟨rows, clock, hb, es0, hE, hp, hd, hcl, hbn⟩ := hO
  simp only [AVRel] at hm
  obtain ⟨L', hρ', rfl⟩ := hm
  rw [hρ] at hρ'
  cases hρ'
  have hgo := getMap_run (P := P) hb
  have hck := check_sound (P := P) hK hl hk false
  unfold updE at h
  cases hf : findE K l es 0 with
  | none => simp [hf] at h
  | some r =>
    obtain ⟨r0, hf0, n1, n2⟩ := findE_perm ⟨_, hl⟩ hp hd hf
    obtain ⟨r', h1, h2⟩ := find_sound (P := P) hK hl hk hE hf0
    cases r with
    | none =>
      simp only [hf, Option.some.injEq] at h
      subst h
      obtain rfl := n1 rfl
      simp only [FoundR] at h2
      subst h2
      have hset := setMap_run (P := P) (Obj.map (rows.push { key := uk, val := uv, born := clock }) (clock + 1)) hb
      refine ⟨.skip, undef, _, E, ?_, .inr ⟨rfl, rfl⟩, Step.setMap hR hg hρ hb (rows' := rows.push { key := uk, val := uv, born := clock }) (clock' := clock + 1) ⟨es0 ++ [(k, v)], ?_, hp.append_right _, ?_, ?_, ?_⟩, undef_rel⟩
      · simp [Instr.mapUpdate, run_underlying hu, hgo, hck, h1, hset]
      · rw [Array.toList_push]
        refine EntR.append hE ?_
        simp only [EntR]
        exact ⟨_, [], rfl, hk, hv, rfl⟩
      · refine List.pairwise_append.2 ⟨hd, by simp, fun p hp' q hq' => ?_⟩
        simp only [List.mem_singleton] at hq'
        subst hq'
        intro e
        obtain ⟨m, hm, hno⟩ := findE_good hf p hp'
        rw [e] at hm
        simp only at hm
        rw [hl] at hm
        cases hm
        obtain ⟨xs, hxs⟩ := keyA_lits hl
        rw [(litsEq_iff hxs hxs).2 rfl] at hno
        cases hno rfl
      · intro e he
        rw [Array.toList_push, List.mem_append] at he
        rcases he with he | he
        · have := hcl e he; omega
        · simp at he; subst he; simp
      · rw [Array.toList_push, List.map_append, List.nodup_append]
        refine ⟨hbn, by simp, fun a ha b hb' => ?_⟩
        simp only [List.map_cons, List.map_nil, List.mem_singleton] at hb'
        subst hb'
        obtain ⟨e, he, rfl⟩ := List.mem_map.1 ha
        have := hcl e he
        omega
    | some p =>
      obtain ⟨j, v0⟩ := p
      simp only [hf, Option.some.injEq] at h
      subst h
      obtain ⟨j0, e0⟩ := n2 j v0 rfl
      subst e0
      simp only [FoundR] at h2
      obtain ⟨u0, rfl, hv0⟩ := h2
      obtain ⟨k1, m1, _, hget1, hm1, hq1⟩ := findE_get hf
      obtain ⟨k0, m, _, hget, hm0, hq⟩ := findE_get hf0
      simp only [Nat.sub_zero] at hget hget1
      obtain ⟨e, he, hek, hev⟩ := hE.get hget
      have he' : rows[j0]? = some e := by rw [← Array.getElem?_toList]; exact he
      obtain ⟨xs, hxs⟩ := keyA_lits hl
      obtain ⟨ys, hys⟩ := keyA_lits hm0
      obtain ⟨zs, hzs⟩ := keyA_lits hm1
      have hlm : l = m := (litsEq_iff hxs hys).1 hq
      subst hlm
      have hlm1 : l = m1 := (litsEq_iff hxs hzs).1 hq1
      subst hlm1
      obtain rfl := keyA_inj hl hm0
      obtain rfl := keyA_inj hl hm1
      obtain ⟨hsame, hbits⟩ := key_same hl hek hk
      have hst := stays_run (P := P) (w := w) hsame hbits
      have hset := setMap_run (P := P) (Obj.map (rows.modify j0 fun e => { e with key := uk, val := uv }) clock) hb
      have hj : j0 < rows.size := by
        rcases Nat.lt_or_ge j0 rows.size with q | q
        · exact q
        · rw [Array.getElem?_eq_none q] at he'; cases he'
      refine ⟨.skip, undef, _, E, ?_, .inr ⟨rfl, rfl⟩, Step.setMap hR hg hρ hb (rows' := rows.modify j0 fun e => { e with key := uk, val := uv }) (clock' := clock) ⟨es0.set j0 (k, v), ?_, (perm_set hget).trans (((perm_both hp hget1 hget).cons _).trans (perm_set hget1).symm), by rw [distinct_map, set_keys hget1, ← distinct_map]; exact hd, ?_, ?_⟩, undef_rel⟩
      · simp [Instr.mapUpdate, run_underlying hu, hgo, hck, h1, he', hst, hset]
      · have : (rows.modify j0 fun e => { e with key := uk, val := uv }).toList = rows.toList.set j0 { e with key := uk, val := uv } := by
          rw [Array.toList_modify]
          apply List.ext_getElem?
          intro n
          rw [List.getElem?_modify, List.getElem?_set]
          by_cases hn : j0 = n
          · subst hn
            rw [he, if_pos rfl, if_pos (by simpa using hj)]
            simp
          · rw [if_neg hn]
            simp [hn]
        rw [this]
        exact EntR.set hk hv j0 hE
      · intro e' he2
        have : ∃ n, (rows.modify j0 fun e => { e with key := uk, val := uv }).toList[n]? = some e' := List.mem_iff_getElem?.1 he2
        obtain ⟨n, hn⟩ := this
        rw [Array.toList_modify, List.getElem?_modify] at hn
        cases hq' : rows.toList[n]? with
        | none => simp [hq'] at hn
        | some e0 =>
          have h0 := hcl e0 (List.mem_of_getElem? hq')
          simp [hq'] at hn
          subst hn
          split <;> exact h0
      · have : (rows.modify j0 fun e => { e with key := uk, val := uv }).toList.map (·.born) = rows.toList.map (·.born) := by
          rw [Array.toList_modify]
          apply List.ext_getElem?
          intro n
          rw [List.getElem?_map, List.getElem?_map, List.getElem?_modify]
          cases rows.toList[n]? with
          | none => rfl
          | some e0 =>
            simp only [Option.map_some]
            split <;> rfl
        rw [this]
        exact hbn
theorem del_sound (hR : Rel E H w) {t kt et : TypeId} {K : KT} (hu : P.underlying t = some (.map kt et)) (hK : keyKinds P kt = some K) {i : Nat} {k : AV} {um uk : Value} (hm : AVRel E w (.map i) um) (hk : AVRel E w k uk)
    {es es' : List (AV × AV)} {l : List Lit} (hg : H.get i = some (.map es)) (hl : keyA K k = some l) (h : delE K l es = some es') (t2 ty : TypeId) :
    ∃ w', (Builtin.delete_ #[t, t2] ty #[um, uk]).run P w = .ok undef w' ∧ Step E H w E (H.set i (some (.map es'))) w' := by
  obtain ⟨L, hρ, hO, _⟩ := hR.obj _ _ hg
  obtain ⟨rows, clock, hb, es0, hE, hp, hd, hcl, hbn⟩ := hO
  simp only [AVRel] at hm
  obtain ⟨L', hρ', rfl⟩ := hm
  rw [hρ] at hρ'
  cases hρ'
  have hgo := getMap_run (P := P) hb
  have hck := check_sound (P := P) hK hl hk rows.isEmpty
  unfold delE at h
  cases hf : findE K l es 0 with
  | none => simp [hf] at h
  | some r =>
    obtain ⟨r0, hf0, n1, n2⟩ := findE_perm ⟨_, hl⟩ hp hd hf
    obtain ⟨r', h1, h2⟩ := find_sound (P := P) hK hl hk hE hf0
    cases r with
    | none =>
      simp only [hf, Option.some.injEq] at h
      subst h
      obtain rfl := n1 rfl
      simp only [FoundR] at h2
      subst h2
      have hset := setMap_run (P := P) (Obj.map rows clock) hb
      refine ⟨_, ?_, Step.setMap hR hg hρ hb (rows' := rows) (clock' := clock) ⟨es0, hE, hp, hd, hcl, hbn⟩⟩
      simp [Builtin.delete_, run_underlying hu, hgo, hck, h1, hset, undef]
    | some p =>
      obtain ⟨j, v0⟩ := p
      simp only [hf, Option.some.injEq] at h
      subst h
      obtain ⟨j0, e0⟩ := n2 j v0 rfl
      subst e0
      simp only [FoundR] at h2
      obtain ⟨u0, rfl, hv0⟩ := h2
      obtain ⟨k1, m1, _, hget1, hm1, hq1⟩ := findE_get hf
      obtain ⟨k0, m, _, hget, hm0, hq⟩ := findE_get hf0
      simp only [Nat.sub_zero] at hget hget1
      obtain ⟨xs, hxs⟩ := keyA_lits hl
      obtain ⟨ys, hys⟩ := keyA_lits hm0
      obtain ⟨zs, hzs⟩ := keyA_lits hm1
      have hlm : l = m := (litsEq_iff hxs hys).1 hq
      subst hlm
      have hlm1 : l = m1 := (litsEq_iff hxs hzs).1 hq1
      subst hlm1
      obtain rfl := keyA_inj hl hm0
      obtain rfl := keyA_inj hl hm1
      have hset := setMap_run (P := P) (Obj.map (rows.eraseIdxIfInBounds j0) clock) hb
      have hel : (rows.eraseIdxIfInBounds j0).toList = rows.toList.eraseIdx j0 := by
        unfold Array.eraseIdxIfInBounds
        split
        · rename_i hlt
          simp
        · rename_i hlt
          rw [List.eraseIdx_of_length_le (by simp; omega)]
      refine ⟨_, ?_, Step.setMap hR hg hρ hb (rows' := rows.eraseIdxIfInBounds j0) (clock' := clock) ⟨es0.eraseIdx j0, ?_, perm_both hp hget1 hget, hd.sublist (List.eraseIdx_sublist _ _), ?_, ?_⟩⟩
      · simp [Builtin.delete_, run_underlying hu, hgo, hck, h1, hset, undef]
      · rw [hel]
        exact EntR.erase j0 hE
      · intro e he
        rw [hel] at he
        exact hcl e (List.mem_of_mem_eraseIdx he)
      · rw [hel]
        exact hbn.sublist ((List.eraseIdx_sublist _ _).map _)
theorem cap_bound {need cap : Nat} (h : cap < need) (hn : need ≤ 2 ^ 30) : Builtin.nextslicecap need cap ≤ 2 ^ 31 := by
  have hg : ∀ (r c : Nat), c < need + need / 4 + 193 → Builtin.growBy need r c < need + need / 4 + 193 := by
    intro r
    induction r with
    | zero => intro c h; exact h
    | succ r ih =>
      intro c h
      simp only [Builtin.growBy]
      split
      · exact h
      · exact ih _ (by omega)
  unfold Builtin.nextslicecap
  split
  · omega
  · split
    · omega
    · have := hg 4 cap (by omega)
      omega
theorem ObjR.new {E' : Env} {cs : List AV} {us rest : List Value} {t : TypeId} {z room : Nat} {opn : Option Nat} (hr : AVRelL E' (w.alloc (.cells (us ++ rest).toArray t)) cs us) (hop : opn = none ∨ (opn = some z ∧ us.length ≤ room * z)) (hroom : room * z ≤ us.length + rest.length) :
    ObjR E' (w.alloc (.cells (us ++ rest).toArray t)) ⟨w.heap.size, 0, room⟩ (.cells cs opn) := by
  have hl := hr.length
  refine ⟨(us ++ rest).toArray, t, (0, 0), us, ?_, hr, ?_, ?_, ?_, ?_⟩
  · rw [alloc_heap, if_pos rfl]
  · intro j u hj
    simp only [Nat.zero_add]
    rw [List.getElem?_toArray, List.getElem?_append_left (by
      rcases Nat.lt_or_ge j us.length with q | q
      · exact q
      · rw [List.getElem?_eq_none q] at hj; cases hj)]
    exact hj
  · simp only [Nat.zero_add, List.size_toArray, List.length_append]
    rcases hop with rfl | ⟨rfl, _⟩
    · simp only [span]; omega
    · simp only [span]; omega
  · intro j hj
    omega
  · rcases hop with rfl | ⟨rfl, h⟩
    · trivial
    · simp only [fits]; omega
theorem Step.newRow (hR : Rel E H w) {w0 : World} (hw : w0.heap = w.heap) (h1 : w0.os = w.os) (h2 : w0.tape = w.tape) (h3 : w0.output = w.output) {cs : List AV} {us rest : List Value} {t : TypeId} {z room : Nat} {opn : Option Nat}
    (hr : AVRelL E w cs us) (hop : opn = none ∨ (opn = some z ∧ us.length ≤ room * z)) (hroom : room * z ≤ us.length + rest.length) :
    Step E H w (E.add H.next ⟨w.heap.size, 0, room⟩) (H.add (.cells cs opn)) (w0.alloc (.cells (us ++ rest).toArray t)) := by
  have s1 := Step.of_heap hR hw h1 h2 h3
  have hR0 := hR.of_heap hw
  have hsz : w0.heap.size = w.heap.size := by rw [hw]
  have := Step.add (obj := .cells (us ++ rest).toArray t) (o := .cells cs opn) (room := room) hR0 (fun hext => ObjR.new (AVRelL.mono hext _ _ (AVRelL.mono s1.ext _ _ hr)) hop hroom)
  rw [hsz] at this
  exact s1.trans this
theorem sl_new {E : Env} {w : World} {n b room l : Nat} (hl : l ≤ room) : AVRel (E.add n ⟨b, 0, room⟩) w (.sl n 0 l openCap) (.slice (some ⟨b, 0, none⟩) l room) := by
  simp only [AVRel]
  refine ⟨⟨b, 0, room⟩, ⟨b, 0, none⟩, room, by simp [Env.add], rfl, .inr ⟨by unfold openAt openCap; decide, ⟨0, rfl, rfl⟩, .inl rfl⟩, hl⟩
theorem rest_len (z : Array Value) (n : Nat) : (Builtin.zeroCells z n).toList.length = n * z.size := by simp [Builtin.zeroCells]
theorem grow_run {t u e : TypeId} {i : TypeInfo} {zv : Value} (hu : P.underlying t = some (.slice e)) (hnz : appSrc P u = true) (hi : P.info? e = some i) (hz : i.zero = some zv)
    (hb : i.bytes ≤ 2 ^ 16) {ad : Option Addr} {l c n : Nat} {x : Value} {old new : Array Value} (hc : c < l + n) (hn : l + n ≤ 2 ^ 30)
    (hlen : (Builtin.lenOf x).run P w = .ok n w) (ho : (Builtin.firstCells i.size l (.slice ad l c)).run P w.drew = .ok old w.drew) (hw : (Builtin.firstCells i.size n x).run P w.drew = .ok new w.drew) (ty : TypeId) :
    ∃ (cap : Nat) (w0 : World), l + n ≤ cap ∧ w0.heap = w.heap ∧ w0.os = w.os ∧ w0.tape = w.tape ∧ w0.output = w.output ∧
      (Builtin.append_ #[t, u] ty #[.slice ad l c, x]).run P w = .ok (.slice (some ⟨w.heap.size, 0, none⟩) (l + n) cap) (w0.alloc (.cells (old ++ new ++ Builtin.zeroCells zv.cells (cap - (l + n))) e)) := by
  have hcb := cap_bound hc hn
  have hbound : Builtin.nextslicecap (l + n) c * i.bytes ≤ 281474976710656 := by
    have : Builtin.nextslicecap (l + n) c * i.bytes ≤ 2 ^ 31 * 2 ^ 16 := Nat.mul_le_mul hcb hb
    have e : (2 : Nat) ^ 31 * 2 ^ 16 = 140737488355328 := by decide
    omega
  have h48' : ¬ (281474976710656 < Builtin.nextslicecap (l + n) c * i.bytes) := by omega
  have h63' : ¬ (9223372036854775807 < ((l : Int) + (n : Int))) := by omega
  have hcn : ¬ (l + n ≤ c) := by omega
  refine ⟨(Question.appendCap (l + n) c e).cut (w.tape w.drawn (.appendCap (l + n) c e)), w.drew, Nat.le_add_right _ _, rfl, rfl, rfl, rfl, ?_⟩
  unfold appSrc at hnz
  split at hnz
  · rename_i e' hud
    simp [Builtin.append_, run_underlying hu, run_underlying hud, sizeOf, typeInfo, zeroValue, hi, hz, hlen, hcn, h63', h48', Question.forced, ho, hw, newRow]
  · rename_i hud
    simp [Builtin.append_, run_underlying hu, run_underlying hud, sizeOf, typeInfo, zeroValue, hi, hz, hlen, hcn, h63', h48', Question.forced, ho, hw, newRow]
  · cases hnz
theorem room_run {t u e : TypeId} {i : TypeInfo} (hu : P.underlying t = some (.slice e)) (hnz : appSrc P u = true) (hi : P.info? e = some i)
    {a : Addr} {l c n : Nat} {x : Value} {new : Array Value} (hc : l + n ≤ c)
    (hlen : (Builtin.lenOf x).run P w = .ok n w) (hnew : (Builtin.firstCells i.size n x).run P w = .ok new w) {w' : World} (hst : (storeCells (a.add (l * i.size)) new.toList).run P w = .ok () w') (ty : TypeId) :
    (Builtin.append_ #[t, u] ty #[.slice (some a) l c, x]).run P w = .ok (.slice (some a) (l + n) c) w' := by
  unfold appSrc at hnz
  split at hnz
  · rename_i e' hud
    simp [Builtin.append_, run_underlying hu, run_underlying hud, sizeOf, typeInfo, hi, hlen, hc, hnew, hst]
  · rename_i hud
    simp [Builtin.append_, run_underlying hu, run_underlying hud, sizeOf, typeInfo, hi, hlen, hc, hnew, hst]
  · cases hnz
theorem none_run {t u e : TypeId} {i : TypeInfo} (hu : P.underlying t = some (.slice e)) (hnz : appSrc P u = true) (hi : P.info? e = some i)
    {x : Value} {new : Array Value} (hlen : (Builtin.lenOf x).run P w = .ok 0 w) (hnew : (Builtin.firstCells i.size 0 x).run P w = .ok new w) (ty : TypeId) :
    (Builtin.append_ #[t, u] ty #[.slice none 0 0, x]).run P w = .ok (.slice none 0 0) w := by
  unfold appSrc at hnz
  split at hnz
  · rename_i e' hud
    simp [Builtin.append_, run_underlying hu, run_underlying hud, sizeOf, typeInfo, hi, hlen, hnew]
  · rename_i hud
    simp [Builtin.append_, run_underlying hu, run_underlying hud, sizeOf, typeInfo, hi, hlen, hnew]
  · cases hnz
end
end Go.Eng
end
section
namespace Go.Eng
section
variable {E : Env} {H : AHeap} {w : World} {P : Program}
theorem srcA_length {z n : Nat} {x : AV} {c : List AV} (h : srcA H z n x = some c) (hl : ∀ l, lenA x = some l → n ≤ l) : c.length = n * z := by
  unfold srcA at h
  split at h
  · split at h
    · rename_i h0
      cases h; subst h0; simp
    · cases h
  · split at h
    · split at h
      · cases h; simp; omega
      · cases h
    · cases h
  · split at h
    · cases h; simp; omega
    · cases h
  · rename_i s
    split at h
    · rename_i h1
      cases h
      have := hl s.length rfl
      subst h1
      simp
      omega
    · cases h
  · cases h
theorem drew_ext : Env.Ext E E w w.drew := ⟨fun _ _ h => h, fun _ h => h, fun _ _ => rfl, fun _ _ _ h => h⟩
theorem drew_rel (h : Rel E H w) : Rel E H w.drew := h.of_heap rfl
theorem Step.rename (hR : Rel E H w) {i : Nat} {o o' : AObj} {L L' : Loc} {w' : World} (hg : H.get i = some o) (hρ : E.ρ i = some L) (hLb : L'.b = L.b) (hsz : w'.heap.size = w.heap.size) (hoth : ∀ b, b ≠ L.b → w'.heap[b]? = w.heap[b]?)
    (h1 : w'.os = w.os) (h2 : w'.tape = w.tape) (h3 : w'.output = w.output) (hO : Env.Ext E (E.add H.next L') w w' → ObjR (E.add H.next L') w' L' o') :
    Step E H w (E.add H.next L') ((H.set i none).add o') w' := by
  have hn : E.ρ H.next = none := by
    cases h : E.ρ H.next with
    | none => rfl
    | some L => exact absurd (hR.dom _ _ h).1 (Nat.lt_irrefl _)
  have hin : i < H.next := (hR.dom i L hρ).1
  have hnI : ¬ E.I L.b := by
    obtain ⟨L'', q1, _, q3⟩ := hR.obj i o hg
    rw [hρ] at q1
    cases q1
    exact q3
  have hext : Env.Ext E (E.add H.next L') w w' := by
    refine ⟨fun j L h => ?_, fun _ h => h, fun b hb => hoth b (fun e => hnI (e ▸ hb)), fun _ _ _ h => h⟩
    simp only [Env.add]
    rw [if_neg (fun e => by rw [e, hn] at h; cases h)]
    exact h
  have hget : ∀ j, ((H.set i none).add o').get j = if j = H.next then some o' else if j = i then none else H.get j := by
    intro j
    rw [AHeap.get_add]
    show (if j = H.next then some o' else (H.set i none).get j) = _
    rw [AHeap.get_set]
  refine ⟨hext, ⟨?_, ?_, ?_, ?_⟩, ⟨h1, h2, h3, by omega, ?_⟩, ?_, Nat.le_succ _, ?_, fun _ h => .inl h⟩
  · intro j Lj h
    simp only [Env.add] at h
    split at h
    · rename_i e
      cases h
      refine ⟨?_, ?_⟩
      · show j < H.next + 1
        omega
      · rw [hLb, hsz]
        exact (hR.dom i L hρ).2
    · have := hR.dom j Lj h
      refine ⟨?_, by omega⟩
      show j < H.next + 1
      omega
  · intro b hb
    have := hR.imm b hb
    omega
  · intro j p h
    rw [hget] at h
    split at h
    · rename_i e
      subst e
      cases h
      exact ⟨L', by simp [Env.add], hO hext, by rw [hLb]; exact hnI⟩
    · split at h
      · cases h
      · rename_i e1 e2
        obtain ⟨Lj, q1, q2, q3⟩ := hR.obj j p h
        exact ⟨Lj, hext.ρ _ _ q1, ObjR.mono hext (hoth _ (hR.inj j i p o Lj L h hg q1 hρ e2)) q2, q3⟩
  · intro j k p q Lj Lk hj hk hρj hρk hne
    rw [hget] at hj hk
    simp only [Env.add] at hρj hρk
    split at hj
    · rename_i e
      rw [if_pos e] at hρj
      cases hρj
      split at hk
      · rename_i e'; exact absurd (e.trans e'.symm) hne
      · split at hk
        · cases hk
        · rename_i e1 e2
          rw [if_neg e1] at hρk
          rw [hLb]
          exact fun e => hR.inj k i q o Lk L hk hg hρk hρ e2 e.symm
    · split at hj
      · cases hj
      · rename_i e1 e2
        rw [if_neg e1] at hρj
        split at hk
        · rename_i e
          rw [if_pos e] at hρk
          cases hρk
          rw [hLb]
          exact hR.inj j i p o Lj L hj hg hρj hρ e2
        · split at hk
          · cases hk
          · rename_i e3 e4
            rw [if_neg e3] at hρk
            exact hR.inj j k p q Lj Lk hj hk hρj hρk hne
  · intro b hb hnb
    exact hoth b (fun e => hnb i o L hg hρ e.symm)
  · intro j p Lj hj hρj
    rw [hget] at hj
    simp only [Env.add] at hρj
    split at hj
    · rename_i e
      rw [if_pos e] at hρj
      cases hρj
      exact .inr ⟨i, o, L, hg, hρ, hLb.symm⟩
    · split at hj
      · cases hj
      · rename_i e1 e2
        rw [if_neg e1] at hρj
        exact .inr ⟨j, p, Lj, hj, hρj, rfl⟩
  · intro j Lj h
    simp only [Env.add] at h
    split at h
    · rename_i e; exact .inr (by omega)
    · exact .inl h
theorem Step.forget {E' : Env} {H' H'' : AHeap} {w' : World} (h : Step E H w E' H' w') (hn : H''.next = H'.next) (hs : ∀ j o, H''.get j = some o → H'.get j = some o) : Step E H w E' H'' w' where
  ext := h.ext
  rel := ⟨fun i L hi => by rw [hn]; exact h.rel.dom i L hi, h.rel.imm, fun i o hg => h.rel.obj i o (hs i o hg), fun i j o o' L L' hi hj => h.rel.inj i j o o' L L' (hs i o hi) (hs j o' hj)⟩
  fr := h.fr
  nb := fun i o L hg hρ => h.nb i o L (hs i o hg) hρ
  nx := by rw [hn]; exact h.nx
  ids := h.ids
  imm := h.imm
theorem grow_step (hR : Rel E H w) {H1 : AHeap} (hH1 : H1 = H) {cs news : List AV} {olds new : Array Value} {zv : Value} {e : TypeId} {w0 : World} {l n cap z : Nat} (hcap : l + n ≤ cap) (hw : w0.heap = w.heap) (h1 : w0.os = w.os) (h2 : w0.tape = w.tape) (h3 : w0.output = w.output)
    (ho : AVRelL E w.drew cs olds.toList) (hn : AVRelL E w.drew news new.toList) (hcl : cs.length = l * z) (hnl : news.length = n * z) (hz : zv.cells.size = z) :
    Step E H w (E.add H.next ⟨w.heap.size, 0, cap⟩) (H.add (.cells (cs ++ news) (some z))) (w0.alloc (.cells (olds ++ new ++ Builtin.zeroCells zv.cells (cap - (l + n))) e)) ∧
    AVRel (E.add H.next ⟨w.heap.size, 0, cap⟩) (w0.alloc (.cells (olds ++ new ++ Builtin.zeroCells zv.cells (cap - (l + n))) e)) (.sl H.next 0 (l + n) openCap) (.slice (some ⟨w.heap.size, 0, none⟩) (l + n) cap) := by
  have hb : Env.Ext E E w.drew w := ⟨fun _ _ h => h, fun _ h => h, fun _ _ => rfl, fun _ _ _ h => h⟩
  have hl1 := ho.length
  have hl2 := hn.length
  have hz0 : ∀ k, (Builtin.zeroCells zv.cells k).toList.length = k * z := fun k => by rw [rest_len, hz]
  refine ⟨?_, sl_new hcap⟩
  have := Step.newRow (t := e) (z := z) (room := cap) (opn := some z) hR hw h1 h2 h3 (cs := cs ++ news) (us := olds.toList ++ new.toList) (rest := (Builtin.zeroCells zv.cells (cap - (l + n))).toList)
    (AVRelL.append (AVRelL.mono hb _ _ ho) (AVRelL.mono hb _ _ hn)) (.inr ⟨rfl, ?_⟩) ?_
  · have e1 : (olds.toList ++ new.toList ++ (Builtin.zeroCells zv.cells (cap - (l + n))).toList).toArray = olds ++ new ++ Builtin.zeroCells zv.cells (cap - (l + n)) := by
      apply Array.toList_inj.1
      simp
    rw [e1] at this
    exact this
  · rw [List.length_append, hl1, hl2, hcl, hnl, ← Nat.add_mul]
    exact Nat.mul_le_mul_right z hcap
  · rw [List.length_append, hl1, hl2, hcl, hnl, hz0, ← Nat.add_mul, ← Nat.add_mul]
    exact Nat.mul_le_mul_right z (by omega)
set_option maxHeartbeats 1000000 in
theorem app_sound (hR : Rel E H w) {t u e : TypeId} {i : TypeInfo} {zv : Value} (hu : P.underlying t = some (.slice e)) (hnz : appSrc P u = true) (hi : P.info? e = some i) (hz : i.zero = some zv) (hzs : zv.cells.size = i.size)
    {x y r : AV} {p q : Value} (hx : AVRel E w x p) (hy : AVRel E w y q) {H' : AHeap} (h : appA H i.size i.bytes x y = .eff r H') (ty : TypeId) :
    ∃ v w' E', (Builtin.append_ #[t, u] ty #[p, q]).run P w = .ok v w' ∧ Step E H w E' H' w' ∧ AVRel E' w' r v := by
  unfold appA at h
  split at h
  · cases h
  · rename_i n hn
    split at h
    · cases h
    · rename_i new hsrc
      split at h
      · cases h
      · rename_i hc0
        simp only [not_or, Bool.not_eq_true, Bool.not_eq_false', Nat.not_lt] at hc0
        obtain ⟨hone, hby⟩ := hc0
        have hone' : new.all AV.oneCell = true := by simpa using hone
        have hlen := len_sound (P := P) hn hy
        have hnl := srcA_length hsrc (fun l q => by rw [hn] at q; cases q; exact Nat.le_refl _)
        obtain ⟨us, hfirst, hus⟩ := src_sound (P := P) hR hsrc hy (fun l q => by rw [hn] at q; cases q; exact Nat.le_refl _)
        obtain ⟨usd, hfirstd, husd⟩ := src_sound (P := P) (drew_rel hR) hsrc (AVRel.mono drew_ext _ _ hy) (fun l q => by rw [hn] at q; cases q; exact Nat.le_refl _)
        split at h
        · simp only [AVRel] at hx
          subst hx
          split at h
          · rename_i h0
            cases h
            subst h0
            exact ⟨_, w, E, none_run hu hnz hi hlen hfirst ty, Step.refl hR, by simp [AVRel]⟩
          · split at h
            · cases h
            · rename_i h0 h30
              cases h
              obtain ⟨cap, w0, q1, q2, q3, q4, q5, q6⟩ := grow_run (P := P) (w := w) hu hnz hi hz hby (ad := none) (l := 0) (c := 0) (n := n) (x := q) (old := #[]) (new := usd) (by omega) (by omega) hlen rfl hfirstd ty
              obtain ⟨s1, s2⟩ := grow_step (e := e) hR rfl (cs := []) (olds := #[]) q1 q2 q3 q4 q5 (by simp [AVRelL]) husd (by simp) hnl hzs
              simp only [Nat.zero_add, List.nil_append] at q6 s1 s2
              exact ⟨_, _, _, q6, s1, s2⟩
        · rename_i cs l full
          have hx0 := hx
          simp only [AVRel] at hx
          rcases hx with ⟨rfl, rfl, a, c, rfl, hf⟩ | ⟨b, s, c, us0, rfl, hI, hcell, hrel, hle, hf⟩
          · split at h
            · simp at h
            · split at h
              · cases h
              · rename_i h0 hc1
                cases h
                simp only [not_or, Nat.not_lt, Bool.not_eq_true, Bool.not_eq_false'] at hc1
                obtain ⟨hc1, hc2, hc3⟩ := hc1
                have hfull : full = true := by simpa using hc2
                have hcl := hf hfull
                subst hcl
                obtain ⟨od, hfo, hodr⟩ := src_sound (P := P) (drew_rel hR) (show srcA H i.size 0 (.imm [] 0 full) = some [] by simp [srcA]) (AVRel.mono drew_ext _ _ hx0) (fun l' q => by cases q; exact Nat.le_refl _)
                obtain ⟨cap, w0, q1, q2, q3, q4, q5, q6⟩ := grow_run (P := P) (w := w) hu hnz hi hz hby (ad := a) (l := 0) (c := 0) (n := n) (x := q) (by omega) (by omega) hlen hfo hfirstd ty
                obtain ⟨s1, s2⟩ := grow_step (e := e) hR rfl q1 q2 q3 q4 q5 hodr husd (by simp) hnl hzs
                simp only [Nat.zero_add, List.nil_append, Nat.zero_mul, List.take_nil] at q6 s1 s2 ⊢
                exact ⟨_, _, _, q6, s1, s2⟩
          split at h
          · rename_i h0
            split at h
            · cases h
            cases h
            subst h0
            have hus0 : us.toList = [] := by
              apply List.eq_nil_of_length_eq_zero
              rw [hus.length, hnl]
              simp
            refine ⟨_, w, E, room_run (w' := w) hu hnz hi (by omega) hlen hfirst (by rw [hus0]; rfl) ty, Step.refl hR, ?_⟩
            exact hx0
          · split at h
            · cases h
            · rename_i h0 hc1
              cases h
              simp only [not_or, Nat.not_lt, Bool.not_eq_true, Bool.not_eq_false'] at hc1
              obtain ⟨hc1, hc2, hc3⟩ := hc1
              have hfull : full = true := by simpa using hc2
              have hcl := hf hfull
              subst hcl
              have hso : srcA H i.size c (.imm cs c full) = some (cs.take (c * i.size)) := by simp only [srcA]; rw [if_pos hc3]
              obtain ⟨od, hfo, hodr⟩ := src_sound (P := P) (drew_rel hR) hso (AVRel.mono drew_ext _ _ hx0) (fun l' q => by cases q; exact Nat.le_refl _)
              obtain ⟨cap, w0, q1, q2, q3, q4, q5, q6⟩ := grow_run (P := P) (w := w) hu hnz hi hz hby (ad := some ⟨b, s, none⟩) (l := c) (c := c) (n := n) (x := q) (by omega) (by omega) hlen hfo hfirstd ty
              obtain ⟨s1, s2⟩ := grow_step (e := e) hR rfl q1 q2 q3 q4 q5 hodr husd (by simp; omega) hnl hzs
              exact ⟨_, _, _, q6, s1, s2⟩
        · rename_i id o l c
          split at h
          · cases h
          · rename_i h30
            split at h
            · rename_i cs opn hg
              have hx0 := hx
              obtain ⟨L, ad, c', C, t', fz, us0, hρ, rfl, hsl, hle, hb, hrel, hcell, hsp, hfz, hft⟩ := row_sound hR hx hg
              split at h
              · rename_i h0
                cases h
                subst h0
                have hus0 : us.toList = [] := by
                  apply List.eq_nil_of_length_eq_zero
                  rw [hus.length, hnl]
                  simp
                exact ⟨_, w, E, room_run (w' := w) hu hnz hi (by omega) hlen hfirst (by rw [hus0]; rfl) ty, Step.refl hR, hx0⟩
              · rename_i h0
                have husl : us.toList.length = n * i.size := by rw [hus.length, hnl]
                have honeu := AVRelL.oneCell hus hone'
                split at h
                · cases h
                · rename_i hol
                  have hso : srcA H i.size l (.sl id o l c) = some ((cs.drop o).take (l * i.size)) := by simp only [srcA, hg]; rw [if_pos (by omega)]
                  have growth : c' < l + n → ∃ v w' E', (Builtin.append_ #[t, u] ty #[.slice (some ad) l c', q]).run P w = .ok v w' ∧ Step E H w E' (H.add (.cells ((cs.drop o).take (l * i.size) ++ new) (some i.size))) w' ∧ AVRel E' w' (.sl H.next 0 (l + n) openCap) v := by
                    intro hlt
                    obtain ⟨od, hfo, hodr⟩ := src_sound (P := P) (drew_rel hR) hso (AVRel.mono drew_ext _ _ hx0) (fun l' q => by cases q; exact Nat.le_refl _)
                    obtain ⟨cap, w0, q1, q2, q3, q4, q5, q6⟩ := grow_run (P := P) (w := w) hu hnz hi hz hby (ad := some ad) (l := l) (c := c') (n := n) (x := q) hlt (by omega) hlen hfo hfirstd ty
                    obtain ⟨s1, s2⟩ := grow_step (e := e) hR rfl q1 q2 q3 q4 q5 hodr husd (by simp; omega) hnl hzs
                    exact ⟨_, _, _, q6, s1, s2⟩
                  have hspan := span_ge L cs.length opn
                  -- the store into the object's own cells
                  have inplace : ad = ⟨L.b, L.s + o, none⟩ → l + n ≤ c' → o + (l + n) * i.size ≤ span L cs.length opn →
                      (Builtin.append_ #[t, u] ty #[.slice (some ad) l c', q]).run P w = .ok (.slice (some ad) (l + n) c') (w.setCells L.b (L.s + (o + l * i.size)) us.toList) := by
                    intro had hcap hin
                    subst had
                    refine room_run hu hnz hi hcap hlen hfirst ?_ ty
                    rw [add_plain, Nat.add_assoc]
                    refine storeCells_run hb ?_ (fun j hj => ?_) honeu
                    · rw [husl]
                      rw [Nat.add_mul] at hin
                      omega
                    · rw [husl] at hj
                      rw [Nat.add_mul] at hin
                      have := hfz (o + l * i.size + j) (by omega)
                      omega
                  split at h
                  · rename_i hcc
                    have hcx : c' = c ∧ (c = 0 ∨ ad = ⟨L.b, L.s + o, none⟩) := by
                      rcases hsl with ⟨_, q1, q2⟩ | ⟨q, _⟩
                      · exact ⟨q1, q2⟩
                      · omega
                    obtain ⟨rfl, hadr⟩ := hcx
                    split at h
                    · rename_i hroom
                      split at h
                      · rename_i hin
                        cases h
                        have had : ad = ⟨L.b, L.s + o, none⟩ := by
                          rcases hadr with q | q
                          · omega
                          · exact q
                        have hin' : o + (l + n) * i.size ≤ cs.length := hin
                        have hmul : (l + n) * i.size = l * i.size + n * i.size := Nat.add_mul _ _ _
                        refine ⟨_, _, E, inplace had hroom (by omega), Step.write hR hg hρ hb hrel hcell hsp hfz hft hus (by rw [hnl]; omega) (by omega) rfl, ?_⟩
                        simp only [AVRel]
                        refine ⟨L, ad, c', hρ, rfl, ?_, hroom⟩
                        rcases hsl with ⟨q0, q1, q2⟩ | ⟨q, _⟩
                        · exact .inl ⟨q0, q1, q2⟩
                        · omega
                      · cases h
                    · cases h
                      exact growth (by omega)
                  · rename_i hcc
                    split at h
                    · cases h
                    · rename_i hk
                      simp only [Bool.or_eq_true, Bool.not_eq_true', beq_eq_false_iff_ne, ne_eq, beq_iff_eq, decide_eq_true_eq, not_or, Decidable.not_not, Nat.not_lt] at hk
                      obtain ⟨⟨⟨hopn, hko⟩, hz0⟩, hcoc⟩ := hk
                      subst hopn
                      have hsl' : (∃ k, c + k = openCap ∧ c' + k = L.room) ∧ (ad = ⟨L.b, L.s + o, none⟩ ∨ (l = 0 ∧ c' = 0)) := by
                        rcases hsl with ⟨q, _⟩ | ⟨_, q⟩
                        · omega
                        · exact q
                      obtain ⟨⟨k, hk1, hk2⟩, hadr⟩ := hsl'
                      have hkk : openCap - c = k := by omega
                      rw [hkk] at hko
                      have hroomz : L.room * i.size = c' * i.size + o := by rw [← hk2, Nat.add_mul, hko]
                      simp only [fits] at hft
                      have hmul : (l + n) * i.size = l * i.size + n * i.size := Nat.add_mul _ _ _
                      have hspz : span L cs.length (some i.size) = L.room * i.size := by unfold span; simp only; omega
                      split at h
                      · rename_i hin
                        cases h
                        have hcap : l + n ≤ c' := by
                          have : (l + n) * i.size ≤ c' * i.size := by omega
                          exact Nat.le_of_mul_le_mul_right this (by omega)
                        have had : ad = ⟨L.b, L.s + o, none⟩ := by
                          rcases hadr with q | q
                          · exact q
                          · omega
                        refine ⟨_, _, E, inplace had hcap (by omega), Step.write hR hg hρ hb hrel hcell hsp hfz hft hus (by rw [hnl]; omega) (by omega) rfl, ?_⟩
                        simp only [AVRel]
                        exact ⟨L, ad, c', hρ, rfl, .inr ⟨by omega, ⟨k, hk1, hk2⟩, .inl had⟩, hcap⟩
                      · rename_i hin
                        cases h
                        by_cases hcap : l + n ≤ c'
                        · have had : ad = ⟨L.b, L.s + o, none⟩ := by
                            rcases hadr with q | q
                            · exact q
                            · omega
                          have hcm : (l + n) * i.size ≤ c' * i.size := Nat.mul_le_mul_right _ hcap
                          obtain ⟨q1, q2, q3, q4, q5, q6⟩ := setCells_heap L.b us.toList (L.s + (o + l * i.size)) w C t' fz hb
                          refine ⟨_, _, E.add H.next ⟨L.b, L.s + o, c'⟩, inplace had hcap (by omega), Step.rename hR hg hρ rfl q3 q2 q4 q5 q6 (fun hext => ?_), ?_⟩
                          · have hlu := hrel.length
                            refine ⟨_, t', fz, (us0.drop o).take (l * i.size) ++ us.toList, q1, AVRelL.append (AVRelL.mono hext _ _ ((hrel.drop o).take _)) (AVRelL.mono hext _ _ hus), ?_, ?_, ?_, ?_⟩
                            · intro j v hj
                              rw [putCells_get _ _ _ _ (by rw [husl]; omega)]
                              by_cases hjl : j < l * i.size
                              · rw [if_neg (by simp only; omega)]
                                rw [List.getElem?_append_left (by simp; omega), List.getElem?_take, if_pos hjl, List.getElem?_drop] at hj
                                simp only
                                rw [Nat.add_assoc]
                                exact hcell _ _ hj
                              · rw [List.getElem?_append_right (by simp; omega)] at hj
                                have hmin : ((us0.drop o).take (l * i.size)).length = l * i.size := by simp; omega
                                rw [hmin] at hj
                                have hjn : j - l * i.size < us.toList.length := by
                                  rcases Nat.lt_or_ge (j - l * i.size) us.toList.length with q | q
                                  · exact q
                                  · rw [List.getElem?_eq_none q] at hj; cases hj
                                rw [if_pos (by simp only; omega)]
                                rw [← hj]
                                congr 1
                                simp only
                                omega
                            · rw [putCells_size]
                              simp only [span, List.length_append, List.length_take, List.length_drop, hnl]
                              omega
                            · intro j hj
                              simp only [span, List.length_append, List.length_take, List.length_drop, hnl] at hj
                              have := hfz (o + j) (by omega)
                              simp only
                              omega
                            · simp only [fits, List.length_append, List.length_take, List.length_drop, hnl]
                              omega
                          · subst had
                            simp only [AVRel]
                            exact ⟨⟨L.b, L.s + o, c'⟩, ⟨L.b, L.s + o, none⟩, c', by simp [Env.add], rfl, .inr ⟨by unfold openAt openCap; decide, ⟨0, rfl, rfl⟩, .inl rfl⟩, hcap⟩
                        · obtain ⟨v, w', E', e1, e2, e3⟩ := growth (by omega)
                          refine ⟨v, w', E', e1, e2.forget rfl (fun j p hj => ?_), e3⟩
                          rw [AHeap.get_add] at hj ⊢
                          have hj' : (if j = H.next then some (AObj.cells ((cs.drop o).take (l * i.size) ++ new) (some i.size)) else (H.set id none).get j) = some p := hj
                          rw [AHeap.get_set] at hj'
                          split at hj'
                          · rename_i ej
                            rw [if_pos ej]
                            exact hj'
                          · rename_i ej
                            rw [if_neg ej]
                            split at hj'
                            · cases hj'
                            · exact hj'
            · cases h
        · cases h
theorem zeroRow (z : Array Value) (n : Nat) (hz : 0 < z.size) : ((Array.range (n * z.size)).map (z[· % z.size]!)).toList = (List.replicate n z.toList).flatten := by
  induction n with
  | zero => simp
  | succ n ih =>
    rw [List.replicate_succ', List.flatten_concat]
    have e : ((Array.range ((n + 1) * z.size)).map (z[· % z.size]!)).toList = ((Array.range (n * z.size)).map (z[· % z.size]!)).toList ++ z.toList := by
      simp only [Array.toList_map, Array.toList_range]
      rw [Nat.add_mul, Nat.one_mul, List.range_add, List.map_append, List.map_map]
      congr 1
      apply List.ext_getElem
      · simp
      · intro k h1 h2
        simp at h1 h2
        simp only [List.getElem_map, List.getElem_range, Function.comp, Nat.mul_add_mod_self_right, Array.getElem_toList]
        rw [Nat.mod_eq_of_lt h2]
        exact getElem!_pos z k h2
    rw [e, ih]
theorem repR {z : List AV} {us : List Value} (h : AVRelL E w z us) : ∀ n, AVRelL E w (List.replicate n z).flatten (List.replicate n us).flatten
  | 0 => by simp [AVRelL]
  | n + 1 => by
    simp only [List.replicate_succ, List.flatten_cons]
    exact AVRelL.append h (repR h n)
theorem mkslice_sound (hR : Rel E H w) {t e : TypeId} {i : TypeInfo} {z : List AV} (hu : P.underlying t = some (.slice e)) (hi : P.info? e = some i) (hz : zeroCells P e = some z) (hzl : z.length = i.size) (hz0 : i.size ≠ 0)
    {l c r : AV} {ul uc : Value} (hl : AVRel E w l ul) (hc : AVRel E w c uc) {H' : AHeap} (h : mkSliceA H z i.bytes l c = .eff r H') :
    ∃ v w' E', (Instr.makeSlice t ul uc).run P w = .ok v w' ∧ Step E H w E' H' w' ∧ AVRel E' w' r v := by
  unfold mkSliceA at h
  split at h
  · rename_i l c
    split at h
    · rename_i hcond
      obtain ⟨h1, h2, h3⟩ := hcond
      cases h
      obtain rfl := hl.int_inv
      obtain rfl := hc.int_inv
      obtain ⟨i', zv, hi', hzv, hzr⟩ := zero_sound (E := E) (w := w) hz
      rw [hi] at hi'
      cases hi'
      have hzs : zv.cells.size = i.size := by rw [← Array.length_toList, hzr.length, hzl]
      have hby : (i.bytes : Int) * (c : Int) ≤ 281474976710656 := by
        have : i.bytes * c ≤ 2 ^ 16 * 2 ^ 24 := Nat.mul_le_mul h3 h2
        have e : (2 : Nat) ^ 16 * 2 ^ 24 = 1099511627776 := by decide
        have h : ((i.bytes * c : Nat) : Int) ≤ 281474976710656 := by omega
        rwa [Int.natCast_mul] at h
      have hrun := run_make (P := P) w t e i zv hu hi hzv .i64 .i64 (l : Int) (c : Int) (by omega) (by omega) hby (by omega)
      simp only [Int.toNat_natCast] at hrun
      have hcells : ((Array.range (c * i.size)).map (zv.cells[· % zv.cells.size]!)).toList = (List.replicate c zv.cells.toList).flatten := by
        have := zeroRow zv.cells c (by omega)
        rw [hzs] at this ⊢
        exact this
      have hstep := Step.newRow (w0 := w) (t := e) (z := 0) (room := c) (opn := none) hR rfl rfl rfl rfl (repR hzr c) (.inl rfl) (rest := []) (by omega)
      rw [List.append_nil, ← hcells, Array.toArray_toList] at hstep
      refine ⟨.slice (some ⟨w.heap.size, 0, none⟩) l c, _, _, ?_, hstep, ?_⟩
      · exact hrun
      · simp only [AVRel]
        exact ⟨⟨w.heap.size, 0, c⟩, ⟨w.heap.size, 0, none⟩, c, by simp [Env.add], rfl, .inl ⟨by unfold openAt; omega, rfl, .inr rfl⟩, h1⟩
    · cases h
  · cases h
end
end Go.Eng
end
section
namespace Go.Eng
section
variable {E : Env} {H : AHeap} {w : World} {P : Program}
theorem copy_sound (hR : Rel E H w) {t u e : TypeId} {i : TypeInfo} (hu : P.underlying t = some (.slice e)) (hi : P.info? e = some i) {x y : AV} {p q : Value} (hx : AVRel E w x p) (hy : AVRel E w y q)
    {lx ly : Nat} (hlx : lenA x = some lx) (hly : lenA y = some ly) {new : List AV} (hsrc : srcA H i.size (Nat.min ly lx) y = some new) (hone : new.all AV.oneCell = true) {r : AV} {H' : AHeap}
    (h : (match x with
          | .nils => AR.eff (.int .i64 0) H
          | .sl k o _ _ => match H.get k with
            | some (.cells c opn) => if o + Nat.min ly lx * i.size ≤ c.length then AR.eff (.int .i64 (Nat.min ly lx)) (H.set k (some (.cells (overA c o new) opn))) else .fail
            | _ => .fail
          | _ => .fail) = .eff r H') (ty : TypeId) :
    ∃ v w', (Builtin.copy_ #[t, u] ty #[p, q]).run P w = .ok v w' ∧ Step E H w E H' w' ∧ AVRel E w' r v := by
  have hlen := len_sound (P := P) hly hy
  have hnl := srcA_length hsrc (fun l q => by rw [hly] at q; cases q; exact Nat.min_le_left _ _)
  obtain ⟨us, hfirst, hus⟩ := src_sound (P := P) hR hsrc hy (fun l q => by rw [hly] at q; cases q; exact Nat.min_le_left _ _)
  split at h
  · cases h
    simp only [AVRel] at hx
    subst hx
    simp only [lenA, Option.some.injEq] at hlx
    subst hlx
    have hm : Nat.min ly 0 = 0 := Nat.min_zero ly
    rw [hm] at hfirst
    refine ⟨.int .i64 0, w, ?_, Step.refl hR, by simp [AVRel]⟩
    simp [Builtin.copy_, run_underlying hu, hlen, sizeOf, typeInfo, hi, hm, hfirst, goInt]
  · rename_i k o l c
    split at h
    · rename_i cs opn hg
      split at h
      · rename_i hin
        cases h
        obtain ⟨L, ad, c', C, t', fz, us0, hρ, rfl, hsl, hle, hb, hrel, hcell, hsp, hfz, hft⟩ := row_sound hR hx hg
        simp only [lenA, Option.some.injEq] at hlx
        subst hlx
        have husl : us.toList.length = Nat.min ly l * i.size := by rw [hus.length, hnl]
        have honeu := AVRelL.oneCell hus hone
        have hspan := span_ge L cs.length opn
        by_cases h0 : l = 0
        · subst h0
          have hm : Nat.min ly 0 = 0 := Nat.min_zero ly
          rw [hm] at hfirst husl hnl ⊢
          have hus0 : us.toList = [] := List.eq_nil_of_length_eq_zero (by rw [husl]; simp)
          have hnew0 : new = [] := List.eq_nil_of_length_eq_zero (by rw [hnl]; simp)
          subst hnew0
          refine ⟨.int .i64 0, w, ?_, ?_, by simp [AVRel]⟩
          · have hst : (storeCells ad us.toList).run P w = .ok () w := by rw [hus0]; rfl
            simp [Builtin.copy_, run_underlying hu, hlen, sizeOf, typeInfo, hi, hm, hfirst, hst, goInt]
          · have := Step.write (o := 0) (vs := []) hR hg hρ hb hrel hcell hsp hfz hft (new := []) (by simp [AVRelL]) (by simp) (by omega) rfl
            have e : overA cs o [] = overA cs 0 [] := by simp [overA]
            rw [e]
            exact this
        · have had := hsl.addr hle h0
          subst had
          have hst := storeCells_run (P := P) hb (o := L.s + o) (vs := us.toList) (by rw [husl]; omega) (fun j hj => by rw [husl] at hj; have := hfz (o + j) (by omega); omega) honeu
          refine ⟨.int .i64 (Nat.min ly l), _, ?_, Step.write hR hg hρ hb hrel hcell hsp hfz hft hus (by rw [hnl]; omega) (by omega) rfl, by simp [AVRel]⟩
          simp [Builtin.copy_, run_underlying hu, hlen, sizeOf, typeInfo, hi, hfirst, hst, goInt]
      · cases h
    · cases h
  · cases h
def NewOK (P : Program) (E : Env) (w : World) (n : Nat) (x : AV) (ob : AObj) (r : Result Next) : Prop :=
  ∃ u obj room, r = .ok (.value u) (w.alloc obj) ∧ ∀ E', E'.ρ n = some ⟨w.heap.size, 0, room⟩ → Env.Ext E E' w (w.alloc obj) → AVRel E' (w.alloc obj) x u ∧ ObjR E' (w.alloc obj) ⟨w.heap.size, 0, room⟩ ob
theorem newCells {E' : Env} {cs : List AV} {C : Array Value} {t : TypeId} (hr : AVRelL E' (w.alloc (.cells C t)) cs C.toList) : ObjR E' (w.alloc (.cells C t)) ⟨w.heap.size, 0, 0⟩ (.cells cs none) := by
  have := ObjR.new (E' := E') (w := w) (us := C.toList) (rest := []) (t := t) (z := 0) (room := 0) (opn := none) (cs := cs) (by simpa using hr) (.inl rfl) (by omega)
  simpa using this
theorem ptrNew {E' : Env} {w' : World} {n b room : Nat} (h : E'.ρ n = some ⟨b, 0, room⟩) : AVRel E' w' (.ptr n 0) (.pointer (some ⟨b, 0, none⟩)) := by
  simp only [AVRel]
  exact ⟨_, h, by simp⟩
theorem compBin_cls {op : BinOp} {t : TypeId} {x z : Operand} {y : XOp} (hc : compBin P op t x z = some y) : y.cls = .p := by
  unfold compBin at hc
  simp only [bind] at hc
  obtain ⟨x', hx', hc⟩ := bindSome hc
  obtain ⟨z', hz', hc⟩ := bindSome hc
  have main : (match P.underlying t with
        | some (.int _) | some .string => some (XOp.bin op x' z')
        | some .bool => (keyKinds P t).bind fun K => some (.eqf (op == .neq) K x' z')
        | some (.struct _) | some (.array _ _) => if P.eqGuardType P.depth t then none else (keyKinds P t).bind fun K => some (.eqf (op == .neq) K x' z')
        | some (.slice _) => some (.eqn (op == .neq) .s x' z')
        | some (.map _ _) => some (.eqn (op == .neq) .m x' z')
        | some (.func ..) => some (.eqn (op == .neq) .f x' z')
        | some (.pointer e) => if (sizeT P e).getD 0 ≠ 0 then some (.eqn (op == .neq) .p x' z') else none
        | some (.interface _) => if isNilConst x || isNilConst z then some (.eqn (op == .neq) .i x' z') else none
        | _ => none) = some y → y.cls = .p := by
    intro hc
    split at hc
    · cases hc; rfl
    · cases hc; rfl
    · obtain ⟨K, hK, hc⟩ := bindSome hc
      cases hc; rfl
    · split at hc
      · cases hc
      · obtain ⟨K, hK, hc⟩ := bindSome hc
        cases hc; rfl
    · split at hc
      · cases hc
      · obtain ⟨K, hK, hc⟩ := bindSome hc
        cases hc; rfl
    · cases hc; rfl
    · cases hc; rfl
    · cases hc; rfl
    · split at hc
      · cases hc; rfl
      · cases hc
    · split at hc
      · cases hc; rfl
      · cases hc
    · cases hc
  cases op with
  | eql => exact main hc
  | neq => exact main hc
  | _ => cases hc; rfl
theorem compConv_cls {s d : TypeId} {x : Operand} {y : XOp} (hc : compConv P s d x = some y) : y.cls = .p ∨ y.cls = .r := by
  unfold compConv at hc
  simp only [bind] at hc
  obtain ⟨x', hx', hc⟩ := bindSome hc
  split at hc
  · cases hc; exact .inl rfl
  · cases hc; exact .inl rfl
  · split at hc
    · cases hc; exact .inr rfl
    · cases hc
  · cases hc
theorem compBuiltin_cls {b : Builtin} {ts : List TypeId} {args : List Operand} {y : XOp} (hc : compBuiltin P b ts args = some y) : y.cls ≠ .n ∧ (y.cls = .e → b = .append ∨ b = .delete ∨ b = .copy) := by
  unfold compBuiltin at hc
  split at hc
  · simp only [bind] at hc
    obtain ⟨d, hd, hc⟩ := bindSome hc
    split at hc
    · obtain ⟨_, _, hc⟩ := bindSome hc
      cases hc; simp [XOp.cls]
    · obtain ⟨_, _, hc⟩ := bindSome hc
      cases hc; simp [XOp.cls]
    · cases hc; simp [XOp.cls]
    · obtain ⟨_, _, hc⟩ := bindSome hc
      cases hc; simp [XOp.cls]
    · split at hc
      · cases hc; simp [XOp.cls]
      · cases hc
    · cases hc
  · split at hc
    · simp only [bind] at hc
      obtain ⟨_, _, hc⟩ := bindSome hc
      obtain ⟨_, _, hc⟩ := bindSome hc
      split at hc
      · obtain ⟨_, _, hc⟩ := bindSome hc
        obtain ⟨_, _, hc⟩ := bindSome hc
        cases hc; simp [XOp.cls]
      · cases hc
    · cases hc
  · simp only [bind] at hc
    obtain ⟨_, _, hc⟩ := bindSome hc
    cases hc; simp [XOp.cls]
  · simp only [bind] at hc
    obtain ⟨_, _, hc⟩ := bindSome hc
    cases hc; simp [XOp.cls]
  · split at hc
    · simp only [bind] at hc
      obtain ⟨_, _, hc⟩ := bindSome hc
      obtain ⟨_, _, hc⟩ := bindSome hc
      obtain ⟨_, _, hc⟩ := bindSome hc
      cases hc; simp [XOp.cls]
    · cases hc
  · split at hc
    · simp only [bind] at hc
      obtain ⟨_, _, hc⟩ := bindSome hc
      obtain ⟨_, _, hc⟩ := bindSome hc
      obtain ⟨_, _, hc⟩ := bindSome hc
      cases hc; simp [XOp.cls]
    · cases hc
  · cases hc
theorem comp_new {o : Oper} {y : XOp} (hc : compOp P o = some y) (hy : y.cls = .n) :
    (∃ e z, o.op = .alloc e ∧ zeroCells P e = some z ∧ y = .alloc z) ∨ (∃ e v x, o.op = .box e v ∧ xo v = some x ∧ y = .box x) ∨
    (∃ t n ps e s z qs, o.op = .buildSlice t n ps ∧ P.underlying t = some (.slice e) ∧ sizeT P e = some s ∧ zeroCells P e = some z ∧ ¬ (s = 0 ∨ z.length ≠ s ∨ n * s > 2 ^ 24) ∧ partsX (fun i => some (i * s, s)) ps.toList = some qs ∧ y = .bslice z qs n) ∨
    (∃ t, o.op = .makeMap t none ∧ y = .mkmap) := by
  obtain ⟨dst, op, type, pos, after, guard⟩ := o
  unfold compOp at hc
  cases op <;> simp only [bind, reduceCtorEq] at hc
  case range t x =>
    split at hc
    · obtain ⟨m, _, hc⟩ := bindSome hc
      cases hc
      simp [XOp.cls] at hy
    · cases hc
  case next x b =>
    split at hc
    · cases hc
    · obtain ⟨m, _, hc⟩ := bindSome hc
      cases hc
      simp [XOp.cls] at hy
  case entry x =>
    obtain ⟨m, _, hc⟩ := bindSome hc
    cases hc
    simp [XOp.cls] at hy
  case alloc e =>
    obtain ⟨z, hz, hc⟩ := bindSome hc
    cases hc
    exact .inl ⟨e, z, rfl, hz, rfl⟩
  case box e v =>
    obtain ⟨x, hx, hc⟩ := bindSome hc
    cases hc
    exact .inr (.inl ⟨e, v, x, rfl, hx, rfl⟩)
  case buildSlice t n ps =>
    split at hc
    · rename_i e hu
      obtain ⟨s, hs, hc⟩ := bindSome hc
      obtain ⟨z, hz, hc⟩ := bindSome hc
      split at hc
      · cases hc
      · rename_i hcond
        obtain ⟨qs, hqs, hc⟩ := bindSome hc
        cases hc
        exact .inr (.inr (.inl ⟨t, n, ps, e, s, z, qs, rfl, hu, hs, hz, hcond, hqs, rfl⟩))
    · cases hc
  case makeMap t r =>
    split at hc
    · cases hc
      exact .inr (.inr (.inr ⟨t, rfl, rfl⟩))
    · cases hc
  case move x =>
    obtain ⟨_, _, hc⟩ := bindSome hc
    cases hc
    exact absurd hy (by simp [XOp.cls])
  case assign x =>
    obtain ⟨_, _, hc⟩ := bindSome hc
    cases hc
    exact absurd hy (by simp [XOp.cls])
  case pick c a b =>
    obtain ⟨_, _, hc⟩ := bindSome hc
    obtain ⟨_, _, hc⟩ := bindSome hc
    obtain ⟨_, _, hc⟩ := bindSome hc
    cases hc
    exact absurd hy (by simp [XOp.cls])
  case load t a =>
    obtain ⟨_, _, hc⟩ := bindSome hc
    obtain ⟨_, _, hc⟩ := bindSome hc
    cases hc
    exact absurd hy (by simp [XOp.cls])
  case store t a x =>
    obtain ⟨_, _, hc⟩ := bindSome hc
    obtain ⟨_, _, hc⟩ := bindSome hc
    obtain ⟨_, _, hc⟩ := bindSome hc
    cases hc
    exact absurd hy (by simp [XOp.cls])
  case nilCheck x =>
    obtain ⟨_, _, hc⟩ := bindSome hc
    cases hc
    exact absurd hy (by simp [XOp.cls])
  case unOp op t x =>
    obtain ⟨_, _, hc⟩ := bindSome hc
    cases hc
    exact absurd hy (by simp [XOp.cls])
  case extract x i =>
    obtain ⟨_, _, hc⟩ := bindSome hc
    cases hc
    exact absurd hy (by simp [XOp.cls])
  case build t ps =>
    obtain ⟨_, _, hc⟩ := bindSome hc
    split at hc
    · obtain ⟨_, _, hc⟩ := bindSome hc
      obtain ⟨_, _, hc⟩ := bindSome hc
      cases hc
      exact absurd hy (by simp [XOp.cls])
    · obtain ⟨_, _, hc⟩ := bindSome hc
      obtain ⟨_, _, hc⟩ := bindSome hc
      cases hc
      exact absurd hy (by simp [XOp.cls])
    · cases hc
  case makeInterface t x =>
    split at hc
    · cases hc
    · obtain ⟨_, _, hc⟩ := bindSome hc
      cases hc
      exact absurd hy (by simp [XOp.cls])
    · cases hc
  case makeFunc fn first cs =>
    split at hc
    · split at hc
      · obtain ⟨_, _, hc⟩ := bindSome hc
        cases hc
        exact absurd hy (by simp [XOp.cls])
      · cases hc
    · cases hc
  case makeSlice t l c =>
    split at hc
    · obtain ⟨_, _, hc⟩ := bindSome hc
      obtain ⟨_, _, hc⟩ := bindSome hc
      split at hc
      · cases hc
      · obtain ⟨_, _, hc⟩ := bindSome hc
        obtain ⟨_, _, hc⟩ := bindSome hc
        cases hc
        exact absurd hy (by simp [XOp.cls])
    · cases hc
  case slice t x lo hi mx =>
    split at hc
    · obtain ⟨_, _, hc⟩ := bindSome hc
      obtain ⟨_, _, hc⟩ := bindSome hc
      obtain ⟨_, _, hc⟩ := bindSome hc
      obtain ⟨_, _, hc⟩ := bindSome hc
      obtain ⟨_, _, hc⟩ := bindSome hc
      cases hc
      exact absurd hy (by simp [XOp.cls])
    · obtain ⟨_, _, hc⟩ := bindSome hc
      obtain ⟨_, _, hc⟩ := bindSome hc
      obtain ⟨_, _, hc⟩ := bindSome hc
      obtain ⟨_, _, hc⟩ := bindSome hc
      obtain ⟨_, _, hc⟩ := bindSome hc
      cases hc
      exact absurd hy (by simp [XOp.cls])
    · split at hc
      · obtain ⟨_, _, hc⟩ := bindSome hc
        obtain ⟨_, _, hc⟩ := bindSome hc
        obtain ⟨_, _, hc⟩ := bindSome hc
        cases hc
        exact absurd hy (by simp [XOp.cls])
      · cases hc
    · cases hc
  case fieldAddr t x f =>
    split at hc
    · obtain ⟨_, _, hc⟩ := bindSome hc
      obtain ⟨_, _, hc⟩ := bindSome hc
      split at hc
      · cases hc
      · obtain ⟨_, _, hc⟩ := bindSome hc
        cases hc
        exact absurd hy (by simp [XOp.cls])
    · cases hc
  case field t x f =>
    split at hc
    · obtain ⟨_, _, hc⟩ := bindSome hc
      obtain ⟨_, _, hc⟩ := bindSome hc
      obtain ⟨_, _, hc⟩ := bindSome hc
      cases hc
      exact absurd hy (by simp [XOp.cls])
    · cases hc
  case indexAddr t x i =>
    split at hc
    · obtain ⟨_, _, hc⟩ := bindSome hc
      obtain ⟨_, _, hc⟩ := bindSome hc
      obtain ⟨_, _, hc⟩ := bindSome hc
      cases hc
      exact absurd hy (by simp [XOp.cls])
    · obtain ⟨_, _, hc⟩ := bindSome hc
      obtain ⟨_, _, hc⟩ := bindSome hc
      obtain ⟨_, _, hc⟩ := bindSome hc
      cases hc
      exact absurd hy (by simp [XOp.cls])
    · cases hc
  case index t x i =>
    split at hc
    · obtain ⟨_, _, hc⟩ := bindSome hc
      obtain ⟨_, _, hc⟩ := bindSome hc
      obtain ⟨_, _, hc⟩ := bindSome hc
      obtain ⟨_, _, hc⟩ := bindSome hc
      cases hc
      exact absurd hy (by simp [XOp.cls])
    · obtain ⟨_, _, hc⟩ := bindSome hc
      obtain ⟨_, _, hc⟩ := bindSome hc
      cases hc
      exact absurd hy (by simp [XOp.cls])
    · cases hc
  case lookup t m k ok =>
    split at hc
    · obtain ⟨_, _, hc⟩ := bindSome hc
      obtain ⟨_, _, hc⟩ := bindSome hc
      obtain ⟨_, _, hc⟩ := bindSome hc
      obtain ⟨_, _, hc⟩ := bindSome hc
      obtain ⟨_, _, hc⟩ := bindSome hc
      obtain ⟨_, _, hc⟩ := bindSome hc
      cases hc
      exact absurd hy (by simp [XOp.cls])
    · cases hc
  case mapUpdate t m k v =>
    split at hc
    · obtain ⟨_, _, hc⟩ := bindSome hc
      obtain ⟨_, _, hc⟩ := bindSome hc
      obtain ⟨_, _, hc⟩ := bindSome hc
      obtain ⟨_, _, hc⟩ := bindSome hc
      cases hc
      exact absurd hy (by simp [XOp.cls])
    · cases hc
  case insert t m k v =>
    split at hc
    · obtain ⟨_, _, hc⟩ := bindSome hc
      obtain ⟨_, _, hc⟩ := bindSome hc
      obtain ⟨_, _, hc⟩ := bindSome hc
      obtain ⟨_, _, hc⟩ := bindSome hc
      cases hc
      exact absurd hy (by simp [XOp.cls])
    · cases hc
  case binOp op t x z zt => exact absurd ((compBin_cls hc).symm.trans hy) (by decide)
  case convert s d x => exact absurd hy (by rcases compConv_cls hc with h | h <;> rw [h] <;> decide)
  case call c =>
    obtain ⟨cal, args, ats⟩ := c
    cases cal <;> simp only at hc
    case value f =>
      obtain ⟨_, _, hc⟩ := bindSome hc
      obtain ⟨_, _, hc⟩ := bindSome hc
      cases hc
      exact absurd hy (by simp [XOp.cls])
    case invoke => cases hc
    case builtin b => exact absurd hy (compBuiltin_cls hc).1
theorem new_sound {H : AHeap} {tm : Tr AV} {a : Act} (hT : TmR E w tm a.tmps) {o : Oper} {y : XOp} (hc : compOp P o = some y) (hy : y.cls = .n) {n : Nat} {x : AV} {ob : AObj} (h : xop (St.ev tm) H n y = .new x ob) :
    NewOK P E w n x ob ((execOp a.eval o).run P w) := by
  obtain ⟨dst, op, type, pos, after, guard⟩ := o
  rcases comp_new hc hy with ⟨e, z, rfl, hz, rfl⟩ | ⟨e, v, x', rfl, hx', rfl⟩ | ⟨t, m, ps, e, s, z, qs, rfl, hu, hs, hz, hcond, hqs, rfl⟩ | ⟨t, rfl, rfl⟩
  · simp only [xop] at h
    cases h
    obtain ⟨i, zv, hi, hzv, hzr⟩ := zero_sound (E := E) (w := w) hz
    refine ⟨.pointer (some ⟨w.heap.size, 0, none⟩), .cells zv.cells e, 0, ?_, fun E' h1 h2 => ⟨ptrNew h1, newCells (AVRelL.mono h2 _ _ hzr)⟩⟩
    simp [execOp, Instr.alloc, zeroValue, typeInfo, hi, hzv, newVar, newRow]
  · simp only [xop] at h
    split at h
    · rename_i v0 hv
      cases h
      have hr := (ev_rel hT hx' hv).cells_rel
      refine ⟨.pointer (some ⟨w.heap.size, 0, none⟩), .cells (a.eval v).cells e, 0, ?_, fun E' h1 h2 => ⟨ptrNew h1, newCells (AVRelL.mono h2 _ _ hr)⟩⟩
      simp [execOp, Instr.box, newVar, newRow]
    · cases h
  · simp only [xop] at h
    split at h
    · rename_i c hcs
      cases h
      obtain ⟨l, hl, hf⟩ := bindSome hcs
      obtain ⟨i, zv, hi, hzv, hzr⟩ := zero_sound (E := E) (w := w) hz
      have hsz : i.size = s := by
        simp only [sizeT, hi, Option.map_some, Option.some.injEq] at hs
        exact hs
      simp only [not_or, Decidable.not_not, Nat.not_lt] at hcond
      obtain ⟨c1, c2, c3⟩ := hcond
      have hzs : zv.cells.size = s := by rw [← Array.length_toList, hzr.length, c2]
      have hcells : ((Array.range (m * s)).map (zv.cells[· % zv.cells.size]!)).toList = (List.replicate m zv.cells.toList).flatten := by
        have := zeroRow zv.cells m (by omega)
        rw [hzs] at this ⊢
        exact this
      have hrep : AVRelL E w (List.replicate m z).flatten ((Array.range (m * s)).map (zv.cells[· % zv.cells.size]!)).toList := by
        rw [hcells]
        exact repR hzr m
      obtain ⟨c', h1, h2⟩ := fill_sound hT hqs hl hf hrep
      refine ⟨.slice (some ⟨w.heap.size, 0, none⟩) m m, .cells c' e, 0, ?_, fun E' h3 h4 => ⟨?_, newCells (AVRelL.mono h4 _ _ h2)⟩⟩
      · have h24 : ¬ (16777216 < m * s) := by omega
        by_cases h0 : m * s = 0
        · have hm0 : m = 0 := by
            rcases Nat.mul_eq_zero.1 h0 with q | q
            · exact q
            · exact absurd q c1
          subst hm0
          have hr0 : Array.range 0 = (#[] : Array Nat) := rfl
          have h1' : Instr.fill (fun i => some (i * s, s)) #[] (ps.toList.map fun p => (p.1, a.eval p.2)) = some c' := by simpa [hr0] using h1
          simp [execOp, Instr.buildSlice, run_underlying hu, sizeOf, typeInfo, hi, hsz, newRow, hr0, h1']
        · simp [execOp, Instr.buildSlice, run_underlying hu, sizeOf, typeInfo, zeroValue, hi, hsz, hzv, h24, h0, newRow, h1]
      · simp only [AVRel]
        refine ⟨_, ⟨w.heap.size, 0, none⟩, m, h3, rfl, .inl ⟨?_, rfl, .inr rfl⟩, Nat.le_refl _⟩
        have : m ≤ m * s := Nat.le_mul_of_pos_right m (by omega)
        unfold openAt
        omega
    · cases h
  · simp only [xop] at h
    cases h
    refine ⟨.map (some w.heap.size), .map #[] 0, 0, ?_, fun E' h1 h2 => ⟨?_, ?_⟩⟩
    · simp [execOp, Instr.makeMap]
    · simp only [AVRel]
      exact ⟨_, h1, rfl⟩
    · exact ⟨#[], 0, by rw [alloc_heap, if_pos rfl], [], by simp [EntR], by simp, by simp, by simp, by simp⟩
theorem map_two {α β : Type} (f : α → β) (x y : α) : (#[x, y] : Array α).map f = #[f x, f y] := by simp
theorem bindEff {s : Sem Value} {x : AV} {H' : AHeap} (h : ∃ v w' E', s.run P w = .ok v w' ∧ Step E H w E' H' w' ∧ AVRel E' w' x v) : EffOK P E H w x H' ((do pure (Next.value (← s)) : Sem Next).run P w) :=
  let ⟨v, w', E', h1, h2, h3⟩ := h; ⟨_, v, w', E', execV h1, .inl rfl, h2, h3⟩
set_option maxHeartbeats 1000000 in
theorem eff_sound (hR : Rel E H w) {tm : Tr AV} {a : Act} (hT : TmR E w tm a.tmps) {o : Oper} {y : XOp} (hc : compOp P o = some y) (hy : y.cls = .e) {n : Nat} {x : AV} {H' : AHeap} (h : xop (St.ev tm) H n y = .eff x H') :
    EffOK P E H w x H' ((execOp a.eval o).run P w) := by
  obtain ⟨dst, op, type, pos, after, guard⟩ := o
  unfold compOp at hc
  cases op <;> simp only [bind, reduceCtorEq] at hc
  case range t x =>
    split at hc
    · obtain ⟨m, _, hc⟩ := bindSome hc
      cases hc
      simp [xop] at h
    · cases hc
  case next x b =>
    split at hc
    · cases hc
    · obtain ⟨m, _, hc⟩ := bindSome hc
      cases hc
      simp [xop] at h
  case entry x =>
    obtain ⟨m, _, hc⟩ := bindSome hc
    cases hc
    simp [xop] at h
  case store t ad v =>
    obtain ⟨s, hs, hc⟩ := bindSome hc
    obtain ⟨x', hx', hc⟩ := bindSome hc
    obtain ⟨v', hv', hc⟩ := bindSome hc
    cases hc
    simp only [xop] at h
    split at h
    · rename_i a1 x1 h1 h2
      split at h
      · rename_i H1 hst
        cases h
        simp only [execOp]
        exact store_sound hR hs (ev_rel hT hx' h1) (ev_rel hT hv' h2) hst
      · cases h
    · cases h
  case mapUpdate t m k v =>
    split at hc
    · rename_i kt et hu
      obtain ⟨K, hK, hc⟩ := bindSome hc
      obtain ⟨m', hm', hc⟩ := bindSome hc
      obtain ⟨k', hk', hc⟩ := bindSome hc
      obtain ⟨v', hv', hc⟩ := bindSome hc
      cases hc
      simp only [xop] at h
      split at h
      · rename_i i kv vv e1 e2 e3
        split at h
        · rename_i es l hg hl
          split at h
          · rename_i es' hup
            cases h
            simp only [execOp]
            exact upd_sound hR hu hK (ev_rel hT hm' e1) (ev_rel hT hk' e2) (ev_rel hT hv' e3) hg hl hup
          · cases h
        · cases h
      · cases h
    · cases hc
  case insert t m k v =>
    split at hc
    · rename_i kt et hu
      obtain ⟨K, hK, hc⟩ := bindSome hc
      obtain ⟨m', hm', hc⟩ := bindSome hc
      obtain ⟨k', hk', hc⟩ := bindSome hc
      obtain ⟨v', hv', hc⟩ := bindSome hc
      cases hc
      simp only [xop] at h
      split at h
      · rename_i i kv vv e1 e2 e3
        split at h
        · rename_i es l hg hl
          split at h
          · rename_i es' hup
            cases h
            simp only [execOp]
            exact upd_sound hR hu hK (ev_rel hT hm' e1) (ev_rel hT hk' e2) (ev_rel hT hv' e3) hg hl hup
          · cases h
        · cases h
      · cases h
    · cases hc
  case makeSlice t l c =>
    split at hc
    · rename_i e hu
      obtain ⟨i, hi, hc⟩ := bindSome hc
      obtain ⟨z, hz, hc⟩ := bindSome hc
      split at hc
      · cases hc
      · rename_i hcond
        obtain ⟨l', hl', hc⟩ := bindSome hc
        obtain ⟨c', hc', hc⟩ := bindSome hc
        cases hc
        simp only [not_or, Decidable.not_not] at hcond
        simp only [xop] at h
        split at h
        · rename_i lv cv e1 e2
          simp only [execOp]
          exact bindEff (mkslice_sound hR hu hi hz hcond.1 hcond.2 (ev_rel hT hl' e1) (ev_rel hT hc' e2) h)
        · cases h
    · cases hc
  case move x =>
    obtain ⟨_, _, hc⟩ := bindSome hc
    cases hc
    exact absurd hy (by simp [XOp.cls])
  case assign x =>
    obtain ⟨_, _, hc⟩ := bindSome hc
    cases hc
    exact absurd hy (by simp [XOp.cls])
  case pick c a b =>
    obtain ⟨_, _, hc⟩ := bindSome hc
    obtain ⟨_, _, hc⟩ := bindSome hc
    obtain ⟨_, _, hc⟩ := bindSome hc
    cases hc
    exact absurd hy (by simp [XOp.cls])
  case load t a =>
    obtain ⟨_, _, hc⟩ := bindSome hc
    obtain ⟨_, _, hc⟩ := bindSome hc
    cases hc
    exact absurd hy (by simp [XOp.cls])
  case nilCheck x =>
    obtain ⟨_, _, hc⟩ := bindSome hc
    cases hc
    exact absurd hy (by simp [XOp.cls])
  case unOp op t x =>
    obtain ⟨_, _, hc⟩ := bindSome hc
    cases hc
    exact absurd hy (by simp [XOp.cls])
  case extract x i =>
    obtain ⟨_, _, hc⟩ := bindSome hc
    cases hc
    exact absurd hy (by simp [XOp.cls])
  case build t ps =>
    obtain ⟨_, _, hc⟩ := bindSome hc
    split at hc
    · obtain ⟨_, _, hc⟩ := bindSome hc
      obtain ⟨_, _, hc⟩ := bindSome hc
      cases hc
      exact absurd hy (by simp [XOp.cls])
    · obtain ⟨_, _, hc⟩ := bindSome hc
      obtain ⟨_, _, hc⟩ := bindSome hc
      cases hc
      exact absurd hy (by simp [XOp.cls])
    · cases hc
  case makeInterface t x =>
    split at hc
    · cases hc
    · obtain ⟨_, _, hc⟩ := bindSome hc
      cases hc
      exact absurd hy (by simp [XOp.cls])
    · cases hc
  case makeFunc fn first cs =>
    split at hc
    · split at hc
      · obtain ⟨_, _, hc⟩ := bindSome hc
        cases hc
        exact absurd hy (by simp [XOp.cls])
      · cases hc
    · cases hc
  case slice t x lo hi mx =>
    split at hc
    · obtain ⟨_, _, hc⟩ := bindSome hc
      obtain ⟨_, _, hc⟩ := bindSome hc
      obtain ⟨_, _, hc⟩ := bindSome hc
      obtain ⟨_, _, hc⟩ := bindSome hc
      obtain ⟨_, _, hc⟩ := bindSome hc
      cases hc
      exact absurd hy (by simp [XOp.cls])
    · obtain ⟨_, _, hc⟩ := bindSome hc
      obtain ⟨_, _, hc⟩ := bindSome hc
      obtain ⟨_, _, hc⟩ := bindSome hc
      obtain ⟨_, _, hc⟩ := bindSome hc
      obtain ⟨_, _, hc⟩ := bindSome hc
      cases hc
      exact absurd hy (by simp [XOp.cls])
    · split at hc
      · obtain ⟨_, _, hc⟩ := bindSome hc
        obtain ⟨_, _, hc⟩ := bindSome hc
        obtain ⟨_, _, hc⟩ := bindSome hc
        cases hc
        exact absurd hy (by simp [XOp.cls])
      · cases hc
    · cases hc
  case fieldAddr t x f =>
    split at hc
    · obtain ⟨_, _, hc⟩ := bindSome hc
      obtain ⟨_, _, hc⟩ := bindSome hc
      split at hc
      · cases hc
      · obtain ⟨_, _, hc⟩ := bindSome hc
        cases hc
        exact absurd hy (by simp [XOp.cls])
    · cases hc
  case field t x f =>
    split at hc
    · obtain ⟨_, _, hc⟩ := bindSome hc
      obtain ⟨_, _, hc⟩ := bindSome hc
      obtain ⟨_, _, hc⟩ := bindSome hc
      cases hc
      exact absurd hy (by simp [XOp.cls])
    · cases hc
  case indexAddr t x i =>
    split at hc
    · obtain ⟨_, _, hc⟩ := bindSome hc
      obtain ⟨_, _, hc⟩ := bindSome hc
      obtain ⟨_, _, hc⟩ := bindSome hc
      cases hc
      exact absurd hy (by simp [XOp.cls])
    · obtain ⟨_, _, hc⟩ := bindSome hc
      obtain ⟨_, _, hc⟩ := bindSome hc
      obtain ⟨_, _, hc⟩ := bindSome hc
      cases hc
      exact absurd hy (by simp [XOp.cls])
    · cases hc
  case index t x i =>
    split at hc
    · obtain ⟨_, _, hc⟩ := bindSome hc
      obtain ⟨_, _, hc⟩ := bindSome hc
      obtain ⟨_, _, hc⟩ := bindSome hc
      obtain ⟨_, _, hc⟩ := bindSome hc
      cases hc
      exact absurd hy (by simp [XOp.cls])
    · obtain ⟨_, _, hc⟩ := bindSome hc
      obtain ⟨_, _, hc⟩ := bindSome hc
      cases hc
      exact absurd hy (by simp [XOp.cls])
    · cases hc
  case lookup t m k ok =>
    split at hc
    · obtain ⟨_, _, hc⟩ := bindSome hc
      obtain ⟨_, _, hc⟩ := bindSome hc
      obtain ⟨_, _, hc⟩ := bindSome hc
      obtain ⟨_, _, hc⟩ := bindSome hc
      obtain ⟨_, _, hc⟩ := bindSome hc
      obtain ⟨_, _, hc⟩ := bindSome hc
      cases hc
      exact absurd hy (by simp [XOp.cls])
    · cases hc
  case alloc e =>
    obtain ⟨_, _, hc⟩ := bindSome hc
    cases hc
    exact absurd hy (by simp [XOp.cls])
  case box e v =>
    obtain ⟨_, _, hc⟩ := bindSome hc
    cases hc
    exact absurd hy (by simp [XOp.cls])
  case buildSlice t n ps =>
    split at hc
    · obtain ⟨_, _, hc⟩ := bindSome hc
      obtain ⟨_, _, hc⟩ := bindSome hc
      split at hc
      · cases hc
      · obtain ⟨_, _, hc⟩ := bindSome hc
        cases hc
        exact absurd hy (by simp [XOp.cls])
    · cases hc
  case makeMap t r =>
    split at hc
    · cases hc
      exact absurd hy (by simp [XOp.cls])
    · cases hc
  case binOp op t x z zt => exact absurd ((compBin_cls hc).symm.trans hy) (by decide)
  case convert s d x => exact absurd hy (by rcases compConv_cls hc with h | h <;> rw [h] <;> decide)
  case call c =>
    obtain ⟨cal, args, ats⟩ := c
    cases cal <;> simp only at hc
    case value f =>
      exfalso
      obtain ⟨f', hf', hc⟩ := bindSome hc
      obtain ⟨l', hl', hc⟩ := bindSome hc
      cases hc
      simp [xop] at h
    case invoke => cases hc
    case builtin b =>
      have key : ∀ cs : Array Bool, EffOK P E H w x H' ((builtin b ats type cs (args.map a.eval)).run P w) := by
        intro cs
        have hcl := (compBuiltin_cls hc).2 hy
        unfold compBuiltin at hc
        split at hc
        · simp at hcl
        · rename_i t u p q e1 e2
          have e1 := toList_two e1
          have e2 := toList_two e2
          subst e1; subst e2
          simp only [bind] at hc
          split at hc
          · rename_i e hu
            obtain ⟨i, hi, hc⟩ := bindSome hc
            obtain ⟨z, hz, hc⟩ := bindSome hc
            split at hc
            · rename_i hcond
              obtain ⟨p', hp', hc⟩ := bindSome hc
              obtain ⟨q', hq', hc⟩ := bindSome hc
              cases hc
              simp only [Bool.and_eq_true, beq_iff_eq] at hcond
              simp only [xop] at h
              split at h
              · rename_i xv yv h1 h2
                simp only [builtin, map_two]
                exact bindEff (app_sound hR hu hcond.1 hi hz hcond.2 (ev_rel hT hp' h1) (ev_rel hT hq' h2) h _)
              · cases h
            · cases hc
          · cases hc
        · simp at hcl
        · simp at hcl
        · rename_i t t2 m k e1 e2
          have e1 := toList_two e1
          have e2 := toList_two e2
          subst e1; subst e2
          split at hc
          · rename_i kt et hu
            simp only [bind] at hc
            obtain ⟨K, hK, hc⟩ := bindSome hc
            obtain ⟨m', hm', hc⟩ := bindSome hc
            obtain ⟨k', hk', hc⟩ := bindSome hc
            cases hc
            simp only [xop] at h
            split at h
            · rename_i i kv e1 e2
              split at h
              · rename_i es l hg hl
                split at h
                · rename_i es' hdel
                  cases h
                  obtain ⟨w', q1, q2⟩ := del_sound (P := P) hR hu hK (ev_rel hT hm' e1) (ev_rel hT hk' e2) hg hl hdel t2 type
                  simp only [builtin, map_two]
                  exact bindEff ⟨undef, w', E, q1, q2, undef_rel⟩
                · cases h
              · cases h
            · cases h
          · cases hc
        · rename_i t t2 p q e1 e2
          have e1 := toList_two e1
          have e2 := toList_two e2
          subst e1; subst e2
          split at hc
          · rename_i e hu
            simp only [bind] at hc
            obtain ⟨i, hi, hc⟩ := bindSome hc
            obtain ⟨p', hp', hc⟩ := bindSome hc
            obtain ⟨q', hq', hc⟩ := bindSome hc
            cases hc
            simp only [xop] at h
            split at h
            · rename_i xv yv h1 h2
              split at h
              · rename_i lx ly hlx hly
                split at h
                · cases h
                · rename_i new hsrc
                  split at h
                  · cases h
                  · rename_i hone
                    obtain ⟨v, w', q1, q2, q3⟩ := copy_sound (P := P) hR hu hi (ev_rel hT hp' h1) (ev_rel hT hq' h2) hlx hly hsrc (by simpa using hone) h type
                    simp only [builtin, map_two]
                    exact bindEff ⟨v, w', E, q1, q2, q3⟩
              · cases h
            · cases h
          · cases hc
        · cases hc
      simp only [execOp, resolve, invoke, Sem.run_bind]
      exact key _
end
end Go.Eng
end
section
namespace Go.Eng
variable {P : Program}
def CallOK (P : Program) (f : Nat) (args : List AV) (H : AHeap) (v : AV) (H' : AHeap) : Prop :=
  (∃ fn, P.funcs[f]? = some fn ∧ fn.body.isNone = false ∧ (fn.name == "runtime.NumGoroutine") = false) ∧
  ∀ E w us, Rel E H w → AVRelL E w args us → Calls P f us.toArray w fun e w' => ∃ u E', e = .returned u ∧ Step E H w E' H' w' ∧ AVRel E' w' v u
abbrev CF := Nat → List AV → AHeap → Option (AV × AHeap)
def CFok (P : Program) (cf : CF) : Prop := ∀ f args H v H', cf f args H = some (v, H') → CallOK P f args H v H'
structure RStep (E : Env) (H : AHeap) (w : World) (base : Nat) (E' : Env) (H' : AHeap) (w' : World) : Prop where
  ext : Env.Ext E E' w w'
  rel : Rel E' H' w'
  fr : Fr E H w w'
  nb : ∀ i o L, H'.get i = some o → E'.ρ i = some L → w.heap.size ≤ L.b ∨ ∃ j o' L', H.get j = some o' ∧ E.ρ j = some L' ∧ L'.b = L.b
  nx : H.next ≤ H'.next
  ids : ∀ i L, E'.ρ i = some L → E.ρ i = some L ∨ base ≤ i
  imm : ∀ b, E'.I b → E.I b ∨ w.heap.size ≤ b ∨ ∃ j o L, H.get j = some o ∧ E.ρ j = some L ∧ L.b = b
theorem Step.toR {E E' : Env} {H H' : AHeap} {w w' : World} {base : Nat} (h : Step E H w E' H' w') (hb : base ≤ H.next) : RStep E H w base E' H' w' :=
  ⟨h.ext, h.rel, h.fr, h.nb, h.nx, fun i L q => (h.ids i L q).imp id (fun q => Nat.le_trans hb q), h.imm⟩
theorem RStep.refl {E : Env} {H : AHeap} {w : World} {base : Nat} (h : Rel E H w) : RStep E H w base E H w :=
  ⟨Env.Ext.refl _ _, h, Fr.refl _ _ _, fun i o L hg hρ => .inr ⟨i, o, L, hg, hρ, rfl⟩, Nat.le_refl _, fun _ _ h => .inl h, fun _ h => .inl h⟩
theorem RStep.trans {base : Nat} {E1 E2 E3 : Env} {H1 H2 H3 : AHeap} {w1 w2 w3 : World} (a : RStep E1 H1 w1 base E2 H2 w2) (b : RStep E2 H2 w2 base E3 H3 w3) : RStep E1 H1 w1 base E3 H3 w3 where
  ext := a.ext.trans b.ext
  rel := b.rel
  fr := {
    os := b.fr.os.trans a.fr.os
    tape := b.fr.tape.trans a.fr.tape
    output := b.fr.output.trans a.fr.output
    size := Nat.le_trans a.fr.size b.fr.size
    block := by
      intro k hk hn
      have hk2 := Nat.lt_of_lt_of_le hk a.fr.size
      refine (b.fr.block k hk2 (fun i o L hg hρ e => ?_)).trans (a.fr.block k hk hn)
      rcases a.nb i o L hg hρ with h | ⟨j, o', L', h1, h2, h3⟩
      · omega
      · exact hn j o' L' h1 h2 (h3.trans e) }
  nb := by
    intro i o L hg hρ
    rcases b.nb i o L hg hρ with h | ⟨j, o', L', h1, h2, h3⟩
    · exact .inl (Nat.le_trans a.fr.size h)
    · rcases a.nb j o' L' h1 h2 with h | ⟨j', o'', L'', h4, h5, h6⟩
      · exact .inl (h3 ▸ h)
      · exact .inr ⟨j', o'', L'', h4, h5, h6.trans h3⟩
  nx := Nat.le_trans a.nx b.nx
  ids := by
    intro i L h
    rcases b.ids i L h with h | h
    · exact a.ids i L h
    · exact .inr h
  imm := by
    intro k h
    rcases b.imm k h with h | h | ⟨j, o, L, h1, h2, h3⟩
    · exact a.imm k h
    · exact .inr (.inl (Nat.le_trans a.fr.size h))
    · rcases a.nb j o L h1 h2 with h | ⟨j', o', L', h4, h5, h6⟩
      · exact .inr (.inl (h3 ▸ h))
      · exact .inr (.inr ⟨j', o', L', h4, h5, h6.trans h3⟩)
section
variable {E : Env} {w : World}
theorem ofV_ne_new {o : Option AV} {x : AV} {ob : AObj} : AR.ofV o ≠ .new x ob := by cases o <;> simp [AR.ofV]
theorem ofV_ne_eff {o : Option AV} {x : AV} {H : AHeap} : AR.ofV o ≠ .eff x H := by cases o <;> simp [AR.ofV]
theorem appA_ne_new {H : AHeap} {z b : Nat} {x y v : AV} {ob : AObj} : appA H z b x y ≠ .new v ob := by
  intro h
  unfold appA at h
  repeat' (first | (cases h; done) | split at h)
theorem mkSliceA_ne_new {H : AHeap} {z : List AV} {b : Nat} {x y v : AV} {ob : AObj} : mkSliceA H z b x y ≠ .new v ob := by
  intro h
  unfold mkSliceA at h
  repeat' (first | (cases h; done) | split at h)
theorem xop_new_cls {ev : XO → Option AV} {H : AHeap} {n : Nat} {y : XOp} {x : AV} {ob : AObj} (h : xop ev H n y = .new x ob) : y.cls = .n := by
  cases y <;> simp only [xop] at h <;> first
    | rfl
    | exact absurd h ofV_ne_new
    | (cases h; done)
    | (exfalso; repeat' (first | (cases h; done) | exact absurd h ofV_ne_new | exact absurd h appA_ne_new | exact absurd h mkSliceA_ne_new | split at h))
theorem xop_eff_cls {ev : XO → Option AV} {H : AHeap} {n : Nat} {y : XOp} {x : AV} {H' : AHeap} (h : xop ev H n y = .eff x H') : y.cls = .e := by
  cases y <;> simp only [xop] at h <;> first
    | rfl
    | exact absurd h ofV_ne_eff
    | (cases h; done)
    | (exfalso; repeat' (first | (cases h; done) | exact absurd h ofV_ne_eff | split at h))
theorem call_exec {tm : Tr AV} {a : Act} (hT : TmR E w tm a.tmps) {o : Oper} {f : XO} {args : List XO} (hc : compOp P o = some (.call f args)) {g : Nat} {cs l : List AV} (h1 : St.ev tm f = some (.fn g cs)) (h2 : evL (St.ev tm) args = some l)
    (hf : ∃ fn, P.funcs[g]? = some fn ∧ fn.body.isNone = false ∧ (fn.name == "runtime.NumGoroutine") = false) :
    ∃ us, (execOp a.eval o).run P w = .ok (.enter g us.toArray) w ∧ AVRelL E w (l ++ cs) us := by
  obtain ⟨dst, op, type, pos, after, guard⟩ := o
  have key : ∃ fo args0 ats, op = .call ⟨.value fo, args0, ats⟩ ∧ xo fo = some f ∧ args0.toList.mapM xo = some args := by
    unfold compOp at hc
    cases op <;> simp only [bind, reduceCtorEq] at hc
    case range t x =>
      split at hc
      · obtain ⟨m, _, hc⟩ := bindSome hc
        cases hc
      · cases hc
    case next x b =>
      split at hc
      · cases hc
      · obtain ⟨m, _, hc⟩ := bindSome hc
        cases hc
    case entry x =>
      obtain ⟨m, _, hc⟩ := bindSome hc
      cases hc
    case call c =>
      obtain ⟨cal, args0, ats⟩ := c
      cases cal <;> simp only at hc
      case value fo =>
        obtain ⟨f', hf', hc⟩ := bindSome hc
        obtain ⟨l', hl', hc⟩ := bindSome hc
        cases hc
        exact ⟨fo, args0, ats, rfl, hf', hl'⟩
      case invoke => cases hc
      case builtin b =>
        exfalso
        unfold compBuiltin at hc
        split at hc
        · simp only [bind] at hc
          obtain ⟨d, hd, hc⟩ := bindSome hc
          split at hc
          · obtain ⟨_, _, hc⟩ := bindSome hc; cases hc
          · obtain ⟨_, _, hc⟩ := bindSome hc; cases hc
          · cases hc
          · obtain ⟨_, _, hc⟩ := bindSome hc; cases hc
          · split at hc <;> cases hc
          · cases hc
        · split at hc
          · simp only [bind] at hc
            obtain ⟨_, _, hc⟩ := bindSome hc
            obtain ⟨_, _, hc⟩ := bindSome hc
            split at hc
            · obtain ⟨_, _, hc⟩ := bindSome hc
              obtain ⟨_, _, hc⟩ := bindSome hc
              cases hc
            · cases hc
          · cases hc
        · simp only [bind] at hc
          obtain ⟨_, _, hc⟩ := bindSome hc; cases hc
        · simp only [bind] at hc
          obtain ⟨_, _, hc⟩ := bindSome hc; cases hc
        · split at hc
          · simp only [bind] at hc
            obtain ⟨_, _, hc⟩ := bindSome hc
            obtain ⟨_, _, hc⟩ := bindSome hc
            obtain ⟨_, _, hc⟩ := bindSome hc
            cases hc
          · cases hc
        · split at hc
          · simp only [bind] at hc
            obtain ⟨_, _, hc⟩ := bindSome hc
            obtain ⟨_, _, hc⟩ := bindSome hc
            obtain ⟨_, _, hc⟩ := bindSome hc
            cases hc
          · cases hc
        · cases hc
    case binOp => exfalso; have := compBin_cls hc; simp [XOp.cls] at this
    case convert => exfalso; have := compConv_cls hc; simp [XOp.cls] at this
    case move x =>
      obtain ⟨_, _, hc⟩ := bindSome hc
      cases hc
    case assign x =>
      obtain ⟨_, _, hc⟩ := bindSome hc
      cases hc
    case pick c a b =>
      obtain ⟨_, _, hc⟩ := bindSome hc
      obtain ⟨_, _, hc⟩ := bindSome hc
      obtain ⟨_, _, hc⟩ := bindSome hc
      cases hc
    case load t a =>
      obtain ⟨_, _, hc⟩ := bindSome hc
      obtain ⟨_, _, hc⟩ := bindSome hc
      cases hc
    case store t a x =>
      obtain ⟨_, _, hc⟩ := bindSome hc
      obtain ⟨_, _, hc⟩ := bindSome hc
      obtain ⟨_, _, hc⟩ := bindSome hc
      cases hc
    case nilCheck x =>
      obtain ⟨_, _, hc⟩ := bindSome hc
      cases hc
    case unOp op t x =>
      obtain ⟨_, _, hc⟩ := bindSome hc
      cases hc
    case extract x i =>
      obtain ⟨_, _, hc⟩ := bindSome hc
      cases hc
    case alloc e =>
      obtain ⟨_, _, hc⟩ := bindSome hc
      cases hc
    case box e v =>
      obtain ⟨_, _, hc⟩ := bindSome hc
      cases hc
    case build t ps =>
      obtain ⟨_, _, hc⟩ := bindSome hc
      split at hc
      · obtain ⟨_, _, hc⟩ := bindSome hc
        obtain ⟨_, _, hc⟩ := bindSome hc
        cases hc
      · obtain ⟨_, _, hc⟩ := bindSome hc
        obtain ⟨_, _, hc⟩ := bindSome hc
        cases hc
      · cases hc
    case makeInterface t x =>
      split at hc
      · cases hc
      · obtain ⟨_, _, hc⟩ := bindSome hc
        cases hc
      · cases hc
    case makeFunc fn first cs =>
      split at hc
      · split at hc
        · obtain ⟨_, _, hc⟩ := bindSome hc
          cases hc
        · cases hc
      · cases hc
    case makeSlice t l c =>
      split at hc
      · obtain ⟨_, _, hc⟩ := bindSome hc
        obtain ⟨_, _, hc⟩ := bindSome hc
        split at hc
        · cases hc
        · obtain ⟨_, _, hc⟩ := bindSome hc
          obtain ⟨_, _, hc⟩ := bindSome hc
          cases hc
      · cases hc
    case slice t x lo hi mx =>
      split at hc
      · obtain ⟨_, _, hc⟩ := bindSome hc
        obtain ⟨_, _, hc⟩ := bindSome hc
        obtain ⟨_, _, hc⟩ := bindSome hc
        obtain ⟨_, _, hc⟩ := bindSome hc
        obtain ⟨_, _, hc⟩ := bindSome hc
        cases hc
      · obtain ⟨_, _, hc⟩ := bindSome hc
        obtain ⟨_, _, hc⟩ := bindSome hc
        obtain ⟨_, _, hc⟩ := bindSome hc
        obtain ⟨_, _, hc⟩ := bindSome hc
        obtain ⟨_, _, hc⟩ := bindSome hc
        cases hc
      · split at hc
        · obtain ⟨_, _, hc⟩ := bindSome hc
          obtain ⟨_, _, hc⟩ := bindSome hc
          obtain ⟨_, _, hc⟩ := bindSome hc
          cases hc
        · cases hc
      · cases hc
    case fieldAddr t x f =>
      split at hc
      · obtain ⟨_, _, hc⟩ := bindSome hc
        obtain ⟨_, _, hc⟩ := bindSome hc
        split at hc
        · cases hc
        · obtain ⟨_, _, hc⟩ := bindSome hc
          cases hc
      · cases hc
    case field t x f =>
      split at hc
      · obtain ⟨_, _, hc⟩ := bindSome hc
        obtain ⟨_, _, hc⟩ := bindSome hc
        obtain ⟨_, _, hc⟩ := bindSome hc
        cases hc
      · cases hc
    case indexAddr t x i =>
      split at hc
      · obtain ⟨_, _, hc⟩ := bindSome hc
        obtain ⟨_, _, hc⟩ := bindSome hc
        obtain ⟨_, _, hc⟩ := bindSome hc
        cases hc
      · obtain ⟨_, _, hc⟩ := bindSome hc
        obtain ⟨_, _, hc⟩ := bindSome hc
        obtain ⟨_, _, hc⟩ := bindSome hc
        cases hc
      · cases hc
    case index t x i =>
      split at hc
      · obtain ⟨_, _, hc⟩ := bindSome hc
        obtain ⟨_, _, hc⟩ := bindSome hc
        obtain ⟨_, _, hc⟩ := bindSome hc
        obtain ⟨_, _, hc⟩ := bindSome hc
        cases hc
      · obtain ⟨_, _, hc⟩ := bindSome hc
        obtain ⟨_, _, hc⟩ := bindSome hc
        cases hc
      · cases hc
    case lookup t m k ok =>
      split at hc
      · obtain ⟨_, _, hc⟩ := bindSome hc
        obtain ⟨_, _, hc⟩ := bindSome hc
        obtain ⟨_, _, hc⟩ := bindSome hc
        obtain ⟨_, _, hc⟩ := bindSome hc
        obtain ⟨_, _, hc⟩ := bindSome hc
        obtain ⟨_, _, hc⟩ := bindSome hc
        cases hc
      · cases hc
    case mapUpdate t m k v =>
      split at hc
      · obtain ⟨_, _, hc⟩ := bindSome hc
        obtain ⟨_, _, hc⟩ := bindSome hc
        obtain ⟨_, _, hc⟩ := bindSome hc
        obtain ⟨_, _, hc⟩ := bindSome hc
        cases hc
      · cases hc
    case insert t m k v =>
      split at hc
      · obtain ⟨_, _, hc⟩ := bindSome hc
        obtain ⟨_, _, hc⟩ := bindSome hc
        obtain ⟨_, _, hc⟩ := bindSome hc
        obtain ⟨_, _, hc⟩ := bindSome hc
        cases hc
      · cases hc
    case buildSlice t n ps =>
      split at hc
      · obtain ⟨_, _, hc⟩ := bindSome hc
        obtain ⟨_, _, hc⟩ := bindSome hc
        split at hc
        · cases hc
        · obtain ⟨_, _, hc⟩ := bindSome hc
          cases hc
      · cases hc
    case makeMap t r =>
      split at hc
      · cases hc
      · cases hc
  obtain ⟨fo, args0, ats, rfl, hfo, hargs⟩ := key
  have hr := ev_rel hT hfo h1
  simp only [AVRel] at hr
  obtain ⟨us, e, hus⟩ := hr
  have hl := evL_rel hT hargs h2
  obtain ⟨fn, q1, q2, q3⟩ := hf
  refine ⟨args0.toList.map a.eval ++ us.toList, ?_, AVRelL.append hl hus⟩
  have q2' : ¬ fn.body = none := by
    intro q
    rw [q] at q2
    cases q2
  have q3' : ¬ fn.name = "runtime.NumGoroutine" := by simpa using q3
  have harr' : args0.map a.eval ++ us = (args0.toList.map a.eval ++ us.toList).toArray := by
    apply Array.toList_inj.1
    simp
  simp only [execOp, resolve, e, Deferred.ofValue, Sem.run_bind]
  simp [invoke, callFunc, program, Sem.run, q1, q2', q3', harr']
end
end Go.Eng
end
section
namespace Go.Eng
variable {P : Program}
theorem compOper_inv {ops : Array Oper} {o : Oper} {o' : XOper} (h : compOper P ops o = some o') :
    compOp P o = some o'.op ∧ o'.dst = o.dst ∧ ((o.guard = none ∧ o'.guard = none) ∨ ∃ j b d, o.guard = some (j, b) ∧ o'.guard = some (d, b) ∧ (ops[j]?).bind (·.dst) = some d) := by
  unfold compOper at h
  simp only [bind] at h
  obtain ⟨x, hx, h⟩ := bindSome h
  split at h
  · rename_i hg
    cases h
    exact ⟨hx, rfl, .inl ⟨hg, rfl⟩⟩
  · rename_i j b hg
    obtain ⟨d, hd, h⟩ := bindSome h
    cases h
    exact ⟨hx, rfl, .inr ⟨j, b, d, hg, rfl, hd⟩⟩
theorem wanted_sound {E : Env} {w : World} {ops : Array Oper} {o : Oper} {o' : XOper} (hc : compOper P ops o = some o') {tm : Tr AV} {a : Act} (hT : TmR E w tm a.tmps) {r : Bool} (h : wantedA tm o' = some r) :
    Region.wanted o (yielded ops a.tmps) = r := by
  obtain ⟨_, _, hg⟩ := compOper_inv hc
  unfold wantedA at h
  unfold Region.wanted
  rcases hg with ⟨h1, h2⟩ | ⟨j, b, d, h1, h2, h3⟩
  · rw [h2] at h
    rw [h1]
    simpa using h
  · rw [h2] at h
    rw [h1]
    simp only at h ⊢
    split at h
    · rename_i c hc'
      cases h
      obtain ⟨u, hu1, hu2⟩ := hT d _ hc'
      have := hu2.bool_inv
      subst this
      simp [yielded, h3, hu1]
    · rename_i hc'
      cases h
      obtain ⟨u, hu1, hu2⟩ := hT d _ hc'
      simp only [AVRel, AVRelL] at hu2
      obtain ⟨us, rfl, e⟩ := hu2
      simp [yielded, h3, hu1]
    · cases h
def After (E : Env) (H : AHeap) (w : World) (tm : Tr AV) (n base : Nat) (dst : Option Nat) (s' : St) (u : Value) (w' : World) : Prop :=
  ∃ E' x, RStep E H w base E' s'.H w' ∧ (∀ i L, E'.ρ i = some L → E.ρ i = some L ∨ i = n ∨ H.next ≤ i) ∧ AVRel E' w' x u ∧ s'.tm = putT tm dst x
theorem go_sound {cf : CF} (hcf : CFok P cf) {o : Oper} {o' : XOper} (hc : compOp P o = some o'.op) (hdst : o'.dst = o.dst) {s : St} {v : AV} {H1 : AHeap} {n : Nat} (hs : xval cf (St.ev s.tm) s.H n o'.op = some (v, H1)) {E : Env} {w : World} {a : Act}
    (hR : Rel E s.H w) (hT : TmR E w s.tm a.tmps) (hn : E.ρ n = none) (hlt : n < s.H.next) {base : Nat} (hb : base ≤ n) {K : Act → World → Prop} {Q : Exit → Act → World → Prop}
    (hK : ∀ u w', After E s.H w s.tm n base o.dst ⟨putT s.tm o.dst v, H1⟩ u w' → K (a.put o.dst u) w') : o.wp P a w K Q := by
  unfold Oper.wp
  have hbn : base ≤ s.H.next := by omega
  unfold xval at hs
  split at hs
  · rename_i f args hop
    split at hs
    · rename_i g cs l h1 h2
      obtain ⟨hf, hcalls⟩ := hcf _ _ _ _ _ hs
      obtain ⟨us, he, hus⟩ := call_exec hT (hop ▸ hc) h1 h2 hf
      rw [he]
      simp only [Oper.upon]
      refine (hcalls E w us hR hus).mono ?_
      rintro e w' ⟨u, E', rfl, hstep, hval⟩
      refine hK u w' ⟨E', v, hstep.toR hbn, fun i L h => ?_, hval, rfl⟩
      rcases hstep.ids i L h with q | q
      · exact .inl q
      · exact .inr (.inr q)
    · cases hs
  · rename_i op hne
    generalize hx : xop (St.ev s.tm) s.H n o'.op = r at hs
    split at hs
    · cases hs
    · rename_i x
      cases hs
      obtain ⟨u, h1, h2⟩ := pr_sound hR hT hc hx
      rw [h1]
      simp only [Oper.upon]
      exact hK u w ⟨E, _, RStep.refl hR, fun i L h => .inl h, h2, rfl⟩
    · rename_i x ob
      cases hs
      obtain ⟨u, obj, room, h1, h2⟩ := new_sound hT hc (xop_new_cls hx) hx
      rw [h1]
      simp only [Oper.upon]
      have hrho : (E.add n ⟨w.heap.size, 0, room⟩).ρ n = some ⟨w.heap.size, 0, room⟩ := by simp [Env.add]
      obtain ⟨q1, q2, q3, q4⟩ := Step.alloc (obj := obj) (o := ob) (room := room) hR hn hlt (Nat.le_refl _) (fun hext => (h2 _ hrho hext).2)
      refine hK u _ ⟨_, _, ⟨q1, q2, q3, q4, Nat.le_refl _, fun i L h => ?_, fun _ h => .inl h⟩, fun i L h => ?_, (h2 _ hrho q1).1, rfl⟩
      · simp only [Env.add] at h
        split at h
        · rename_i e; exact .inr (by omega)
        · exact .inl h
      · simp only [Env.add] at h
        split at h
        · rename_i e; exact .inr (.inl e)
        · exact .inl h
    · rename_i x H
      cases hs
      obtain ⟨nx, u, w', E', h1, h2, h3, h4⟩ := eff_sound hR hT hc (xop_eff_cls hx) hx
      rw [h1]
      have hk := hK u w' ⟨E', _, h3.toR hbn, fun i L h => (h3.ids i L h).imp id .inr, h4, rfl⟩
      rcases h2 with rfl | ⟨rfl, rfl⟩
      · simp only [Oper.upon]
        exact hk
      · simp only [Oper.upon]
        exact hk
theorem put_size (a : Act) (d : Option Tmp) (v : Value) : (a.put d v).tmps.size = a.tmps.size := by
  cases d <;> simp [Act.put]
theorem put_defers (a : Act) (d : Option Tmp) (v : Value) : (a.put d v).defers = a.defers := by
  cases d <;> rfl
theorem step_sound {cf : CF} (hcf : CFok P cf) {ops : Array Oper} {i : Nat} {o : Oper} {o' : XOper} (hi : ops[i]? = some o) (hc : compOper P ops o = some o') {s s' : St} {n : Nat} (hs : xstep cf s n o' = some s') {E : Env} {w : World} {a : Act}
    (hR : Rel E s.H w) (hT : TmR E w s.tm a.tmps) (hn : E.ρ n = none) (hlt : n < s.H.next) {base : Nat} (hb : base ≤ n) {K : Act → World → Prop} {Q : Exit → Act → World → Prop}
    (hK : ∀ u w', After E s.H w s.tm n base o.dst s' u w' → K (a.put o.dst u) w') : wpOp P ops Q i K a w := by
  obtain ⟨h1, h2, _⟩ := compOper_inv hc
  unfold wpOp
  rw [hi]
  simp only
  unfold xstep at hs
  split at hs
  · rename_i hw
    rw [wanted_sound hc hT hw]
    simp only [if_true]
    split at hs
    · rename_i x H hv
      cases hs
      exact .inl (go_sound hcf h1 h2 hv hR hT hn hlt hb (fun u w' q => hK u w' (by rw [h2]; exact q)))
    · cases hs
  · rename_i hw
    cases hs
    rw [wanted_sound hc hT hw]
    simp only [Bool.false_eq_true, if_false]
    exact hK undef w ⟨E, undefA, RStep.refl hR, fun i L h => .inl h, undef_rel, by rw [h2]⟩
  · cases hs
theorem ops_sound {cf : CF} (hcf : CFok P cf) {ops : Array Oper} {Q : Exit → Act → World → Prop} {base : Nat} : ∀ (rest : List XOper) (i : Nat) (s s' : St) (E : Env) (w : World) (a : Act),
    (∀ (k : Nat) (x : XOper), rest[k]? = some x → ∃ o, ops[i + k]? = some o ∧ compOper P ops o = some x) → (∀ x ∈ rest, dstOk a.tmps.size x = true) → xops cf rest (base + i) s = some s' → Rel E s.H w → TmR E w s.tm a.tmps →
    (∀ k, i ≤ k → k < i + rest.length → E.ρ (base + k) = none) → base + i + rest.length ≤ s.H.next →
    (∀ E' a' w', RStep E s.H w base E' s'.H w' → TmR E' w' s'.tm a'.tmps → a'.defers = a.defers → a'.tmps.size = a.tmps.size → Q .normal a' w') →
    wpOps P ops Q (List.range' i rest.length) a w
  | [], i, s, s', E, w, a, _, _, hx, hR, hT, _, _, hQ => by
    simp only [xops, Option.some.injEq] at hx
    subst hx
    simp only [List.length_nil, List.range'_zero, wpOps]
    exact hQ E a w (RStep.refl hR) hT rfl rfl
  | x :: rest, i, s, s', E, w, a, hops, hd, hx, hR, hT, hn, hnx, hQ => by
    simp only [xops] at hx
    split at hx
    · rename_i s1 hs1
      obtain ⟨o, ho, hc⟩ := hops 0 x rfl
      simp only [Nat.add_zero] at ho
      simp only [List.length_cons] at hn hnx ⊢
      rw [List.range'_succ, wpOps_cons]
      refine step_sound hcf ho hc hs1 hR hT (hn i (Nat.le_refl _) (by omega)) (by omega) (base := base) (by omega) ?_
      rintro u w1 ⟨E1, v, h1, h2, h3, h4⟩
      have hdst : o.dst = x.dst := (compOper_inv hc).2.1.symm
      have hdx := hd x (by simp)
      have hT1 : TmR E1 w1 s1.tm (a.put o.dst u).tmps := by
        rw [h4]
        refine TmR.put (hT.mono h1.ext) h3 (fun d hd' => ?_)
        rw [hdst] at hd'
        simp only [dstOk, hd'] at hdx
        simpa using hdx
      refine ops_sound hcf rest (i + 1) s1 s' E1 w1 (a.put o.dst u) (fun k y hk => ?_) (fun y hy => ?_) (by rw [← Nat.add_assoc]; exact hx) h1.rel hT1 (fun k hk1 hk2 => ?_) ?_ (fun E' a' w' q1 q2 q3 q4 => ?_)
      · obtain ⟨o', ho', hc'⟩ := hops (k + 1) y (by simpa using hk)
        exact ⟨o', by rw [← ho']; congr 1; omega, hc'⟩
      · rw [put_size]
        exact hd y (by simp [hy])
      · cases hq : E1.ρ (base + k) with
        | none => rfl
        | some L =>
          rcases h2 _ _ hq with q | q | q
          · rw [hn k (by omega) (by omega)] at q; cases q
          · omega
          · omega
      · have := h1.nx
        omega
      · exact hQ E' a' w' (h1.trans q1) q2 (q3.trans (put_defers _ _ _)) (q4.trans (put_size _ _ _))
    · cases hx
end Go.Eng
end
section
namespace Go.Eng
theorem evL_congr {e1 e2 : XO → Option AV} : ∀ {l : List XO}, (∀ x ∈ l, e1 x = e2 x) → evL e1 l = evL e2 l
  | [], _ => rfl
  | x :: l, h => by
    simp only [evL]
    rw [h x (by simp), evL_congr (fun y hy => h y (by simp [hy]))]
theorem evParts_congr {e1 e2 : XO → Option AV} : ∀ {l : List (Nat × Nat × XO)}, (∀ x ∈ l.map (·.2.2), e1 x = e2 x) → evParts e1 l = evParts e2 l
  | [], _ => rfl
  | (o, n, x) :: l, h => by
    simp only [evParts]
    rw [h x (by simp), evParts_congr (fun y hy => h y (by simp only [List.map_cons, List.mem_cons]; exact .inr hy))]
theorem obnd_congr {e1 e2 : XO → Option AV} {y d : Nat} {o : Option XO} (h : ∀ x ∈ o.toList, e1 x = e2 x) : obnd e1 y d o = obnd e2 y d o := by
  cases o with
  | none => rfl
  | some x => simp only [obnd]; rw [h x (by simp)]
theorem hiBnd_congr {e1 e2 : XO → Option AV} {y d : Nat} {o m : Option XO} (h : ∀ x ∈ o.toList, e1 x = e2 x) : hiBnd e1 y d o m = hiBnd e2 y d o m := by
  cases o with
  | none => cases m <;> rfl
  | some x => simp only [hiBnd]; rw [h x (by simp)]
theorem bounds_congr {e1 e2 : XO → Option AV} {l c : Nat} {lo hi m : Option XO} (h : ∀ x ∈ lo.toList ++ hi.toList ++ m.toList, e1 x = e2 x) : bounds e1 l c lo hi m = bounds e2 l c lo hi m := by
  unfold bounds
  rw [obnd_congr (o := m) (fun x hx => h x (by simp only [List.mem_append]; exact .inr hx))]
  congr 1
  funext k
  rw [hiBnd_congr (o := hi) (fun x hx => h x (by simp only [List.mem_append]; exact .inl (.inr hx)))]
  congr 1
  funext k'
  rw [obnd_congr (o := lo) (fun x hx => h x (by simp only [List.mem_append]; exact .inl (.inl hx)))]
theorem cutA_congr {e1 e2 : XO → Option AV} {z : Nat} {x : AV} {lo hi m : Option XO} (h : ∀ x ∈ lo.toList ++ hi.toList ++ m.toList, e1 x = e2 x) : cutA e1 z x lo hi m = cutA e2 z x lo hi m := by
  unfold cutA
  simp only [bounds_congr h]
theorem acutA_congr {e1 e2 : XO → Option AV} {n z : Nat} {x : AV} {lo hi m : Option XO} (h : ∀ x ∈ lo.toList ++ hi.toList ++ m.toList, e1 x = e2 x) : acutA e1 n z x lo hi m = acutA e2 n z x lo hi m := by
  unfold acutA
  simp only [bounds_congr h]
theorem scutA_congr {e1 e2 : XO → Option AV} {x : AV} {lo hi : Option XO} (h : ∀ x ∈ lo.toList ++ hi.toList, e1 x = e2 x) : scutA e1 x lo hi = scutA e2 x lo hi := by
  unfold scutA
  have : ∀ l c, bounds e1 l c lo hi none = bounds e2 l c lo hi none := fun l c => bounds_congr (by simpa using h)
  simp only [this]
theorem xop_congr {e1 e2 : XO → Option AV} {H : AHeap} {n : Nat} {y : XOp} (h : ∀ x ∈ y.opnds, e1 x = e2 x) : xop e1 H n y = xop e2 H n y := by
  cases y <;> simp only [XOp.opnds, List.mem_cons, List.not_mem_nil, or_false, forall_eq_or_imp, forall_eq, List.mem_append] at h
  case build z ps => simp only [xop, evParts_congr h]
  case bslice z ps m => simp only [xop, evParts_congr h]
  case mkfn f cs => simp only [xop, evL_congr h]
  case mn l => simp only [xop, evL_congr h]
  case mx l => simp only [xop, evL_congr h]
  case call f l => simp only [xop]
  case cut z x lo hi m =>
    simp only [xop]
    have hx := h x (by simp)
    rw [hx]
    congr 1
    cases e2 x with
    | none => rfl
    | some v => exact cutA_congr (fun y hy => h y (by simp only [List.mem_append] at hy ⊢; rcases hy with (hy | hy) | hy <;> simp [hy]))
  case acut l z x lo hi m =>
    simp only [xop]
    have hx := h x (by simp)
    rw [hx]
    congr 1
    cases e2 x with
    | none => rfl
    | some v => exact acutA_congr (fun y hy => h y (by simp only [List.mem_append] at hy ⊢; rcases hy with (hy | hy) | hy <;> simp [hy]))
  case scut x lo hi =>
    simp only [xop]
    have hx := h x (by simp)
    rw [hx]
    congr 1
    cases e2 x with
    | none => rfl
    | some v => exact scutA_congr (fun y hy => h y (by simp only [List.mem_append] at hy ⊢; rcases hy with hy | hy <;> simp [hy]))
  all_goals simp only [xop, h]
theorem xval_congr {cf : CF} {e1 e2 : XO → Option AV} {H : AHeap} {n : Nat} {y : XOp} (h : ∀ x ∈ y.opnds, e1 x = e2 x) : xval cf e1 H n y = xval cf e2 H n y := by
  cases y
  case call f l =>
    simp only [XOp.opnds, List.mem_cons, forall_eq_or_imp] at h
    simp only [xval, h.1, evL_congr h.2]
  all_goals simp only [xval, xop_congr h]
mutual
theorem AV.beq_sound : ∀ {a b : AV}, AV.beq a b = true → a = b
  | .bool _, b, h => by cases b <;> simp [AV.beq] at h; subst h; rfl
  | .int _ _, b, h => by cases b <;> simp [AV.beq] at h; obtain ⟨rfl, rfl⟩ := h; rfl
  | .str _, b, h => by cases b <;> simp [AV.beq] at h; subst h; rfl
  | .ptr _ _, b, h => by cases b <;> simp [AV.beq] at h; obtain ⟨rfl, rfl⟩ := h; rfl
  | .nilp, b, h => by cases b <;> simp [AV.beq] at h; rfl
  | .sl _ _ _ _, b, h => by cases b <;> simp [AV.beq] at h; obtain ⟨⟨⟨rfl, rfl⟩, rfl⟩, rfl⟩ := h; rfl
  | .nils, b, h => by cases b <;> simp [AV.beq] at h; rfl
  | .map _, b, h => by cases b <;> simp [AV.beq] at h; subst h; rfl
  | .nilm, b, h => by cases b <;> simp [AV.beq] at h; rfl
  | .fn _ l, b, h => by
    cases b <;> simp [AV.beq] at h
    obtain ⟨rfl, h2⟩ := h
    rw [AV.beqL_sound h2]
  | .nilf, b, h => by cases b <;> simp [AV.beq] at h; rfl
  | .ifc _ x, b, h => by
    cases b <;> simp [AV.beq] at h
    obtain ⟨rfl, h2⟩ := h
    rw [AV.beq_sound h2]
  | .nili, b, h => by cases b <;> simp [AV.beq] at h; rfl
  | .agg l, b, h => by
    cases b <;> simp [AV.beq] at h
    rw [AV.beqL_sound h]
  | .tup l, b, h => by
    cases b <;> simp [AV.beq] at h
    rw [AV.beqL_sound h]
  | .imm l _ _, b, h => by
    cases b <;> simp [AV.beq] at h
    obtain ⟨⟨h1, rfl⟩, rfl⟩ := h
    rw [AV.beqL_sound h1]
  | .iptr l _, b, h => by
    cases b <;> simp [AV.beq] at h
    obtain ⟨h1, rfl⟩ := h
    rw [AV.beqL_sound h1]
  | .glob _ _, b, h => by cases b <;> simp [AV.beq] at h; obtain ⟨rfl, rfl⟩ := h; rfl
theorem AV.beqL_sound : ∀ {a b : List AV}, AV.beqL a b = true → a = b
  | [], b, h => by cases b <;> simp [AV.beqL] at h; rfl
  | x :: l, b, h => by
    cases b <;> simp [AV.beqL] at h
    obtain ⟨h1, h2⟩ := h
    rw [AV.beq_sound h1, AV.beqL_sound h2]
end
def AHeap.Le (H H' : AHeap) : Prop := ∀ i o, H.get i = some o → H'.get i = some o
theorem cellsAt_mono {H H' : AHeap} (h : H.Le H') {x : AV} {c : List AV} (hc : cellsAt H x = some c) : cellsAt H' x = some c := by
  unfold cellsAt at hc ⊢
  split at hc
  · split at hc
    · rename_i cs opn hg
      simp only [h _ _ hg]
      exact hc
    · cases hc
  · exact hc
  · cases hc
theorem srcA_mono {H H' : AHeap} (h : H.Le H') {z n : Nat} {x : AV} {c : List AV} (hc : srcA H z n x = some c) : srcA H' z n x = some c := by
  unfold srcA at hc ⊢
  split at hc
  · exact hc
  · split at hc
    · rename_i cs opn hg
      simp only [h _ _ hg]
      exact hc
    · cases hc
  · exact hc
  · exact hc
  · cases hc
theorem entsA_mono {H H' : AHeap} (h : H.Le H') {x : AV} {c : List (AV × AV)} (hc : entsA H x = some c) : entsA H' x = some c := by
  unfold entsA at hc ⊢
  split at hc
  · exact hc
  · split at hc
    · rename_i es hg
      simp only [h _ _ hg]
      exact hc
    · rename_i es t hg
      simp only [h _ _ hg]
      exact hc
    · cases hc
  · cases hc
theorem xop_r_mono {ev : XO → Option AV} {H H' : AHeap} (h : H.Le H') {n n' : Nat} {y : XOp} (hy : y.cls = .r) {x : AV} (hx : xop ev H n y = .v x) : xop ev H' n' y = .v x := by
  cases y <;> simp only [XOp.cls, reduceCtorEq] at hy
  case load m a =>
    simp only [xop] at hx ⊢
    obtain ⟨v, hv, hl⟩ := bindSome (show (ev a).bind (loadA H m) = some x from ofV_v hx)
    have : loadA H' m v = some x := by
      unfold loadA at hl ⊢
      cases hc : cellsAt H v with
      | none => simp [hc] at hl
      | some c => rw [cellsAt_mono h hc]; rw [hc] at hl; exact hl
    rw [hv]
    simp only [Option.bind_some, this, AR.ofV]
  case look ks zero m k ok =>
    simp only [xop] at hx ⊢
    cases he : (ev m).bind (entsA H) with
    | none => simp [he] at hx
    | some es =>
      obtain ⟨v, hv, hes⟩ := bindSome he
      have : (ev m).bind (entsA H') = some es := by rw [hv]; exact entsA_mono h hes
      rw [this]
      rw [he] at hx
      exact hx
  case mlen m =>
    simp only [xop] at hx ⊢
    cases he : (ev m).bind (entsA H) with
    | none => simp [he] at hx
    | some es =>
      obtain ⟨v, hv, hes⟩ := bindSome he
      have : (ev m).bind (entsA H') = some es := by rw [hv]; exact entsA_mono h hes
      rw [this]
      rw [he] at hx
      exact hx
  case bts a =>
    simp only [xop] at hx ⊢
    split at hx
    · rename_i v hv
      split at hx
      · cases hx
      · rename_i l hl
        split at hx
        · cases hx
        · rename_i hns
          obtain ⟨bs, hbs, he⟩ := Option.map_eq_some_iff.1 (show ((srcA H 1 l v).bind bytesA).map AV.str = some x from ofV_v hx)
          obtain ⟨c, hc, hb⟩ := bindSome hbs
          have hc' := srcA_mono h hc
          subst he
          cases v <;> first | exact absurd rfl (hns _) | (simp only [hc', Option.bind_some, hb, Option.map_some, AR.ofV])
    · cases hx
theorem xop_n_heap {ev : XO → Option AV} {H H' : AHeap} {n : Nat} {y : XOp} (hy : y.cls = .n) : xop ev H n y = xop ev H' n y := by
  cases y <;> simp only [XOp.cls, reduceCtorEq] at hy <;> rfl
theorem xop_p_heap {ev : XO → Option AV} {H H' : AHeap} {n n' : Nat} {y : XOp} (hy : y.cls = .p) : xop ev H n y = xop ev H' n' y := by
  cases y <;> simp only [XOp.cls, reduceCtorEq] at hy <;> rfl
theorem xval_heap {cf : CF} {ev : XO → Option AV} {H H1 : AHeap} {n : Nat} {y : XOp} {v : AV} (h : xval cf ev H n y = some (v, H1)) (hy : y.cls ≠ .e) :
    (y.cls = .n ∧ ∃ ob, xop ev H n y = .new v ob ∧ H1 = H.set n (some ob)) ∨ (y.cls ≠ .n ∧ xop ev H n y = .v v ∧ H1 = H) := by
  unfold xval at h
  split at h
  · exact absurd rfl hy
  · split at h
    · cases h
    · rename_i x hx
      cases h
      refine .inr ⟨fun q => ?_, hx, rfl⟩
      cases y <;> simp only [XOp.cls, reduceCtorEq] at q <;> simp only [xop] at hx <;> first | (cases hx; done) | (split at hx <;> cases hx)
    · rename_i x ob hx
      cases h
      exact .inl ⟨xop_new_cls hx, ob, hx, rfl⟩
    · rename_i x H' hx
      exact absurd (xop_eff_cls hx) hy
end Go.Eng
end
section
namespace Go.Eng
variable {P : Program}
def HEq' (H H' : AHeap) : Prop := (∀ i, H.get i = H'.get i) ∧ H.next = H'.next
theorem HEq'.refl (H : AHeap) : HEq' H H := ⟨fun _ => rfl, rfl⟩
theorem HEq'.symm {H H' : AHeap} (h : HEq' H H') : HEq' H' H := ⟨fun i => (h.1 i).symm, h.2.symm⟩
theorem HEq'.trans {H1 H2 H3 : AHeap} (a : HEq' H1 H2) (b : HEq' H2 H3) : HEq' H1 H3 := ⟨fun i => (a.1 i).trans (b.1 i), a.2.trans b.2⟩
theorem RStep.right {E E' : Env} {H H' H'' : AHeap} {w w' : World} {base : Nat} (h : RStep E H w base E' H' w') (hs : ∀ i o, H''.get i = some o → H'.get i = some o) (hn : H''.next = H'.next) : RStep E H w base E' H'' w' where
  ext := h.ext
  rel := ⟨fun i L hi => by rw [hn]; exact h.rel.dom i L hi, h.rel.imm, fun i o hg => h.rel.obj i o (hs i o hg), fun i j o o' L L' hi hj => h.rel.inj i j o o' L L' (hs i o hi) (hs j o' hj)⟩
  fr := h.fr
  nb := fun i o L hg hρ => h.nb i o L (hs i o hg) hρ
  nx := by rw [hn]; exact h.nx
  ids := h.ids
  imm := h.imm
theorem Rel.sub {E : Env} {H H' : AHeap} {w : World} (h : Rel E H w) (hs : ∀ i o, H'.get i = some o → H.get i = some o) (hn : H'.next = H.next) : Rel E H' w :=
  ⟨fun i L hi => by rw [hn]; exact h.dom i L hi, h.imm, fun i o hg => h.obj i o (hs i o hg), fun i j o o' L L' hi hj => h.inj i j o o' L L' (hs i o hi) (hs j o' hj)⟩
theorem RStep.left {E E' : Env} {H H' H0 : AHeap} {w w' : World} {base : Nat} (h : RStep E H w base E' H' w') (hs : ∀ i o, H.get i = some o → ∃ o', H0.get i = some o') (hn : H0.next ≤ H'.next) : RStep E H0 w base E' H' w' where
  ext := h.ext
  rel := h.rel
  fr := ⟨h.fr.os, h.fr.tape, h.fr.output, h.fr.size, fun b hb hnb => h.fr.block b hb (fun i o L hg hρ => by obtain ⟨o', ho'⟩ := hs i o hg; exact hnb i o' L ho' hρ)⟩
  nb := fun i o L hg hρ => by
    rcases h.nb i o L hg hρ with q | ⟨j, o', L', q1, q2, q3⟩
    · exact .inl q
    · obtain ⟨o'', ho''⟩ := hs j o' q1
      exact .inr ⟨j, o'', L', ho'', q2, q3⟩
  nx := hn
  ids := h.ids
  imm := fun b hb => by
    rcases h.imm b hb with q | q | ⟨j, o', L', q1, q2, q3⟩
    · exact .inl q
    · exact .inr (.inl q)
    · obtain ⟨o'', ho''⟩ := hs j o' q1
      exact .inr (.inr ⟨j, o'', L', ho'', q2, q3⟩)
theorem RStep.frame {E E' : Env} {H H' HL HL' : AHeap} {w w' : World} {base : Nat} (h : RStep E H w base E' H' w') (hRL : Rel E HL w) (hsub : ∀ i o, H.get i = some o → HL.get i = some o)
    (hnew : ∀ i o, HL'.get i = some o → H'.get i = some o ∨ (H'.get i = none ∧ H.get i = none ∧ HL.get i = some o)) (hn : HL'.next = H'.next) (hnx : HL.next ≤ H'.next) : RStep E HL w base E' HL' w' := by
  have extra : ∀ i o, H.get i = none → HL.get i = some o → ∃ L, E.ρ i = some L ∧ ObjR E w L o ∧ ¬ E.I L.b ∧ L.b < w.heap.size ∧ (∀ j o' L', H.get j = some o' → E.ρ j = some L' → L'.b ≠ L.b) := by
    intro i o h1 h2
    obtain ⟨L, q1, q2, q3⟩ := hRL.obj i o h2
    refine ⟨L, q1, q2, q3, (hRL.dom i L q1).2, fun j o' L' hj hρ => ?_⟩
    refine hRL.inj j i o' o L' L (hsub j o' hj) h2 hρ q1 (fun e => ?_)
    subst e
    rw [h1] at hj
    cases hj
  have far : ∀ i o, H.get i = none → HL.get i = some o → ∀ L, E'.ρ i = some L → (∀ j o' L', H'.get j = some o' → E'.ρ j = some L' → L'.b ≠ L.b) := by
    intro i o h1 h2 L hL j o' L' hj hρ e
    obtain ⟨L0, q1, q2, q3, q4, q5⟩ := extra i o h1 h2
    have hL0 := h.ext.ρ i L0 q1
    rw [hL] at hL0
    cases hL0
    rcases h.nb j o' L' hj hρ with q | ⟨k, ok, Lk, k1, k2, k3⟩
    · omega
    · exact q5 k ok Lk k1 k2 (k3.trans e)
  refine ⟨h.ext, ⟨fun i L hi => by rw [hn]; exact h.rel.dom i L hi, h.rel.imm, ?_, ?_⟩, ?_, ?_, by rw [hn]; exact hnx, h.ids, ?_⟩
  · intro i o hg
    rcases hnew i o hg with q | ⟨q0, q1, q2⟩
    · exact h.rel.obj i o q
    · obtain ⟨L, l1, l2, l3, l4, l5⟩ := extra i o q1 q2
      refine ⟨L, h.ext.ρ i L l1, ObjR.mono h.ext (h.fr.block L.b l4 l5) l2, fun hI => ?_⟩
      rcases h.imm L.b hI with q | q | ⟨j, o', L', j1, j2, j3⟩
      · exact l3 q
      · omega
      · exact l5 j o' L' j1 j2 j3
  · intro i j o o' L L' hi hj hρi hρj hne
    rcases hnew i o hi with q | ⟨q0, q1, q2⟩
    · rcases hnew j o' hj with r | ⟨r0, r1, r2⟩
      · exact h.rel.inj i j o o' L L' q r hρi hρj hne
      · exact far j o' r1 r2 L' hρj i o L q hρi
    · rcases hnew j o' hj with r | ⟨r0, r1, r2⟩
      · exact (far i o q1 q2 L hρi j o' L' r hρj).symm
      · obtain ⟨Li, l1, _⟩ := extra i o q1 q2
        obtain ⟨Lj, m1, _⟩ := extra j o' r1 r2
        have e1 := h.ext.ρ i Li l1
        have e2 := h.ext.ρ j Lj m1
        rw [hρi] at e1
        rw [hρj] at e2
        cases e1; cases e2
        exact hRL.inj i j o o' L L' q2 r2 l1 m1 hne
  · exact ⟨h.fr.os, h.fr.tape, h.fr.output, h.fr.size, fun b hb hnb => h.fr.block b hb (fun i o L hg hρ => hnb i o L (hsub i o hg) hρ)⟩
  · intro i o L hg hρ
    rcases hnew i o hg with q | ⟨q0, q1, q2⟩
    · rcases h.nb i o L q hρ with r | ⟨j, o', L', r1, r2, r3⟩
      · exact .inl r
      · exact .inr ⟨j, o', L', hsub j o' r1, r2, r3⟩
    · obtain ⟨L0, l1, _⟩ := extra i o q1 q2
      have e1 := h.ext.ρ i L0 l1
      rw [hρ] at e1
      cases e1
      exact .inr ⟨i, o, L, q2, l1, rfl⟩
  · intro b hb
    rcases h.imm b hb with q | q | ⟨j, o', L', q1, q2, q3⟩
    · exact .inl q
    · exact .inr (.inl q)
    · exact .inr (.inr ⟨j, o', L', hsub j o' q1, q2, q3⟩)
def Closed (ops : List Oper) (L : Nat → Bool) : Prop := ∀ i o, L i = true → ops[i]? = some o → ∀ p ∈ predsOf o, L p = true
theorem ancs_spec (ops : List Oper) : ∀ (r : List Oper) (acc : List (List Nat)), (∀ k o, r[k]? = some o → ops[acc.length + k]? = some o) →
    (∀ j i, i ∈ acc.getD j [] → ∀ o, ops[j]? = some o → ∀ L, Closed ops L → (∀ p ∈ predsOf o, L p = true) → L i = true) →
    ∀ j i, i ∈ (ancsGo acc r).getD j [] → ∀ o, ops[j]? = some o → ∀ L, Closed ops L → (∀ p ∈ predsOf o, L p = true) → L i = true
  | [], acc, _, h => h
  | o :: r, acc, hr, h => by
    rw [ancsGo]
    refine ancs_spec ops r _ (fun k o' hk => ?_) (fun j i hi o' ho' L hL hp => ?_)
    · have := hr (k + 1) o' (by simpa using hk)
      rw [List.length_append, List.length_singleton]
      rw [← this]
      congr 1
      omega
    · rw [List.getD_eq_getElem?_getD] at hi
      by_cases hj : j < acc.length
      · rw [List.getElem?_append_left hj] at hi
        exact h j i (by rw [List.getD_eq_getElem?_getD]; exact hi) o' ho' L hL hp
      · by_cases hj2 : j = acc.length
        · subst hj2
          have h0 := hr 0 o rfl
          rw [Nat.add_zero] at h0
          rw [h0] at ho'
          cases ho'
          rw [List.getElem?_append_right (Nat.le_refl _), Nat.sub_self, List.getElem?_cons_zero, Option.getD_some, List.mem_eraseDups, List.mem_append] at hi
          rcases hi with hi | hi
          · exact hp i hi
          · rw [List.mem_flatten] at hi
            obtain ⟨l, hl, hil⟩ := hi
            rw [List.mem_map] at hl
            obtain ⟨p, hpm, rfl⟩ := hl
            have hLp := hp p hpm
            cases hop : ops[p]? with
            | none =>
              -- no such operation: nothing stands there
              exfalso
              rw [List.getD_eq_getElem?_getD] at hil
              cases hap : acc[p]? with
              | none => rw [hap] at hil; simp at hil
              | some q =>
                have : p < acc.length := by
                  rcases Nat.lt_or_ge p acc.length with z | z
                  · exact z
                  · rw [List.getElem?_eq_none z] at hap; cases hap
                have hlen : acc.length < ops.length := by
                  rcases Nat.lt_or_ge acc.length ops.length with z | z
                  · exact z
                  · rw [List.getElem?_eq_none z] at h0; cases h0
                rw [List.getElem?_eq_none_iff] at hop
                omega
            | some op => exact h p i hil op hop L hL (hL p op hLp hop)
        · rw [List.getElem?_append_right (by omega)] at hi
          have : ([(predsOf o ++ ((predsOf o).map fun p => acc.getD p []).flatten).eraseDups])[j - acc.length]? = none := by
            rw [List.getElem?_eq_none_iff]
            simp
            omega
          rw [this] at hi
          simp at hi
structure Reg (P : Program) (cf : CF) (ops : Array Oper) (xs : List XOper) (A : List (List Nat)) (base : Nat) (S : Nat → St) : Prop where
  len : xs.length = ops.size
  comp : ∀ (i : Nat) (x : XOper), xs[i]? = some x → ∃ o, ops[i]? = some o ∧ compOper P ops o = some x
  step : ∀ (i : Nat) (x : XOper), xs[i]? = some x → xstep cf (S i) (base + i) x = some (S (i + 1))
  back : ∀ (j : Nat) (o : Oper), ops[j]? = some o → ∀ p ∈ predsOf o, p < j
  pair : ∀ (i j : Nat) (x y : XOper), i < j → xs[i]? = some x → xs[j]? = some y → i ∈ A.getD j [] ∨ (freePair x.op.cls y.op.cls = true ∧ apartX x y = true)
  anc : ∀ (j i : Nat), i ∈ A.getD j [] → ∀ o, ops[j]? = some o → ∀ L, Closed ops.toList L → (∀ p ∈ predsOf o, L p = true) → L i = true
  fresh : ∀ (k : Nat) (x : XOper), xs[k]? = some x → x.op.cls = .n → ∀ i, i ≤ xs.length → (i ≤ k ∨ wantedA (S k).tm x = some false) → (S i).H.get (base + k) = none
section
variable {cf : CF} {ops : Array Oper} {xs : List XOper} {A : List (List Nat)} {base : Nat} {S : Nat → St}
theorem xstep_tm {s s' : St} {n : Nat} {o : XOper} (h : xstep cf s n o = some s') : ∃ v, s'.tm = putT s.tm o.dst v := by
  unfold xstep at h
  split at h
  · split at h
    · cases h; exact ⟨_, rfl⟩
    · cases h
  · cases h; exact ⟨_, rfl⟩
  · cases h
theorem putT_get (tm : Tr AV) (d : Option Nat) (v : AV) (t : Nat) : (putT tm d v).get t = if d = some t then some v else tm.get t := by
  cases d with
  | none => simp [putT]
  | some d =>
    simp only [putT, Tr.get_set, Option.some.injEq]
    by_cases h : t = d
    · subst h; simp
    · rw [if_neg h, if_neg (fun e => h e.symm)]
def dstAt (xs : List XOper) (k : Nat) : Option Nat := (xs[k]?).bind (·.dst)
def tmK (xs : List XOper) (S : Nat → St) (L : Nat → Bool) : Nat → Tr AV
  | 0 => (S 0).tm
  | k + 1 => if L k = true then (match dstAt xs k with | some d => (tmK xs S L k).set d ((S (k + 1)).tm.get d) | none => tmK xs S L k) else tmK xs S L k
theorem tmK_agree {L M : Nat → Bool} {t : Nat} : ∀ (k : Nat), (∀ i, i < k → dstAt xs i = some t → L i = M i) → (tmK xs S L k).get t = (tmK xs S M k).get t
  | 0, _ => rfl
  | k + 1, h => by
    have ih := tmK_agree (L := L) (M := M) (t := t) k (fun i hi => h i (by omega))
    simp only [tmK]
    cases hd : dstAt xs k with
    | none => simp only [ite_self]; exact ih
    | some d =>
      simp only
      by_cases e : d = t
      · subst e
        rw [h k (by omega) hd]
        split
        · simp [Tr.get_set]
        · exact ih
      · have g : ∀ (T : Tr AV) (v : Option AV), (T.set d v).get t = T.get t := fun T v => Tr.get_set_ne _ _ (fun q => e q.symm)
        split <;> split <;> simp only [g, ih]
theorem tmK_canon (R : Reg P cf ops xs A base S) {j t : Nat} : ∀ (k : Nat), k ≤ xs.length → (tmK xs S (fun i => decide (i < j)) k).get t = (S (min k j)).tm.get t
  | 0, _ => by simp [tmK]
  | k + 1, h => by
    have ih := tmK_canon R (j := j) (t := t) k (by omega)
    obtain ⟨x, hx⟩ : ∃ x, xs[k]? = some x := ⟨xs[k], List.getElem?_eq_getElem (by omega)⟩
    obtain ⟨v, hv⟩ := xstep_tm (R.step k x hx)
    simp only [tmK]
    by_cases hk : k < j
    · have e1 : min (k + 1) j = k + 1 := by omega
      have e2 : min k j = k := by omega
      rw [e2] at ih
      rw [e1, if_pos (by simpa using hk)]
      have hd : dstAt xs k = x.dst := by simp [dstAt, hx]
      rw [hd]
      cases hxd : x.dst with
      | none =>
        simp only
        rw [ih, hv, hxd]
        rfl
      | some d =>
        simp only [Tr.get_set]
        by_cases e : t = d
        · subst e; simp
        · rw [if_neg e, ih, hv, putT_get, hxd, if_neg (by simpa using fun q => e q.symm)]
    · have e1 : min (k + 1) j = j := by omega
      have e2 : min k j = j := by omega
      rw [e2] at ih
      rw [e1, if_neg (by simpa using hk)]
      exact ih
theorem tmK_last {L : Nat → Bool} {j t : Nat} (hj : L j = true) (hd : dstAt xs j = some t) : ∀ (k : Nat), j < k → (∀ i, j < i → i < k → dstAt xs i = some t → L i = false) → (tmK xs S L k).get t = (S (j + 1)).tm.get t
  | 0, h, _ => by omega
  | k + 1, h, hl => by
    simp only [tmK]
    by_cases e : k = j
    · subst e
      rw [if_pos hj, hd]
      simp [Tr.get_set]
    · have ih := tmK_last hj hd k (by omega) (fun i h1 h2 => hl i h1 (by omega))
      cases hdk : dstAt xs k with
      | none => simp only [ite_self]; exact ih
      | some d =>
        simp only
        by_cases e' : d = t
        · subst e'
          have := hl k (by omega) (by omega) hdk
          rw [if_neg (by simp [this])]
          exact ih
        · split
          · rw [Tr.get_set_ne _ _ (fun q => e' q.symm)]
            exact ih
          · exact ih
def isC (xs : List XOper) (c : Cls) (k : Nat) : Bool := match xs[k]? with | some x => x.op.cls == c | none => false
def hK (xs : List XOper) (S : Nat → St) (base : Nat) (L : Nat → Bool) (g : Nat) : Nat → AHeap
  | 0 => (S g).H
  | k + 1 => if isC xs .n k then (if L k = true then (if k < g then hK xs S base L g k else (hK xs S base L g k).set (base + k) ((S (k + 1)).H.get (base + k))) else (hK xs S base L g k).set (base + k) none) else hK xs S base L g k
theorem hK_next {L : Nat → Bool} {g : Nat} : ∀ k, (hK xs S base L g k).next = (S g).H.next
  | 0 => rfl
  | k + 1 => by
    simp only [hK]
    split
    · split
      · split
        · exact hK_next k
        · exact hK_next k
      · exact hK_next k
    · exact hK_next k
theorem hK_other {L : Nat → Bool} {g id : Nat} : ∀ k, (∀ i, i < k → isC xs .n i = true → id ≠ base + i) → (hK xs S base L g k).get id = (S g).H.get id
  | 0, _ => rfl
  | k + 1, h => by
    have ih := hK_other (L := L) (g := g) (id := id) k (fun i hi => h i (by omega))
    simp only [hK]
    split
    · rename_i hn
      have hne := h k (by omega) hn
      split
      · split
        · exact ih
        · rw [AHeap.get_set, if_neg hne]; exact ih
      · rw [AHeap.get_set, if_neg hne]; exact ih
    · exact ih
theorem hK_at {L : Nat → Bool} {g i : Nat} (hn : isC xs .n i = true) : ∀ k, i < k → (hK xs S base L g k).get (base + i) = if L i = true then (if i < g then (S g).H.get (base + i) else (S (i + 1)).H.get (base + i)) else none
  | 0, h => by omega
  | k + 1, h => by
    by_cases e : i = k
    · subst e
      have ho := hK_other (xs := xs) (S := S) (base := base) (L := L) (g := g) (id := base + i) i (fun j hj _ => by omega)
      simp only [hK, hn, if_true]
      split
      · split
        · exact ho
        · rw [AHeap.get_set, if_pos rfl]
      · rw [AHeap.get_set, if_pos rfl]
    · have ih := hK_at (L := L) (g := g) hn k (by omega)
      simp only [hK]
      have hne : base + i ≠ base + k := by omega
      split
      · split
        · split
          · exact ih
          · rw [AHeap.get_set, if_neg hne]; exact ih
        · rw [AHeap.get_set, if_neg hne]; exact ih
      · exact ih
theorem step_heap (R : Reg P cf ops xs A base S) {i : Nat} {x : XOper} (hx : xs[i]? = some x) (he : x.op.cls ≠ .e) :
    (S (i + 1)).H.next = (S i).H.next ∧ ∀ id, (isC xs .n i = true → id ≠ base + i) → (S (i + 1)).H.get id = (S i).H.get id := by
  have h := R.step i x hx
  unfold xstep at h
  split at h
  · split at h
    · rename_i v H hv
      cases hs : S (i + 1) with
      | mk tm' H' =>
        rw [hs] at h
        simp only [Option.some.injEq, St.mk.injEq] at h
        obtain ⟨_, rfl⟩ := h
        rcases xval_heap hv he with ⟨hn, ob, _, rfl⟩ | ⟨_, _, rfl⟩
        · refine ⟨rfl, fun id hid => ?_⟩
          rw [AHeap.get_set, if_neg (hid (by simp [isC, hx, hn]))]
        · exact ⟨rfl, fun _ _ => rfl⟩
    · cases h
  · cases hs : S (i + 1) with
    | mk tm' H' =>
      rw [hs] at h
      simp only [Option.some.injEq, St.mk.injEq] at h
      obtain ⟨_, rfl⟩ := h
      exact ⟨rfl, fun _ _ => rfl⟩
  · cases h
theorem interval (R : Reg P cf ops xs A base S) {g : Nat} : ∀ (d : Nat), g + d ≤ xs.length → (∀ i, g ≤ i → i < g + d → isC xs .e i = false) →
    (S (g + d)).H.next = (S g).H.next ∧ ∀ id, (∀ i, g ≤ i → i < g + d → isC xs .n i = true → id ≠ base + i) → (S (g + d)).H.get id = (S g).H.get id
  | 0, _, _ => ⟨rfl, fun _ _ => rfl⟩
  | d + 1, h, he => by
    obtain ⟨q1, q2⟩ := interval R (g := g) d (by omega) (fun i h1 h2 => he i h1 (by omega))
    obtain ⟨x, hx⟩ : ∃ x, xs[g + d]? = some x := ⟨xs[g + d], List.getElem?_eq_getElem (by omega)⟩
    have hne : x.op.cls ≠ .e := by
      have := he (g + d) (by omega) (by omega)
      simp only [isC, hx] at this
      intro q
      rw [q] at this
      simp at this
    obtain ⟨r1, r2⟩ := step_heap R hx hne
    refine ⟨r1.trans q1, fun id hid => ?_⟩
    rw [show g + (d + 1) = g + d + 1 by omega, r2 id (fun hn => hid (g + d) (by omega) (by omega) hn), q2 id (fun i h1 h2 hn => hid i h1 (by omega) hn)]
def Valid (xs : List XOper) (L : Nat → Bool) (g : Nat) : Prop := g ≤ xs.length ∧ ∀ i, i < xs.length → isC xs .e i = true → (L i = true ↔ i < g)
theorem hK_shift (R : Reg P cf ops xs A base S) {L : Nat → Bool} {g d : Nat} (h1 : Valid xs L g) (h2 : Valid xs L (g + d)) : HEq' (hK xs S base L g xs.length) (hK xs S base L (g + d) xs.length) := by
  have he : ∀ i, g ≤ i → i < g + d → isC xs .e i = false := by
    intro i q1 q2
    cases hi : isC xs .e i with
    | false => rfl
    | true =>
      have hlt : i < xs.length := by have := h2.1; omega
      have a := (h1.2 i hlt hi)
      have b := (h2.2 i hlt hi)
      have := a.1 (b.2 q2)
      omega
  obtain ⟨q1, q2⟩ := interval R d h2.1 he
  refine ⟨fun id => ?_, by rw [hK_next, hK_next, q1]⟩
  by_cases hex : ∃ i, i < xs.length ∧ isC xs .n i = true ∧ id = base + i
  · obtain ⟨i, hi, hn, rfl⟩ := hex
    rw [hK_at hn _ hi, hK_at hn _ hi]
    split
    · by_cases c1 : i < g
      · rw [if_pos c1, if_pos (by omega)]
        exact (q2 _ (fun k k1 k2 _ => by omega)).symm
      · rw [if_neg c1]
        by_cases c2 : i < g + d
        · rw [if_pos c2]
          obtain ⟨r1, r2⟩ := interval R (g := i + 1) (g + d - (i + 1)) (by have := h2.1; omega) (fun k k1 k2 => he k (by omega) (by omega))
          have := r2 (base + i) (fun k k1 k2 _ => by omega)
          rw [show i + 1 + (g + d - (i + 1)) = g + d by omega] at this
          exact this.symm
        · rw [if_neg c2]
    · rfl
  · rw [hK_other _ (fun i hi hn e => hex ⟨i, hi, hn, e⟩), hK_other _ (fun i hi hn e => hex ⟨i, hi, hn, e⟩)]
    refine (q2 id (fun k k1 k2 hn e => ?_)).symm
    exact hex ⟨k, by have := h2.1; omega, hn, e⟩
theorem hK_any (R : Reg P cf ops xs A base S) {L : Nat → Bool} {g g' : Nat} (h1 : Valid xs L g) (h2 : Valid xs L g') : HEq' (hK xs S base L g xs.length) (hK xs S base L g' xs.length) := by
  rcases Nat.le_total g g' with h | h
  · have := hK_shift R (d := g' - g) h1 (by rw [show g + (g' - g) = g' by omega]; exact h2)
    rwa [show g + (g' - g) = g' by omega] at this
  · have := hK_shift R (d := g - g') h2 (by rw [show g' + (g - g') = g by omega]; exact h1)
    rw [show g' + (g - g') = g by omega] at this
    exact this.symm
end
end Go.Eng
end
section
namespace Go.Eng
variable {P : Program}
section
variable {cf : CF} {ops : Array Oper} {xs : List XOper} {A : List (List Nat)} {base : Nat} {S : Nat → St}
def Loose (xs : List XOper) (A : List (List Nat)) (base : Nat) (S : Nat → St) : Prop :=
  ∀ (j : Nat) (x : XOper), xs[j]? = some x → x.op.cls = .r → wantedA (S j).tm x = some true → ∃ (v : AV) (es : List Nat), (∀ i, isC xs .e i = true → i ∉ A.getD j [] → j ∉ A.getD i [] → i ∈ es) ∧
    ∀ i, (i = j ∨ i ∈ es ∨ ∃ e ∈ es, i = e + 1) → ∃ Hs : AHeap, Hs.Le (S i).H ∧ (∀ k, isC xs .n k = true → (k ∉ A.getD j [] ∨ i ≤ k) → Hs.get (base + k) = none) ∧ xop (St.ev (S j).tm) Hs 0 x.op = .v v
theorem HEq'.le {H H' : AHeap} (h : HEq' H H') : H.Le H' := fun i o hi => by rw [← h.1 i]; exact hi
theorem AHeap.Le.trans {H1 H2 H3 : AHeap} (a : H1.Le H2) (b : H2.Le H3) : H1.Le H3 := fun i o h => b i o (a i o h)
theorem valid_down {L : Nat → Bool} : ∀ g, Valid xs L g → ∃ g', Valid xs L g' ∧ (g' = 0 ∨ ∃ p, g' = p + 1 ∧ isC xs .e p = true)
  | 0, h => ⟨0, h, .inl rfl⟩
  | g + 1, h => by
    by_cases hc : isC xs .e g = true
    · exact ⟨g + 1, h, .inr ⟨g, rfl, hc⟩⟩
    · refine valid_down g ⟨by have := h.1; omega, fun i hi he => ?_⟩
      rw [h.2 i hi he]
      have : i ≠ g := fun e => hc (e ▸ he)
      omega
theorem valid_up {L : Nat → Bool} : ∀ d g, g + d = xs.length → Valid xs L g → ∃ g', Valid xs L g' ∧ (g' = xs.length ∨ (g' < xs.length ∧ isC xs .e g' = true))
  | 0, g, hd, h => ⟨g, h, .inl (by omega)⟩
  | d + 1, g, hd, h => by
    by_cases hc : isC xs .e g = true
    · exact ⟨g, h, .inr ⟨by omega, hc⟩⟩
    · refine valid_up d (g + 1) (by omega) ⟨by omega, fun i hi he => ?_⟩
      rw [h.2 i hi he]
      have : i ≠ g := fun e => hc (e ▸ he)
      omega
theorem below_closed (R : Reg P cf ops xs A base S) (j : Nat) : Closed ops.toList (fun i => decide (i < j)) := by
  intro i o hi ho p hp
  have := R.back i o (by simpa using ho) p hp
  simp only [decide_eq_true_eq] at hi ⊢
  omega
theorem anc_lt (R : Reg P cf ops xs A base S) {i j : Nat} {o : Oper} (ho : ops[j]? = some o) (h : i ∈ A.getD j []) : i < j := by
  have := R.anc j i h o ho _ (below_closed R j) (fun p hp => by simpa using R.back j o ho p hp)
  simpa using this
theorem hK_congr {L M : Nat → Bool} {g : Nat} : ∀ k, (∀ i, i < k → isC xs .n i = true → L i = M i) → hK xs S base L g k = hK xs S base M g k
  | 0, _ => rfl
  | k + 1, h => by
    have ih := hK_congr (L := L) (M := M) (g := g) k (fun i hi => h i (by omega))
    simp only [hK, ih]
    by_cases hn : isC xs .n k = true
    · rw [h k (by omega) hn]
    · simp only [hn, Bool.false_eq_true, if_false]
theorem isC_of {c : Cls} {i : Nat} {x : XOper} (h : xs[i]? = some x) : isC xs c i = (x.op.cls == c) := by simp [isC, h]
theorem ev_congr {tm tm' : Tr AV} {x : XOper} (h : ∀ t, x.looks t = true → tm.get t = tm'.get t) : ∀ y ∈ x.op.opnds, St.ev tm y = St.ev tm' y := by
  intro y hy
  cases y with
  | t n =>
    simp only [St.ev]
    refine h n ?_
    simp only [XOper.looks, Bool.or_eq_true, List.any_eq_true]
    exact .inl ⟨_, hy, by simp⟩
  | _ => rfl
theorem wanted_congr {tm tm' : Tr AV} {x : XOper} (h : ∀ t, x.looks t = true → tm.get t = tm'.get t) : wantedA tm x = wantedA tm' x := by
  unfold wantedA
  cases hg : x.guard with
  | none => rfl
  | some p =>
    obtain ⟨d, b⟩ := p
    simp only
    rw [h d (by simp [XOper.looks, hg])]
theorem xval_of_v {ev : XO → Option AV} {H : AHeap} {n : Nat} {y : XOp} {v : AV} (hy : y.cls ≠ .e) (h : xop ev H n y = .v v) : xval cf ev H n y = some (v, H) := by
  cases y <;> first | exact absurd rfl hy | simp only [xval, h]
theorem xval_of_new {ev : XO → Option AV} {H : AHeap} {n : Nat} {y : XOp} {v : AV} {ob : AObj} (hy : y.cls ≠ .e) (h : xop ev H n y = .new v ob) : xval cf ev H n y = some (v, H.set n (some ob)) := by
  cases y <;> first | exact absurd rfl hy | simp only [xval, h]
structure Nxt (P : Program) (ops : Array Oper) (xs : List XOper) (L M : Nat → Bool) (j : Nat) (o : Oper) (x : XOper) : Prop where
  ho : ops[j]? = some o
  hx : xs[j]? = some x
  hc : compOper P ops o = some x
  closed : Closed ops.toList L
  preds : ∀ p ∈ predsOf o, L p = true
  out : L j = false
  mj : M j = true
  mo : ∀ i, i ≠ j → M i = L i
theorem Nxt.free (R : Reg P cf ops xs A base S) {L M : Nat → Bool} {j : Nat} {o : Oper} {x : XOper} (N : Nxt P ops xs L M j o x) {i : Nat} {y : XOper} (hy : xs[i]? = some y) :
    (i < j → L i = false → freePair y.op.cls x.op.cls = true ∧ apartX y x = true) ∧ (j < i → L i = true → freePair x.op.cls y.op.cls = true ∧ apartX x y = true) := by
  refine ⟨fun hij hL => ?_, fun hij hL => ?_⟩
  · rcases R.pair i j y x hij hy N.hx with q | q
    · have := R.anc j i q o N.ho L N.closed N.preds
      rw [hL] at this
      cases this
    · exact q
  · rcases R.pair j i x y hij N.hx hy with q | q
    · obtain ⟨o', ho', _⟩ := R.comp i y hy
      have := R.anc i j q o' ho' L N.closed (fun p hp => N.closed i o' hL (by simpa using ho') p hp)
      rw [N.out] at this
      cases this
    · exact q
theorem Nxt.apart (R : Reg P cf ops xs A base S) {L M : Nat → Bool} {j : Nat} {o : Oper} {x : XOper} (N : Nxt P ops xs L M j o x) {i t : Nat} (hij : i ≠ j) (hL : L i ≠ decide (i < j)) (hd : dstAt xs i = some t) :
    x.looks t = false ∧ x.dst ≠ some t := by
  unfold dstAt at hd
  cases hy : xs[i]? with
  | none => rw [hy] at hd; cases hd
  | some y =>
    rw [hy] at hd
    simp only [Option.bind_some] at hd
    obtain ⟨f1, f2⟩ := N.free R hy
    by_cases h : i < j
    · have : L i = false := by
        cases hLi : L i with
        | false => rfl
        | true => exact absurd (by rw [hLi]; simp [h]) hL
      have := (f1 h this).2
      simp only [apartX, hd, Bool.and_eq_true, Bool.not_eq_true', bne_iff_ne] at this
      exact ⟨this.1.1, this.1.2⟩
    · have : L i = true := by
        cases hLi : L i with
        | true => rfl
        | false => exact absurd (by rw [hLi]; simp [h]) hL
      have := (f2 (by omega) this).2
      simp only [apartX, hd, Bool.and_eq_true, Bool.not_eq_true'] at this
      refine ⟨this.2, fun e => ?_⟩
      have := this.1
      rw [e] at this
      simp at this
theorem Nxt.reads (R : Reg P cf ops xs A base S) {L M : Nat → Bool} {j : Nat} {o : Oper} {x : XOper} (N : Nxt P ops xs L M j o x) {t : Nat} (ht : x.looks t = true) : (tmK xs S L xs.length).get t = (S j).tm.get t := by
  have hj : j < xs.length := by
    rcases Nat.lt_or_ge j xs.length with h | h
    · exact h
    · have := N.hx
      rw [List.getElem?_eq_none h] at this
      cases this
  rw [tmK_agree (M := fun i => decide (i < j)) xs.length (fun i hi hd => ?_), tmK_canon R xs.length (Nat.le_refl _), Nat.min_eq_right (by omega)]
  by_cases hij : i = j
  · subst hij
    rw [N.out]
    simp
  · by_cases hL : L i = decide (i < j)
    · exact hL
    · have := (N.apart R hij hL hd).1
      rw [ht] at this
      cases this
theorem Nxt.tms (R : Reg P cf ops xs A base S) {L M : Nat → Bool} {j : Nat} {o : Oper} {x : XOper} (N : Nxt P ops xs L M j o x) {v : AV} (hv : (S (j + 1)).tm = putT (S j).tm x.dst v) (t : Nat) :
    (tmK xs S M xs.length).get t = (putT (tmK xs S L xs.length) x.dst v).get t := by
  have hj : j < xs.length := by
    rcases Nat.lt_or_ge j xs.length with h | h
    · exact h
    · have := N.hx
      rw [List.getElem?_eq_none h] at this
      cases this
  have hdj : dstAt xs j = x.dst := by simp [dstAt, N.hx]
  rw [putT_get]
  by_cases hd : x.dst = some t
  · rw [if_pos hd, tmK_last N.mj (hdj.trans hd) xs.length hj (fun i h1 h2 h3 => ?_), hv, putT_get, if_pos hd]
    rw [N.mo i (by omega)]
    cases hLi : L i with
    | false => rfl
    | true => exact absurd hd (N.apart R (i := i) (by omega) (by rw [hLi]; simp; omega) h3).2
  · rw [if_neg hd]
    refine (tmK_agree xs.length (fun i hi h => ?_)).symm
    refine (N.mo i (fun e => hd ?_)).symm
    subst e
    rw [← hdj]; exact h
theorem Nxt.valid_of (R : Reg P cf ops xs A base S) {L M : Nat → Bool} {j : Nat} {o : Oper} {x : XOper} (N : Nxt P ops xs L M j o x) (he : x.op.cls = .e) : Valid xs L j ∧ Valid xs M (j + 1) := by
  have hj : j < xs.length := by
    rcases Nat.lt_or_ge j xs.length with h | h
    · exact h
    · have := N.hx
      rw [List.getElem?_eq_none h] at this
      cases this
  have key : ∀ i, i < xs.length → isC xs .e i = true → i ≠ j → (L i = true ↔ i < j) := by
    intro i hi hc hij
    have hy : xs[i]? = some xs[i] := List.getElem?_eq_getElem hi
    obtain ⟨f1, f2⟩ := N.free R hy
    rw [isC_of hy, beq_iff_eq] at hc
    constructor
    · intro hL
      rcases Nat.lt_or_ge i j with h | h
      · exact h
      · have := (f2 (by omega) hL).1
        rw [hc, he] at this
        cases this
    · intro h
      cases hL : L i with
      | true => rfl
      | false =>
        have := (f1 h hL).1
        rw [hc, he] at this
        cases this
  refine ⟨⟨by omega, fun i hi hc => ?_⟩, ⟨by omega, fun i hi hc => ?_⟩⟩
  · by_cases e : i = j
    · subst e; rw [N.out]; simp
    · exact key i hi hc e
  · by_cases e : i = j
    · subst e; rw [N.mj]; simp
    · rw [N.mo i e, key i hi hc e]; omega
theorem Nxt.valid_n (R : Reg P cf ops xs A base S) {L M : Nat → Bool} {j : Nat} {o : Oper} {x : XOper} (N : Nxt P ops xs L M j o x) (hn : x.op.cls = .n) {g : Nat} (hg : Valid xs L g) : ∃ g', g' ≤ j ∧ Valid xs L g' := by
  rcases Nat.le_total g j with h | h
  · exact ⟨g, h, hg⟩
  · refine ⟨j, Nat.le_refl _, Nat.le_trans h hg.1, fun i hi hc => ?_⟩
    have hy : xs[i]? = some xs[i] := List.getElem?_eq_getElem hi
    have hij : i ≠ j := by
      intro e
      subst e
      rw [isC_of N.hx, hn] at hc
      cases hc
    rw [hg.2 i hi hc]
    constructor
    · intro hlt
      rcases Nat.lt_or_ge i j with q | q
      · exact q
      · have := ((N.free R hy).2 (by omega) ((hg.2 i hi hc).2 hlt)).1
        rw [isC_of hy, beq_iff_eq] at hc
        rw [hc, hn] at this
        cases this
    · intro q; omega
theorem Valid.next {L M : Nat → Bool} {j g : Nat} (hg : Valid xs L g) (hj : isC xs .e j = false) (mo : ∀ i, i ≠ j → M i = L i) : Valid xs M g :=
  ⟨hg.1, fun i hi hc => by
    rw [mo i (fun e => by subst e; rw [hj] at hc; cases hc)]
    exact hg.2 i hi hc⟩
end
end Go.Eng
end
section
namespace Go.Eng
variable {P : Program}
section
variable {cf : CF} {ops : Array Oper} {xs : List XOper} {A : List (List Nat)} {base : Nat} {S : Nat → St}
theorem Nxt.lt {L M : Nat → Bool} {j : Nat} {o : Oper} {x : XOper} (N : Nxt P ops xs L M j o x) : j < xs.length := by
  rcases Nat.lt_or_ge j xs.length with h | h
  · exact h
  · have := N.hx
    rw [List.getElem?_eq_none h] at this
    cases this
theorem loose_le (R : Reg P cf ops xs A base S) {L : Nat → Bool} {j : Nat} (hA : ∀ k, k ∈ A.getD j [] → L k = true) {i : Nat} (hi : i ≤ xs.length) {Hs : AHeap} (h1 : Hs.Le (S i).H) (h2 : ∀ k, isC xs .n k = true → (k ∉ A.getD j [] ∨ i ≤ k) → Hs.get (base + k) = none) :
    Hs.Le (hK xs S base L i xs.length) := by
  intro id ob hid
  by_cases hex : ∃ k, k < xs.length ∧ isC xs .n k = true ∧ id = base + k
  · obtain ⟨k, hk, hn, rfl⟩ := hex
    rw [hK_at hn _ hk]
    by_cases hm : k ∈ A.getD j []
    · rw [if_pos (hA k hm)]
      by_cases hki : k < i
      · rw [if_pos hki]; exact h1 _ _ hid
      · rw [h2 k hn (.inr (by omega))] at hid; cases hid
    · rw [h2 k hn (.inl hm)] at hid; cases hid
  · rw [hK_other _ (fun k hk hn e => hex ⟨k, hk, hn, e⟩)]
    exact h1 _ _ hid
theorem Nxt.read (R : Reg P cf ops xs A base S) (hL : Loose xs A base S) {L M : Nat → Bool} {j : Nat} {o : Oper} {x : XOper} (N : Nxt P ops xs L M j o x) (hr : x.op.cls = .r) (hw : wantedA (S j).tm x = some true)
    {g : Nat} (hg : Valid xs L g) : ∃ v, (S (j + 1)).tm = putT (S j).tm x.dst v ∧ xop (St.ev (S j).tm) (hK xs S base L g xs.length) (base + j) x.op = .v v := by
  obtain ⟨v, es, he, hi⟩ := hL j x N.hx hr hw
  have hA : ∀ k, k ∈ A.getD j [] → L k = true := fun k hk => R.anc j k hk o N.ho L N.closed N.preds
  -- the value in the text's order
  have hv : (S (j + 1)).tm = putT (S j).tm x.dst v := by
    obtain ⟨Hs, q1, q2, q3⟩ := hi j (.inl rfl)
    have hs := R.step j x N.hx
    unfold xstep at hs
    rw [hw] at hs
    simp only at hs
    split at hs
    · rename_i v' H hv'
      rcases xval_heap hv' (by rw [hr]; simp) with ⟨q, _⟩ | ⟨_, q, _⟩
      · rw [hr] at q; cases q
      · have := xop_r_mono q1 (n' := base + j) hr q3
        rw [q] at this
        cases this
        have := Option.some.inj hs
        rw [← this]
    · cases hs
  refine ⟨v, hv, ?_⟩
  -- a place where it was looked at
  have key : ∃ i, (i = j ∨ i ∈ es ∨ ∃ e ∈ es, i = e + 1) ∧ Valid xs L i := by
    have inEs : ∀ e, isC xs .e e = true → (e < j ∧ L e = false) ∨ (j < e ∧ L e = true) → e ∈ es := by
      intro e hc h
      refine he e hc (fun q => ?_) (fun q => ?_)
      · rcases h with h | h
        · rw [hA e q] at h; cases h.2
        · have := anc_lt R N.ho q; omega
      · rcases h with h | h
        · obtain ⟨y, hy⟩ : ∃ y, xs[e]? = some y := by
            cases hy : xs[e]? with
            | none => simp [isC, hy] at hc
            | some y => exact ⟨y, rfl⟩
          obtain ⟨o', ho', _⟩ := R.comp e y hy
          have := anc_lt R ho' q; omega
        · obtain ⟨y, hy⟩ : ∃ y, xs[e]? = some y := by
            cases hy : xs[e]? with
            | none => simp [isC, hy] at hc
            | some y => exact ⟨y, rfl⟩
          obtain ⟨o', ho', _⟩ := R.comp e y hy
          have := R.anc e j q o' ho' L N.closed (fun p hp => N.closed e o' h.2 (by simpa using ho') p hp)
          rw [N.out] at this; cases this
    by_cases hvj : Valid xs L j
    · exact ⟨j, .inl rfl, hvj⟩
    · have hj := N.lt
      have : ∃ e, e < xs.length ∧ isC xs .e e = true ∧ ¬ (L e = true ↔ e < j) := by
        apply Classical.byContradiction
        intro hno
        refine hvj ⟨by omega, fun i hi hc => ?_⟩
        apply Classical.byContradiction
        intro hne
        exact hno ⟨i, hi, hc, hne⟩
      obtain ⟨e, hel, hec, hne⟩ := this
      have hej : e ≠ j := by
        intro q
        subst q
        rw [isC_of N.hx, hr] at hec
        cases hec
      cases hLe : L e with
      | false =>
        have hlt : e < j := by
          rcases Nat.lt_or_ge e j with q | q
          · exact q
          · exfalso; apply hne; rw [hLe]; simp; omega
        obtain ⟨g', hg', hc⟩ := valid_up (xs.length - g) g (by have := hg.1; omega) hg
        have hge : g' ≤ e := by
          rcases Nat.lt_or_ge e g' with q | q
          · rw [(hg'.2 e hel hec).2 q] at hLe; cases hLe
          · exact q
        rcases hc with hc | ⟨hc1, hc2⟩
        · omega
        · refine ⟨g', .inr (.inl (inEs g' hc2 (.inl ⟨by omega, ?_⟩))), hg'⟩
          cases hq : L g' with
          | false => rfl
          | true => have := (hg'.2 g' hc1 hc2).1 hq; omega
      | true =>
        have hlt : j < e := by
          rcases Nat.lt_or_ge j e with q | q
          · exact q
          · exfalso; apply hne; rw [hLe]; simp; omega
        obtain ⟨g', hg', hc⟩ := valid_down g hg
        have hge : e < g' := (hg'.2 e hel hec).1 hLe
        rcases hc with hc | ⟨p, hc1, hc2⟩
        · omega
        · have hpl : p < xs.length := by have := hg'.1; omega
          have hLp : L p = true := (hg'.2 p hpl hc2).2 (by omega)
          have hpj : p ≠ j := by
            intro q
            subst q
            rw [N.out] at hLp
            cases hLp
          exact ⟨g', .inr (.inr ⟨p, inEs p hc2 (.inr ⟨by omega, hLp⟩), hc1⟩), hg'⟩
  obtain ⟨i, hin, hvi⟩ := key
  obtain ⟨Hs, q1, q2, q3⟩ := hi i hin
  exact xop_r_mono ((loose_le R hA hvi.1 q1 q2).trans (hK_any R hvi hg).le) hr q3
theorem putT_inj {tm : Tr AV} {d : Option Nat} {v y : AV} (h : putT tm d v = putT tm d y) (tm' : Tr AV) : putT tm' d v = putT tm' d y := by
  cases d with
  | none => rfl
  | some d =>
    have : (putT tm (some d) v).get d = (putT tm (some d) y).get d := by rw [h]
    rw [putT_get, putT_get, if_pos rfl, if_pos rfl] at this
    cases this
    rfl
def Went (S : Nat → St) (xs : List XOper) (base : Nat) (L M : Nat → Bool) (j : Nat) (x : XOper) (E : Env) (w : World) (g : Nat) (u : Value) (w' : World) : Prop :=
  ∃ E' g' v, Valid xs M g' ∧ RStep E (hK xs S base L g xs.length) w base E' (hK xs S base M g' xs.length) w' ∧ (∀ i l, E'.ρ i = some l → E.ρ i = some l ∨ i = base + j ∨ base + xs.length ≤ i) ∧ AVRel E' w' v u ∧
    (S (j + 1)).tm = putT (S j).tm x.dst v
theorem Nxt.sound (R : Reg P cf ops xs A base S) (hcf : CFok P cf) (hL : Loose xs A base S) {L M : Nat → Bool} {j : Nat} {o : Oper} {x : XOper} (N : Nxt P ops xs L M j o x) {E : Env} {w : World} {a : Act} {g : Nat}
    (hg : Valid xs L g) (hR : Rel E (hK xs S base L g xs.length) w) (hT : TmR E w (tmK xs S L xs.length) a.tmps) (hn : E.ρ (base + j) = none) (hnx : base + xs.length ≤ (S g).H.next)
    {K : Act → World → Prop} {Q : Exit → Act → World → Prop} (hK' : ∀ u w', Went S xs base L M j x E w g u w' → K (a.put o.dst u) w') : wpOp P ops Q j K a w := by
  have hj := N.lt
  obtain ⟨h1, h2, _⟩ := compOper_inv N.hc
  have hcg : ∀ t, x.looks t = true → (tmK xs S L xs.length).get t = (S j).tm.get t := fun t ht => N.reads R ht
  have hev := ev_congr hcg
  have hwc := wanted_congr hcg
  have hs := R.step j x N.hx
  have hlt : base + j < (hK xs S base L g xs.length).next := by rw [hK_next]; omega
  unfold wpOp
  rw [N.ho]
  simp only
  unfold xstep at hs
  split at hs
  · rename_i hw
    rw [wanted_sound N.hc hT (hwc.trans hw)]
    simp only [if_true]
    left
    split at hs
    · rename_i v H1 hv
      have hS1 := Option.some.inj hs
      have hStm : (S (j + 1)).tm = putT (S j).tm x.dst v := by rw [← hS1]
      have hSH : (S (j + 1)).H = H1 := by rw [← hS1]
      by_cases hce : x.op.cls = .e
      · -- one that writes
        obtain ⟨v1, v2⟩ := N.valid_of R hce
        have hgj := hK_any R hg v1
        have hxv : xval cf (St.ev (tmK xs S L xs.length)) (S j).H (base + j) x.op = some (v, H1) := by
          rw [xval_congr hev]; exact hv
        have hRj : Rel E (hK xs S base L j xs.length) w := hR.sub (fun i ob hi => by rw [hgj.1 i]; exact hi) hgj.2.symm
        have hnn : ∀ k, k < xs.length → isC xs .n k = true → (L k = false → (S j).H.get (base + k) = none) ∧ (j ≤ k → (S j).H.get (base + k) = none) ∧ (j < k → (S (j + 1)).H.get (base + k) = none) := by
          intro k hk hc
          have hy : xs[k]? = some xs[k] := List.getElem?_eq_getElem hk
          have hc' := hc
          rw [isC_of hy, beq_iff_eq] at hc'
          have f := R.fresh k _ hy hc'
          refine ⟨fun hLk => ?_, fun q => f j (by omega) (.inl q), fun q => f (j + 1) (by omega) (.inl (by omega))⟩
          rcases Nat.lt_or_ge k j with q | q
          · have := ((N.free R hy).1 q hLk).1
            rw [hc', hce] at this
            cases this
          · exact f j (by omega) (.inl q)
        have hsub : ∀ i ob, (S j).H.get i = some ob → (hK xs S base L j xs.length).get i = some ob := by
          intro i ob hi
          by_cases hex : ∃ k, k < xs.length ∧ isC xs .n k = true ∧ i = base + k
          · obtain ⟨k, hk, hc, rfl⟩ := hex
            obtain ⟨n1, n2, _⟩ := hnn k hk hc
            rw [hK_at hc _ hk]
            by_cases hLk : L k = true
            · rw [if_pos hLk]
              by_cases hkj : k < j
              · rw [if_pos hkj]; exact hi
              · rw [n2 (by omega)] at hi; cases hi
            · rw [n1 (by simpa using hLk)] at hi; cases hi
          · rw [hK_other _ (fun k hk hc e => hex ⟨k, hk, hc, e⟩)]; exact hi
        have hRs : Rel E (S j).H w := hRj.sub hsub (by rw [hK_next])
        have hnj : (hK xs S base L g xs.length).next = (S j).H.next := by rw [hgj.2, hK_next]
        refine go_sound hcf h1 h2 (s := ⟨tmK xs S L xs.length, (S j).H⟩) hxv hRs hT hn (by rw [← hnj]; exact hlt) (base := base) (by omega) ?_
        rintro u w' ⟨E', y, r1, r2, r3, r4⟩
        simp only at r1 r2 r3 r4
        refine hK' u w' ⟨E', j + 1, y, v2, ?_, fun i l q => ?_, r3, ?_⟩
        · have hfr := r1.frame (HL := hK xs S base L j xs.length) (HL' := hK xs S base M (j + 1) xs.length) hRj hsub (fun i ob hi => ?_) (by rw [hK_next, hSH]) (by rw [hK_next]; exact r1.nx)
          · exact hfr.left (fun i ob hi => ⟨ob, by rw [hgj.1 i]; exact hi⟩) (by have := hfr.nx; rw [hgj.2]; exact this)
          · by_cases hex : ∃ k, k < xs.length ∧ isC xs .n k = true ∧ i = base + k
            · obtain ⟨k, hk, hc, rfl⟩ := hex
              obtain ⟨n1, n2, n3⟩ := hnn k hk hc
              have hkj : k ≠ j := by
                intro e; subst e
                rw [isC_of N.hx, hce] at hc
                cases hc
              rw [hK_at hc _ hk, N.mo k hkj] at hi
              by_cases hLk : L k = true
              · rw [if_pos hLk] at hi
                by_cases hk1 : k < j + 1
                · rw [if_pos hk1, hSH] at hi; exact .inl hi
                · rw [if_neg hk1] at hi
                  refine .inr ⟨by rw [← hSH]; exact n3 (by omega), n2 (by omega), ?_⟩
                  rw [hK_at hc _ hk, if_pos hLk, if_neg (by omega)]
                  exact hi
              · rw [if_neg hLk] at hi; cases hi
            · rw [hK_other _ (fun k hk hc e => hex ⟨k, hk, hc, e⟩), hSH] at hi
              exact .inl hi
        · rcases r2 i l q with z | z | z
          · exact .inl z
          · exact .inr (.inl z)
          · refine .inr (.inr ?_)
            rw [← hnj, hK_next] at z
            omega
        · rw [hStm, h2]
          exact putT_inj r4 _
      · have hne : isC xs .e j = false := by
          rw [isC_of N.hx]
          simpa using hce
        -- one that does not write: the memory is as it stands
        have fin : ∀ (v' : AV) (H' : AHeap) (gL gM : Nat), Valid xs L gL → Valid xs M gM → xval cf (St.ev (tmK xs S L xs.length)) (hK xs S base L gL xs.length) (base + j) x.op = some (v', H') → HEq' H' (hK xs S base M gM xs.length) → putT (S j).tm x.dst v' = (S (j + 1)).tm → o.wp P a w K Q := by
          intro v' H' gL gM w1 w2 w3 w4 w5
          have hgg := hK_any R hg w1
          have hRg : Rel E (hK xs S base L gL xs.length) w := hR.sub (fun i ob hi => by rw [hgg.1 i]; exact hi) hgg.2.symm
          refine go_sound hcf h1 h2 (s := ⟨tmK xs S L xs.length, hK xs S base L gL xs.length⟩) w3 hRg hT hn (by rw [← hgg.2]; exact hlt) (base := base) (by omega) ?_
          rintro u w' ⟨E', y, r1, r2, r3, r4⟩
          simp only at r1 r2 r3 r4
          refine hK' u w' ⟨E', gM, y, w2, ?_, fun i l q => ?_, r3, ?_⟩
          · have r1' := r1.right (H'' := hK xs S base M gM xs.length) (fun i ob hi => by rw [w4.1 i]; exact hi) w4.2.symm
            exact r1'.left (fun i ob hi => ⟨ob, by rw [hgg.1 i]; exact hi⟩) (by have := r1'.nx; rw [hgg.2]; exact this)
          · rcases r2 i l q with z | z | z
            · exact .inl z
            · exact .inr (.inl z)
            · refine .inr (.inr ?_)
              rw [← hgg.2, hK_next] at z
              omega
          · rw [← w5, h2]
            exact putT_inj r4 _
        rcases xval_heap hv hce with ⟨c1, ob, c2, c3⟩ | ⟨c1, c2, c3⟩
        · -- one that makes
          obtain ⟨g', g1, g2⟩ := N.valid_n R c1 hg
          refine fin v ((hK xs S base L g' xs.length).set (base + j) (some ob)) g' g' g2 (g2.next hne N.mo) ?_ ?_ hStm.symm
          · refine xval_of_new hce ?_
            rw [xop_congr hev, xop_n_heap (H' := (S j).H) c1]
            exact c2
          · refine ⟨fun id => ?_, by rw [hK_next]; exact hK_next _⟩
            rw [AHeap.get_set]
            have hnj : isC xs .n j = true := by rw [isC_of N.hx, c1]; rfl
            by_cases hid : id = base + j
            · subst hid
              rw [if_pos rfl, hK_at hnj _ hj, if_pos N.mj, if_neg (by omega), hSH, c3, AHeap.get_set, if_pos rfl]
            · rw [if_neg hid]
              by_cases hex : ∃ k, k < xs.length ∧ isC xs .n k = true ∧ id = base + k
              · obtain ⟨k, hk, hc, rfl⟩ := hex
                have hkj : k ≠ j := fun e => hid (by rw [e])
                rw [hK_at hc _ hk, hK_at hc _ hk, N.mo k hkj]
              · rw [hK_other _ (fun k hk hc e => hex ⟨k, hk, hc, e⟩), hK_other _ (fun k hk hc e => hex ⟨k, hk, hc, e⟩)]
        · -- one that makes nothing
          have hnn : isC xs .n j = false := by
            rw [isC_of N.hx]
            simpa using c1
          have hsame : hK xs S base L g xs.length = hK xs S base M g xs.length := hK_congr _ (fun i _ hc => (N.mo i (fun e => by subst e; rw [hnn] at hc; cases hc)).symm)
          by_cases hr : x.op.cls = .r
          · obtain ⟨v', q1, q2⟩ := N.read R hL hr hw hg
            refine fin v' _ g g hg (hg.next hne N.mo) (xval_of_v hce ?_) (hsame ▸ HEq'.refl _) q1.symm
            rw [xop_congr hev]
            exact q2
          · have hp : x.op.cls = .p := by
              cases hq : x.op.cls with
              | p => rfl
              | r => exact absurd hq hr
              | n => exact absurd hq c1
              | e => exact absurd hq hce
            refine fin v _ g g hg (hg.next hne N.mo) (xval_of_v hce ?_) (hsame ▸ HEq'.refl _) hStm.symm
            rw [xop_congr hev, xop_p_heap (H' := (S j).H) (n' := base + j) hp]
            exact c2
    · cases hs
  · -- one that is left out
    rename_i hw
    rw [wanted_sound N.hc hT (hwc.trans hw)]
    simp only [Bool.false_eq_true, if_false]
    have hS1 := Option.some.inj hs
    have hStm : (S (j + 1)).tm = putT (S j).tm x.dst undefA := by rw [← hS1]
    have hSH : (S (j + 1)).H = (S j).H := by rw [← hS1]
    have fin : ∀ gM, Valid xs M gM → HEq' (hK xs S base L g xs.length) (hK xs S base M gM xs.length) → K (a.put o.dst undef) w := by
      intro gM w1 w2
      refine hK' undef w ⟨E, gM, undefA, w1, ?_, fun i l q => .inl q, undef_rel, hStm⟩
      exact (RStep.refl hR).right (fun i ob hi => by rw [w2.1 i]; exact hi) w2.2.symm
    by_cases hce : x.op.cls = .e
    · obtain ⟨v1, v2⟩ := N.valid_of R hce
      refine fin (j + 1) v2 ((hK_any R hg v1).trans ⟨fun id => ?_, by rw [hK_next, hK_next, hSH]⟩)
      by_cases hex : ∃ k, k < xs.length ∧ isC xs .n k = true ∧ id = base + k
      · obtain ⟨k, hk, hc, rfl⟩ := hex
        have hkj : k ≠ j := by
          intro e; subst e
          rw [isC_of N.hx, hce] at hc
          cases hc
        rw [hK_at hc _ hk, hK_at hc _ hk, N.mo k hkj, hSH]
        by_cases hkl : k < j
        · rw [if_pos hkl, if_pos (show k < j + 1 by omega)]
        · rw [if_neg hkl, if_neg (show ¬ k < j + 1 by omega)]
      · rw [hK_other _ (fun k hk hc e => hex ⟨k, hk, hc, e⟩), hK_other _ (fun k hk hc e => hex ⟨k, hk, hc, e⟩), hSH]
    · have hne : isC xs .e j = false := by
        rw [isC_of N.hx]
        simpa using hce
      refine fin g (hg.next hne N.mo) ⟨fun id => ?_, by rw [hK_next, hK_next]⟩
      by_cases hex : ∃ k, k < xs.length ∧ isC xs .n k = true ∧ id = base + k
      · obtain ⟨k, hk, hc, rfl⟩ := hex
        rw [hK_at hc _ hk, hK_at hc _ hk]
        by_cases hkj : k = j
        · subst hkj
          have hcn : x.op.cls = .n := by rw [isC_of N.hx, beq_iff_eq] at hc; exact hc
          rw [N.out, N.mj]
          have f := R.fresh k x N.hx hcn
          have f1 := f g hg.1 (.inr hw)
          have f2 := f (k + 1) (by omega) (.inr hw)
          rw [f1, f2]
          simp
        · rw [N.mo k hkj]
      · rw [hK_other _ (fun k hk hc e => hex ⟨k, hk, hc, e⟩), hK_other _ (fun k hk hc e => hex ⟨k, hk, hc, e⟩)]
  · cases hs
end
end Go.Eng
end
section
namespace Go.Eng
variable {P : Program}
def left (L : Nat → Bool) : Nat → Nat
  | 0 => 0
  | k + 1 => left L k + if L k = true then 0 else 1
theorem left_congr {L M : Nat → Bool} : ∀ k, (∀ i, i < k → M i = L i) → left M k = left L k
  | 0, _ => rfl
  | k + 1, h => by
    simp only [left]
    rw [left_congr k (fun i hi => h i (by omega)), h k (by omega)]
theorem left_set {L M : Nat → Bool} {j : Nat} (h1 : L j = false) (h2 : M j = true) (h3 : ∀ i, i ≠ j → M i = L i) : ∀ k, j < k → left M k + 1 = left L k
  | 0, h => by omega
  | k + 1, h => by
    simp only [left]
    by_cases e : k = j
    · subst e
      rw [h1, h2, left_congr k (fun i hi => h3 i (by omega))]
      simp
    · have := left_set h1 h2 h3 k (by omega)
      rw [h3 k e]
      omega
theorem left_zero {L : Nat → Bool} : ∀ k, left L k = 0 → ∀ i, i < k → L i = true
  | 0, _, i, hi => by omega
  | k + 1, h, i, hi => by
    simp only [left] at h
    by_cases e : i = k
    · subst e
      cases hL : L i with
      | true => rfl
      | false => rw [hL] at h; simp at h
    · exact left_zero k (by omega) i (by omega)
theorem mem_ready {ops : Array Oper} {listed : Array Bool} (hsz : listed.size = ops.size) {j : Nat} :
    j ∈ Region.ready .any ops listed ↔ ∃ o, ops[j]? = some o ∧ listed.getD j false = false ∧ ∀ p ∈ predsOf o, listed.getD p false = true := by
  unfold Region.ready
  simp only [List.mem_filter, List.mem_range, Bool.and_eq_true, Bool.not_eq_true', predsOf, List.mem_map, Array.toList_filter, List.mem_filter]
  constructor
  · rintro ⟨h1, h2, h3⟩
    have ho : ops[j]? = some ops[j] := Array.getElem?_eq_getElem h1
    rw [ho] at h3
    simp only [Option.map_some, Option.getD_some, Array.all_eq_true_iff_forall_mem, Bool.or_eq_true, Bool.not_eq_true'] at h3
    refine ⟨_, ho, ?_, ?_⟩
    · have h4 : j < listed.size := by omega
      simp only [Array.getD, dif_pos h4] at h2 ⊢
      exact h2
    · rintro p ⟨e, ⟨he1, he2⟩, rfl⟩
      rcases h3 e (by simpa using he1) with q | q
      · rw [q] at he2; cases he2
      · exact q
  · rintro ⟨o, ho, h2, h3⟩
    have h1 : j < ops.size := by
      rcases Nat.lt_or_ge j ops.size with q | q
      · exact q
      · rw [Array.getElem?_eq_none q] at ho; cases ho
    refine ⟨h1, ?_, ?_⟩
    · have h4 : j < listed.size := by omega
      simp only [Array.getD, dif_pos h4] at h2 ⊢
      exact h2
    · rw [ho]
      simp only [Option.map_some, Option.getD_some, Array.all_eq_true_iff_forall_mem, Bool.or_eq_true, Bool.not_eq_true']
      intro e he
      cases hb : Region.binds .any e with
      | false => exact .inl rfl
      | true => exact .inr (h3 _ ⟨e, ⟨by simpa using he, hb⟩, rfl⟩)
section
variable {cf : CF} {ops : Array Oper} {xs : List XOper} {A : List (List Nat)} {base : Nat} {S : Nat → St}
theorem all_listed (R : Reg P cf ops xs A base S) {L : Nat → Bool} (hall : ∀ i, i < xs.length → L i = true) {g : Nat} (hg : Valid xs L g) :
    HEq' (hK xs S base L g xs.length) (S xs.length).H ∧ ∀ t, (tmK xs S L xs.length).get t = (S xs.length).tm.get t := by
  refine ⟨(hK_any R hg ⟨Nat.le_refl _, fun i hi _ => ⟨fun _ => hi, fun _ => hall i hi⟩⟩).trans ⟨fun id => ?_, by rw [hK_next]⟩, fun t => ?_⟩
  · by_cases hex : ∃ k, k < xs.length ∧ isC xs .n k = true ∧ id = base + k
    · obtain ⟨k, hk, hc, rfl⟩ := hex
      rw [hK_at hc _ hk, if_pos (hall k hk), if_pos hk]
    · rw [hK_other _ (fun k hk hc e => hex ⟨k, hk, hc, e⟩)]
  · rw [tmK_agree (M := fun i => decide (i < xs.length)) xs.length (fun i hi _ => by rw [hall i hi]; simp [hi]), tmK_canon R xs.length (Nat.le_refl _), Nat.min_self]
theorem any_sound (R : Reg P cf ops xs A base S) (hcf : CFok P cf) (hL : Loose xs A base S) {Q : Exit → Act → World → Prop} {E0 : Env} {w0 : World} {a0 : Act} (hd : ∀ x ∈ xs, dstOk a0.tmps.size x = true) (hnx : base + xs.length ≤ (S 0).H.next)
    (hQ : ∀ E' a' w', RStep E0 (S 0).H w0 base E' (S xs.length).H w' → TmR E' w' (S xs.length).tm a'.tmps → a'.defers = a0.defers → a'.tmps.size = a0.tmps.size → Q .normal a' w') :
    ∀ (fuel : Nat) (listed : Array Bool) (E : Env) (w : World) (a : Act) (g : Nat), listed.size = ops.size → Closed ops.toList (fun i => listed.getD i false) → Valid xs (fun i => listed.getD i false) g →
      RStep E0 (S 0).H w0 base E (hK xs S base (fun i => listed.getD i false) g xs.length) w → TmR E w (tmK xs S (fun i => listed.getD i false) xs.length) a.tmps →
      (∀ k, k < xs.length → listed.getD k false = false → E.ρ (base + k) = none) → a.defers = a0.defers → a.tmps.size = a0.tmps.size → left (fun i => listed.getD i false) xs.length ≤ fuel →
      wpAny P .any ops Q fuel listed a w := by
  -- none may come next: all have been
  have done : ∀ (listed : Array Bool) (E : Env) (w : World) (a : Act) (g : Nat), listed.size = ops.size → Valid xs (fun i => listed.getD i false) g →
      RStep E0 (S 0).H w0 base E (hK xs S base (fun i => listed.getD i false) g xs.length) w → TmR E w (tmK xs S (fun i => listed.getD i false) xs.length) a.tmps →
      a.defers = a0.defers → a.tmps.size = a0.tmps.size → (∀ i, i < xs.length → listed.getD i false = true) → Q .normal a w := by
    intro listed E w a g hsz hg hR hT h1 h2 hall
    obtain ⟨q1, q2⟩ := all_listed R hall hg
    refine hQ E a w (hR.right (fun i o hi => by rw [q1.1 i]; exact hi) q1.2.symm) (fun t x hx => hT t x ?_) h1 h2
    rw [q2 t]
    exact hx
  have stuck : ∀ (listed : Array Bool), listed.size = ops.size → Region.ready .any ops listed = [] → ∀ i, i < xs.length → listed.getD i false = true := by
    intro listed hsz hr i
    induction i using Nat.strongRecOn with
    | ind i ih =>
      intro hi
      have hi' : i < ops.size := by rw [← R.len]; exact hi
      have ho : ops[i]? = some ops[i] := Array.getElem?_eq_getElem hi'
      cases hl : listed.getD i false with
      | true => rfl
      | false =>
        have : i ∈ Region.ready .any ops listed := (mem_ready hsz).2 ⟨_, ho, hl, fun p hp => by
          have := R.back i _ ho p hp
          exact ih p this (by omega)⟩
        rw [hr] at this
        cases this
  intro fuel
  induction fuel with
  | zero =>
    intro listed E w a g hsz hcl hg hR hT hn h1 h2 hf
    have hall := left_zero xs.length (Nat.le_zero.1 hf)
    refine ⟨?_, done listed E w a g hsz hg hR hT h1 h2 hall⟩
    cases hr : Region.ready .any ops listed with
    | nil => rfl
    | cons j r =>
      obtain ⟨o, ho, hl, _⟩ := (mem_ready hsz (j := j)).1 (by rw [hr]; simp)
      have : j < ops.size := by
        rcases Nat.lt_or_ge j ops.size with q | q
        · exact q
        · rw [Array.getElem?_eq_none q] at ho; cases ho
      have := hall j (by rw [R.len]; exact this)
      rw [hl] at this
      cases this
  | succ fuel ih =>
    intro listed E w a g hsz hcl hg hR hT hn h1 h2 hf
    refine ⟨fun hr => done listed E w a g hsz hg hR hT h1 h2 (stuck listed hsz hr), fun j hj => ?_⟩
    obtain ⟨o, ho, hl, hp⟩ := (mem_ready hsz).1 hj
    have hjl : j < xs.length := by
      rw [R.len]
      rcases Nat.lt_or_ge j ops.size with q | q
      · exact q
      · rw [Array.getElem?_eq_none q] at ho; cases ho
    have hx : xs[j]? = some xs[j] := List.getElem?_eq_getElem hjl
    obtain ⟨o', ho', hc⟩ := R.comp j _ hx
    rw [ho] at ho'
    cases ho'
    have hjs : j < listed.size := by rw [hsz, ← R.len]; exact hjl
    have hmj : (listed.setIfInBounds j true).getD j false = true := by simp [Array.getD_eq_getD_getElem?, Array.getElem?_setIfInBounds, hjs]
    have hmo : ∀ i, i ≠ j → (listed.setIfInBounds j true).getD i false = listed.getD i false := by
      intro i hi
      simp [Array.getD_eq_getD_getElem?, Array.getElem?_setIfInBounds, Ne.symm hi]
    have N : Nxt P ops xs (fun i => listed.getD i false) (fun i => (listed.setIfInBounds j true).getD i false) j o xs[j] := ⟨ho, hx, hc, hcl, hp, hl, hmj, hmo⟩
    have hnx' : base + xs.length ≤ (S g).H.next := by
      have := hR.nx
      rw [hK_next] at this
      omega
    refine N.sound R hcf hL hg hR.rel hT (hn j hjl hl) hnx' ?_
    rintro u w' ⟨E', g', v, v1, v2, v3, v4, v5⟩
    have hdst : o.dst = xs[j].dst := (compOper_inv hc).2.1.symm
    refine ih _ E' w' _ g' (by simpa using hsz) ?_ v1 (hR.trans v2) ?_ (fun k hk hlk => ?_) ((put_defers _ _ _).trans h1) ((put_size _ _ _).trans h2) ?_
    · intro i oi hi hoi p hpi
      simp only at hi ⊢
      by_cases e : p = j
      · subst e; exact hmj
      · rw [hmo p e]
        by_cases e' : i = j
        · subst e'
          have : ops[i]? = some oi := by simpa using hoi
          rw [ho] at this
          cases this
          exact hp p hpi
        · rw [hmo i e'] at hi
          exact hcl i oi hi hoi p hpi
    · have hput : TmR E' w' (putT (tmK xs S (fun i => listed.getD i false) xs.length) o.dst v) (a.put o.dst u).tmps := by
        refine TmR.put (hT.mono v2.ext) v4 (fun d hd' => ?_)
        rw [hdst] at hd'
        have := hd _ (List.getElem_mem hjl)
        simp only [dstOk, hd'] at this
        rw [h2]
        simpa using this
      intro t x hx'
      refine hput t x ?_
      rw [hdst, ← N.tms R v5 t]
      exact hx'
    · have hkj : k ≠ j := by
        intro e; subst e
        rw [hmj] at hlk; cases hlk
      rw [hmo k hkj] at hlk
      cases hq : E'.ρ (base + k) with
      | none => rfl
      | some l =>
        rcases v3 _ _ hq with z | z | z
        · rw [hn k hk hlk] at z; cases z
        · omega
        · omega
    · have := left_set (L := fun i => listed.getD i false) (M := fun i => (listed.setIfInBounds j true).getD i false) hl hmj hmo xs.length hjl
      omega
end
end Go.Eng
end
section
namespace Go.Eng
variable {P : Program}
theorem mapM_get {α β : Type} {f : α → Option β} : ∀ {l : List α} {xs : List β}, l.mapM f = some xs → xs.length = l.length ∧ ∀ (i : Nat) (x : β), xs[i]? = some x → ∃ o, l[i]? = some o ∧ f o = some x
  | [], xs, h => by
    simp only [List.mapM_nil, Option.pure_def, Option.some.injEq] at h
    subst h
    exact ⟨rfl, fun i x hx => by simp at hx⟩
  | o :: l, xs, h => by
    rw [List.mapM_cons] at h
    simp only [bind] at h
    obtain ⟨y, hy, h⟩ := bindSome h
    obtain ⟨ys, hys, h⟩ := bindSome h
    cases h
    obtain ⟨q1, q2⟩ := mapM_get hys
    refine ⟨by simp [q1], fun i x hx => ?_⟩
    cases i with
    | zero => simp at hx; subst hx; exact ⟨o, rfl, hy⟩
    | succ i => simpa using q2 i x (by simpa using hx)
theorem xtrace_spec {cf : CF} : ∀ {xs : List XOper} {n : Nat} {s : St} {tr : List St}, xtrace cf xs n s = some tr → tr.length = xs.length + 1 ∧ tr[0]? = some s ∧
    ∀ (i : Nat) (x : XOper), xs[i]? = some x → ∃ a b, tr[i]? = some a ∧ tr[i + 1]? = some b ∧ xstep cf a (n + i) x = some b
  | [], n, s, tr, h => by
    simp only [xtrace, Option.some.injEq] at h
    subst h
    exact ⟨rfl, rfl, fun i x hx => by simp at hx⟩
  | o :: r, n, s, tr, h => by
    simp only [xtrace] at h
    split at h
    · rename_i s1 hs1
      obtain ⟨tr', ht, rfl⟩ := Option.map_eq_some_iff.1 h
      obtain ⟨q1, q2, q3⟩ := xtrace_spec ht
      refine ⟨by simp [q1], rfl, fun i x hx => ?_⟩
      cases i with
      | zero =>
        simp at hx
        subst hx
        exact ⟨s, s1, rfl, by simpa using q2, hs1⟩
      | succ i =>
        obtain ⟨a, b, h1, h2, h3⟩ := q3 i x (by simpa using hx)
        exact ⟨a, b, by simpa using h1, by simpa using h2, by rw [show n + (i + 1) = n + 1 + i by omega]; exact h3⟩
    · cases h
theorem less_le {base : Nat} : ∀ (l : List Nat) (H : AHeap), (H.less base l).Le H
  | [], H => fun _ _ h => h
  | i :: r, H => fun id o h => by
    have := less_le r _ id o h
    rw [AHeap.get_set] at this
    split at this
    · cases this
    · exact this
theorem less_none {base k : Nat} : ∀ (l : List Nat) (H : AHeap), k ∈ l → (H.less base l).get (base + k) = none
  | i :: r, H, h => by
    cases hq : (H.less base (i :: r)).get (base + k) with
    | none => rfl
    | some o =>
      rcases List.mem_cons.1 h with e | e
      · have := less_le r _ _ o hq
        rw [AHeap.get_set, if_pos (by rw [e])] at this
        cases this
      · have := less_none (base := base) r (H.set (base + i) none) e
        simp only [AHeap.less] at hq
        rw [this] at hq
        cases hq
section
variable {cf : CF} {ops : Array Oper} {xs : List XOper}
theorem isC_lt {c : Cls} {i : Nat} (h : isC xs c i = true) : i < xs.length ∧ ∃ x, xs[i]? = some x ∧ x.op.cls = c := by
  unfold isC at h
  cases hx : xs[i]? with
  | none => rw [hx] at h; cases h
  | some x =>
    rw [hx] at h
    simp only [beq_iff_eq] at h
    refine ⟨?_, x, rfl, h⟩
    rcases Nat.lt_or_ge i xs.length with q | q
    · exact q
    · rw [List.getElem?_eq_none q] at hx; cases hx
theorem reg_of {A : List (List Nat)} (hA : A = ancsGo [] ops.toList) (hm : ops.toList.mapM (compOper P ops) = some xs) (ho : orderOk ops.toList xs A = true) {base : Nat} {s : St} {tr : List St} (ht : xtrace cf xs base s = some tr)
    (hf : freshOk xs tr base (makers xs) = true) : Reg P cf ops xs A base (fun i => tr.getD i s) := by
  obtain ⟨l1, l2⟩ := mapM_get hm
  obtain ⟨t1, t2, t3⟩ := xtrace_spec ht
  simp only [Array.length_toList] at l1
  have hord := ho
  unfold orderOk at hord
  rw [List.all_eq_true] at hord
  refine ⟨l1, fun i x hx => ?_, fun i x hx => ?_, fun j o hj p hp => ?_, fun i j x y hij hx hy => ?_, fun j i hi o hj L hL hp => ?_, fun k x hx hn i hi h => ?_⟩
  · obtain ⟨o, q1, q2⟩ := l2 i x hx
    exact ⟨o, by simpa using q1, q2⟩
  · obtain ⟨a, b, q1, q2, q3⟩ := t3 i x hx
    simp only [List.getD_eq_getElem?_getD, q1, q2, Option.getD_some]
    exact q3
  · have hlt : j < ops.toList.length := by
      rcases Nat.lt_or_ge j ops.size with q | q
      · simpa using q
      · rw [Array.getElem?_eq_none q] at hj; cases hj
    have := hord j (List.mem_range.2 hlt)
    rw [Bool.and_eq_true] at this
    have h1 := this.1
    rw [show ops.toList[j]? = some o by simpa using hj] at h1
    simp only [List.all_eq_true, Nat.blt_eq] at h1
    exact h1 p hp
  · have hlt : j < ops.toList.length := by
      obtain ⟨q, _⟩ := isC_lt (c := y.op.cls) (xs := xs) (i := j) (by simp [isC, hy])
      rw [Array.length_toList, ← l1]; exact q
    have := hord j (List.mem_range.2 hlt)
    rw [Bool.and_eq_true] at this
    have h1 := this.2
    rw [List.all_eq_true] at h1
    have h2 := h1 i (List.mem_range.2 hij)
    rw [hx, hy] at h2
    simp only [Bool.or_eq_true, Bool.and_eq_true, List.contains_iff_mem] at h2
    exact h2
  · rw [hA] at hi
    refine ancs_spec ops.toList ops.toList [] (fun k o' hk => by simpa using hk) (fun j i hi => ?_) j i hi o (by simpa using hj) L hL hp
    simp at hi
  · unfold freshOk at hf
    rw [List.all_eq_true] at hf
    have hk : k < xs.length := (isC_lt (c := x.op.cls) (by simp [isC, hx])).1
    have hmk : k ∈ makers xs := by
      unfold makers
      rw [List.mem_filter, List.mem_range]
      exact ⟨hk, by rw [hx]; simp [hn]⟩
    have h1 := hf k hmk
    obtain ⟨a, b, q1, q2, q3⟩ := t3 k x hx
    rw [hx, q1] at h1
    simp only [List.all_eq_true] at h1
    have h2 := h1 i (List.mem_range.2 (by omega))
    have hti : tr[i]? = some (tr.getD i s) := by
      rw [List.getD_eq_getElem?_getD, List.getElem?_eq_getElem (by omega)]
      rfl
    rw [hti] at h2
    simp only [Bool.or_eq_true, Bool.and_eq_true, Nat.blt_eq, Option.isNone_iff_eq_none] at h2
    rcases h2 with ⟨h3, h4⟩ | h2
    · rcases h with h | h
      · omega
      · simp only [List.getD_eq_getElem?_getD, q1, Option.getD_some] at h
        rw [h] at h4
        simp at h4
    · exact h2
theorem loose_of {A : List (List Nat)} {base : Nat} {s : St} {tr : List St} (ht : xtrace cf xs base s = some tr)
    (hl : ((List.range xs.length).filterMap (looseOf xs A)).all (looseOk xs tr base (makers xs)) = true) (hfr : ∀ (k : Nat) (x : XOper), xs[k]? = some x → x.op.cls = .n → ∀ i, i ≤ k → ((tr.getD i s).H).get (base + k) = none) :
    Loose xs A base (fun i => tr.getD i s) := by
  intro j x hx hr hw
  obtain ⟨t1, t2, t3⟩ := xtrace_spec ht
  obtain ⟨a, b, q1, q2, q3⟩ := t3 j x hx
  have hj : j < xs.length := (isC_lt (c := x.op.cls) (by simp [isC, hx])).1
  have hta : tr.getD j s = a := by simp [List.getD_eq_getElem?_getD, q1]
  simp only [hta] at hw ⊢
  cases hlo : looseOf xs A j with
  | none =>
    unfold looseOf at hlo
    rw [hx] at hlo
    simp only [hr, ne_eq, not_true_eq_false, if_false] at hlo
    split at hlo
    · rename_i hee
      rw [Bool.and_eq_true, List.isEmpty_iff, List.isEmpty_iff] at hee
      obtain ⟨e1, e2⟩ := hee
      unfold xstep at q3
      rw [hw] at q3
      simp only at q3
      split at q3
      · rename_i v H hv
        rcases xval_heap hv (by rw [hr]; simp) with ⟨z, _⟩ | ⟨_, z, _⟩
        · rw [hr] at z; cases z
        · refine ⟨v, [], fun i hi hA1 hA2 => ?_, fun i hi => ?_⟩
          · exfalso
            obtain ⟨hil, y, hy, hyc⟩ := isC_lt hi
            have h := List.filter_eq_nil_iff.1 e1 i (List.mem_range.2 hil)
            simp only [List.getD_eq_getElem?_getD] at hA1 hA2
            exact h (by simp [hy, hyc, hA1, hA2])
          · have hij : i = j := by
              rcases hi with q | q | ⟨e, q, _⟩
              · exact q
              · cases q
              · cases q
            subst hij
            refine ⟨a.H, by rw [hta]; exact fun _ _ h => h, fun k hk hor => ?_, xop_r_mono (fun _ _ h => h) hr z⟩
            obtain ⟨hkl, y, hy, hyc⟩ := isC_lt hk
            rcases hor with hA1 | hle
            · exfalso
              have h := List.filter_eq_nil_iff.1 e2 k (List.mem_range.2 hkl)
              simp only [List.getD_eq_getElem?_getD] at hA1
              exact h (by simp [hy, hyc, hA1])
            · have := hfr k y hy hyc i hle
              rw [hta] at this
              exact this
      · cases q3
    · cases hlo
  | some l =>
    have hlm : l ∈ (List.range xs.length).filterMap (looseOf xs A) := List.mem_filterMap.2 ⟨j, List.mem_range.2 hj, hlo⟩
    rw [List.all_eq_true] at hl
    have h1 := hl l hlm
    have hl3 : l.1 = j ∧ (∀ i, isC xs .e i = true → i ∉ A.getD j [] → j ∉ A.getD i [] → i ∈ l.2.1) ∧ (∀ k, isC xs .n k = true → k ∉ A.getD j [] → k ∈ l.2.2) := by
      unfold looseOf at hlo
      rw [hx] at hlo
      simp only [hr, ne_eq, not_true_eq_false, if_false] at hlo
      split at hlo
      · cases hlo
      · cases hlo
        refine ⟨rfl, fun i hi hA1 hA2 => ?_, fun k hk hA1 => ?_⟩
        · obtain ⟨hil, y, hy, hyc⟩ := isC_lt hi
          simp only [List.mem_filter, List.mem_range]
          exact ⟨hil, by simp only [List.getD_eq_getElem?_getD] at hA1 hA2; simp [hy, hyc, hA1, hA2]⟩
        · obtain ⟨hil, y, hy, hyc⟩ := isC_lt hk
          simp only [List.mem_filter, List.mem_range]
          exact ⟨hil, by simp only [List.getD_eq_getElem?_getD] at hA1; simp [hy, hyc, hA1]⟩
    obtain ⟨j', es, ns⟩ := l
    obtain ⟨rfl, hes, hns⟩ := hl3
    simp only at hes hns
    unfold looseOk at h1
    simp only [hx, q1, hw] at h1
    split at h1
    · rename_i v hv
      rw [List.all_eq_true] at h1
      refine ⟨v, es, hes, fun i hi => ?_⟩
      have h2 := h1 i (by
        rw [List.mem_cons, List.mem_append, List.mem_map]
        rcases hi with q | q | ⟨e, q, z⟩
        · exact .inl q
        · exact .inr (.inl q)
        · exact .inr (.inr ⟨e, q, z.symm⟩))
      split at h2
      · rename_i si hsi
        split at h2
        · rename_i y hy
          have := AV.beq_sound h2
          subst this
          refine ⟨_, ?_, fun k hk hor => ?_, hy⟩
          · have : tr.getD i s = si := by simp [List.getD_eq_getElem?_getD, hsi]
            rw [this]
            exact (less_le _ _).trans (less_le _ _)
          · obtain ⟨hkl, z, hz, hzc⟩ := isC_lt hk
            rcases hor with hA1 | hle
            · cases hq : ((si.H.less base ns).less base ((makers xs).filter fun k => Nat.ble i k)).get (base + k) with
              | none => rfl
              | some ob =>
                have h5 := less_le _ _ _ _ hq
                rw [less_none _ _ (hns k hk hA1)] at h5
                cases h5
            · refine less_none _ _ ?_
              rw [List.mem_filter]
              refine ⟨?_, by simpa using hle⟩
              unfold makers
              rw [List.mem_filter, List.mem_range]
              exact ⟨hkl, by simp [hz, hzc]⟩
        · cases h2
      · cases h2
    · cases h1
theorem regd_sound (hmix : P.follows .mixedOrders = true) (hcf : CFok P cf) (hm : ops.toList.mapM (compOper P ops) = some xs) (ho : orderOk ops.toList xs (ancsGo [] ops.toList) = true) {s s' : St}
    (hs : xregionD cf xs ((List.range xs.length).filterMap (looseOf xs (ancsGo [] ops.toList))) (makers xs) s = some s') {E : Env} {w : World} {a : Act} {id : Nat} {Q : Exit → Act → World → Prop}
    (hd : ∀ x ∈ xs, dstOk a.tmps.size x = true) (hR : Rel E s.H w) (hT : TmR E w s.tm a.tmps)
    (hQ : ∀ E' a' w', Step E s.H w E' s'.H w' → TmR E' w' s'.tm a'.tmps → a'.defers = a.defers → a'.tmps.size = a.tmps.size → Q .normal a' w') : (Code.region id ops true).wp P Q a w := by
  unfold xregionD at hs
  split at hs
  · rename_i tr htr
    split at hs
    · rename_i hok
      rw [Bool.and_eq_true] at hok
      obtain ⟨hlo, hfr⟩ := hok
      have R := reg_of (cf := cf) rfl hm ho htr hfr
      have hL := loose_of htr hlo (fun k x hx hn i hi => R.fresh k x hx hn i (by
        have := (isC_lt (c := x.op.cls) (xs := xs) (i := k) (by simp [isC, hx])).1
        omega) (.inl hi))
      obtain ⟨t1, t2, t3⟩ := xtrace_spec htr
      have h0 : tr.getD 0 (bump s xs.length) = bump s xs.length := by simp [List.getD_eq_getElem?_getD, t2]
      have hlast : tr.getD xs.length (bump s xs.length) = s' := by
        rw [List.getLast?_eq_getElem?, t1] at hs
        simp only [Nat.add_sub_cancel] at hs
        simp [List.getD_eq_getElem?_getD, hs]
      refine wp_region_any hmix ?_
      have hsz : (Array.replicate ops.size false).size = ops.size := by simp
      have hno : ∀ i, (Array.replicate ops.size false).getD i false = false := by
        intro i
        simp only [Array.getD_eq_getD_getElem?, Array.getElem?_replicate]
        split <;> rfl
      have hv : Valid xs (fun i => (Array.replicate ops.size false).getD i false) 0 := ⟨Nat.zero_le _, fun i hi _ => by simp [hno]⟩
      have hb : (bump s xs.length).H.next = s.H.next + xs.length := rfl
      have hRb : Rel E (bump s xs.length).H w := ⟨fun i L hi => by
        have := hR.dom i L hi
        rw [hb]
        exact ⟨by omega, this.2⟩, hR.imm, hR.obj, hR.inj⟩
      have hnone : ∀ k, E.ρ (s.H.next + k) = none := by
        intro k
        cases hq : E.ρ (s.H.next + k) with
        | none => rfl
        | some L => have := (hR.dom _ L hq).1; omega
      have hH0 : HEq' (hK xs (fun i => tr.getD i (bump s xs.length)) s.H.next (fun i => (Array.replicate ops.size false).getD i false) 0 xs.length) (bump s xs.length).H := by
        refine ⟨fun id => ?_, by rw [hK_next, h0]⟩
        by_cases hex : ∃ k, k < xs.length ∧ isC xs .n k = true ∧ id = s.H.next + k
        · obtain ⟨k, hk, hc, rfl⟩ := hex
          rw [hK_at hc _ hk, hno k]
          simp only [Bool.false_eq_true, if_false]
          cases hq : (bump s xs.length).H.get (s.H.next + k) with
          | none => rfl
          | some o =>
            obtain ⟨L, hL', _⟩ := hRb.obj _ o hq
            rw [hnone k] at hL'
            cases hL'
        · rw [hK_other _ (fun k hk hc e => hex ⟨k, hk, hc, e⟩), h0]
      have hmain := any_sound R hcf hL (Q := Q) (E0 := E) (w0 := { w with drawn := w.drawn + 1 }) (a0 := a) hd (by rw [h0, hb]; exact Nat.le_refl _) (fun E' a' w' r1 r2 r3 r4 => by
        rw [hlast] at r1 r2
        rw [h0] at r1
        refine hQ E' a' w' ?_ r2 r3 r4
        refine ⟨⟨r1.ext.ρ, r1.ext.I, r1.ext.same, r1.ext.lk⟩, r1.rel, ⟨r1.fr.os, r1.fr.tape, r1.fr.output, r1.fr.size, r1.fr.block⟩, r1.nb, ?_, r1.ids, r1.imm⟩
        have := r1.nx
        rw [hb] at this
        omega)
      refine hmain ops.size _ E _ a 0 hsz (fun i o hi => ?_) hv ?_ ?_ (fun k _ _ => hnone k) rfl rfl ?_
      · simp only [hno] at hi; cases hi
      · rw [h0]
        have hRd : Rel E (bump s xs.length).H { w with drawn := w.drawn + 1 } := hRb.of_heap rfl
        exact (RStep.refl hRd).right (fun i o hi => by rw [← hH0.1 i]; exact hi) hH0.2
      · intro t x hx
        have : (tmK xs (fun i => tr.getD i (bump s xs.length)) (fun i => (Array.replicate ops.size false).getD i false) xs.length).get t = s.tm.get t := by
          have e := tmK_agree (xs := xs) (S := fun i => tr.getD i (bump s xs.length)) (L := fun i => (Array.replicate ops.size false).getD i false) (M := fun i => decide (i < 0)) (t := t) xs.length (fun i _ _ => by rw [hno i]; simp)
          rw [e, tmK_canon R xs.length (Nat.le_refl _)]
          simp only [Nat.min_zero, h0]
          rfl
        rw [this] at hx
        obtain ⟨u, hu1, hu2⟩ := hT t x hx
        exact ⟨u, hu1, AVRel.mono (w := w) (E := E) (w' := { w with drawn := w.drawn + 1 }) (E' := E) ⟨fun _ _ q => q, fun _ q => q, fun b _ => rfl, fun _ _ _ q => q⟩ _ _ hu2⟩
      · have : ∀ k, left (fun i => (Array.replicate ops.size false).getD i false) k ≤ k := by
          intro k
          induction k with
          | zero => exact Nat.le_refl _
          | succ k ih =>
            simp only [left]
            split <;> omega
        exact Nat.le_trans (this _) (by rw [R.len]; exact Nat.le_refl _)
    · cases hs
  · cases hs
end
end Go.Eng
end
section
namespace Go.Eng
variable {P : Program}
theorem insAll_perm {α : Type} {x : α} : ∀ {l a b : List α}, l = a ++ b → (a ++ x :: b) ∈ insAll x l
  | [], a, b, h => by
    obtain ⟨rfl, rfl⟩ := List.append_eq_nil_iff.1 h.symm
    simp [insAll]
  | y :: r, [], b, h => by
    simp only [List.nil_append] at h
    subst h
    simp [insAll]
  | y :: r, z :: a, b, h => by
    simp only [List.cons_append, List.cons.injEq] at h
    obtain ⟨rfl, h⟩ := h
    simp only [insAll, List.cons_append, List.mem_cons, List.mem_map]
    exact .inr ⟨_, insAll_perm h, rfl⟩
theorem perms_mem {α : Type} : ∀ {l l' : List α}, l'.Perm l → l' ∈ permsL l
  | [], l', h => by
    rw [h.eq_nil]
    simp [permsL]
  | x :: l, l', h => by
    obtain ⟨a, b, rfl⟩ := List.append_of_mem (h.mem_iff.2 (by simp : x ∈ x :: l))
    have h1 : (a ++ b).Perm l := List.Perm.cons_inv (List.perm_middle.symm.trans h)
    simp only [permsL, List.mem_flatMap]
    exact ⟨a ++ b, perms_mem h1, insAll_perm rfl⟩
inductive ObjSame0 : Option AObj → Option AObj → Prop where
  | refl (o : Option AObj) : ObjSame0 o o
  | map {es es' : List (AV × AV)} (h : es.Perm es') : ObjSame0 (some (.map es)) (some (.map es'))
  | lmap {es es' : List (AV × AV)} {t : Nat} (h : es.Perm es') : ObjSame0 (some (.lmap es t)) (some (.lmap es' t))
inductive ObjSame : Option AObj → Option AObj → Prop where
  | refl (o : Option AObj) : ObjSame o o
  | map {es es' : List (AV × AV)} (h : es.Perm es') : ObjSame (some (.map es)) (some (.map es'))
  | lmap {es es' : List (AV × AV)} {t : Nat} (h : es.Perm es') : ObjSame (some (.lmap es t)) (some (.lmap es' t))
  | forget (o : Option AObj) : ObjSame o none
structure HSame (H H' : AHeap) : Prop where
  obj : ∀ i, ObjSame (H.get i) (H'.get i)
  nx : H.next ≤ H'.next
theorem MapR.perm {E : Env} {w : World} {es es' : List (AV × AV)} {rows : Array MapEntry} {clock : Nat} (hp : es.Perm es') (h : MapR E w es rows clock) : MapR E w es' rows clock := by
  obtain ⟨e0, h1, h2, h3, h4⟩ := h
  exact ⟨e0, h1, h2.trans hp, (hp.pairwise_iff (fun h e => h e.symm)).1 h3, h4⟩
theorem ObjSame.rel {E : Env} {w : World} {L : Loc} {o o' : AObj} (h : ObjSame (some o) (some o')) (hO : ObjR E w L o) : ObjR E w L o' := by
  cases h with
  | refl => exact hO
  | map hp =>
    obtain ⟨rows, clock, h1, h2⟩ := hO
    exact ⟨rows, clock, h1, h2.perm hp⟩
  | lmap hp =>
    obtain ⟨rows, clock, h1, h2, h3⟩ := hO
    exact ⟨rows, clock, h1, h2.perm hp, h3⟩
theorem HSame.some {H H' : AHeap} (h : HSame H H') {i : Nat} {o' : AObj} (hg : H'.get i = Option.some o') : ∃ o, H.get i = Option.some o ∧ ObjSame (Option.some o) (Option.some o') := by
  have := h.obj i
  rw [hg] at this
  cases hq : H.get i with
  | none => rw [hq] at this; cases this
  | some o => rw [hq] at this; exact ⟨o, rfl, this⟩
theorem Rel.same {E : Env} {H H' : AHeap} {w : World} (h : Rel E H w) (hs : HSame H H') : Rel E H' w where
  dom := fun i L hi => ⟨Nat.lt_of_lt_of_le (h.dom i L hi).1 hs.nx, (h.dom i L hi).2⟩
  imm := h.imm
  obj := fun i o' hg => by
    obtain ⟨o, hg', ho⟩ := hs.some hg
    obtain ⟨L, h1, h2, h3⟩ := h.obj i o hg'
    exact ⟨L, h1, ho.rel h2, h3⟩
  inj := fun i j o o' L L' hi hj hρ hρ' hne => by
    obtain ⟨p, hp, _⟩ := hs.some hi
    obtain ⟨q, hq, _⟩ := hs.some hj
    exact h.inj i j p q L L' hp hq hρ hρ' hne
theorem Step.same {E E' : Env} {H H' H'' : AHeap} {w w' : World} (h : Step E H w E' H' w') (hs : HSame H' H'') : Step E H w E' H'' w' where
  ext := h.ext
  rel := h.rel.same hs
  fr := h.fr
  nb := fun i o L hg hρ => by
    obtain ⟨p, hp, _⟩ := hs.some hg
    exact h.nb i p L hp hρ
  nx := Nat.le_trans h.nx hs.nx
  ids := h.ids
  imm := h.imm
def Fits (e : XE) (s : St) (e' : XE) (s' : St) : Prop := e' = e ∧ HSame s'.H s.H ∧ ∀ t x, s.tm.get t = some x → s'.tm.get t = some x
theorem Fits.refl (e : XE) (s : St) : Fits e s e s := ⟨rfl, ⟨fun _ => .refl _, Nat.le_refl _⟩, fun _ _ h => h⟩
def exOf : XE → Exit
  | .normal => .normal
  | .exit id => .exit id
  | .ret => .ret
def CodeOK (P : Program) (c : Code) (nt : Nat) (s : St) (e : XE) (s' : St) : Prop :=
  ∀ (E : Env) (w : World) (a : Act), a.tmps.size = nt → Rel E s.H w → TmR E w s.tm a.tmps → ∀ Q : Exit → Act → World → Prop,
    (∀ E' a' w', Step E s.H w E' s'.H w' → TmR E' w' s'.tm a'.tmps → a'.defers = a.defers → a'.tmps.size = nt → Q (exOf e) a' w') → c.wp P Q a w
end Go.Eng
end
section
namespace Go.Eng
variable {P : Program}
section
variable {cf : CF}
theorem loop_sound {c : Code} {nt : Nat} {body : St → Option (XE × St)} (hb : ∀ s e s', body s = some (e, s') → CodeOK P c nt s e s') : ∀ (k : Nat) (s : St) (e : XE) (s' : St), loopF body k s = some (e, s') →
    ∀ (E : Env) (w : World) (a : Act), a.tmps.size = nt → Rel E s.H w → TmR E w s.tm a.tmps → ∀ Q : Exit → Act → World → Prop,
    (∀ E' a' w', Step E s.H w E' s'.H w' → TmR E' w' s'.tm a'.tmps → a'.defers = a.defers → a'.tmps.size = nt → Q (exOf e) a' w') → Code.rounds P c Q k a w
  | 0, s, e, s', h => by cases h
  | k + 1, s, e, s', h => by
    intro E w a hsz hR hT Q hQ
    rw [rounds_succ]
    simp only [loopF] at h
    split at h
    · rename_i s1 hs1
      refine hb s _ s1 hs1 E w a hsz hR hT _ (fun E1 a1 w1 h1 h2 h3 h4 => ?_)
      exact loop_sound hb k s1 e s' h E1 w1 a1 h4 h1.rel h2 Q (fun E' a' w' q1 q2 q3 q4 => hQ E' a' w' (h1.trans q1) q2 (q3.trans h3) q4)
    · rename_i r hne
      refine hb s e s' h E w a hsz hR hT _ (fun E1 a1 w1 h1 h2 h3 h4 => ?_)
      cases e with
      | normal => exact absurd h (hne _)
      | exit id => exact hQ E1 a1 w1 h1 h2 h3 h4
      | ret => exact hQ E1 a1 w1 h1 h2 h3 h4
theorem code_sound (hmix : P.follows .mixedOrders = true) (hcf : CFok P cf) (fuel nt : Nat) : ∀ (c : Code) (xc : XCode), compCode P c = some xc → xc.room nt = true → ∀ (s : St) (e : XE) (s' : St), xcode cf fuel xc s = some (e, s') → CodeOK P c nt s e s'
  | .skip, xc, hc, hr, s, e, s', h => by
    simp only [compCode, Option.some.injEq] at hc
    subst hc
    simp only [xcode, Option.some.injEq, Prod.mk.injEq] at h
    obtain ⟨rfl, rfl⟩ := h
    intro E w a hsz hR hT Q hQ
    exact wp_skip (hQ E a w (Step.refl hR) hT rfl hsz)
  | .region id ops draw, xc, hc, hr, s, e, s', h => by
    intro E w a hsz hR hT Q hQ
    simp only [compCode, bind] at hc
    obtain ⟨xs, hxs, hc⟩ := bindSome hc
    have hb : (bump s xs.length).H.next = s.H.next + xs.length := rfl
    have hRb : Rel E (bump s xs.length).H w := ⟨fun i L hi => by
      have := hR.dom i L hi
      rw [hb]
      exact ⟨by omega, this.2⟩, hR.imm, hR.obj, hR.inj⟩
    obtain ⟨l1, l2⟩ := mapM_get hxs
    cases draw with
    | true =>
      simp only [if_true] at hc
      split at hc
      · rename_i hok
        cases hc
        simp only [xcode] at h
        obtain ⟨s1, hs1, he⟩ := Option.map_eq_some_iff.1 h
        cases he
        simp only [XCode.room, List.all_eq_true] at hr
        refine regd_sound hmix hcf hxs hok hs1 (fun x hx => by rw [hsz]; exact hr x hx) hR hT (fun E' a' w' q1 q2 q3 q4 => hQ E' a' w' q1 q2 q3 (q4.trans hsz))
      · cases hc
    | false =>
      simp only [Bool.false_eq_true, if_false] at hc
      cases hc
      simp only [xcode] at h
      obtain ⟨s1, hs1, he⟩ := Option.map_eq_some_iff.1 h
      cases he
      simp only [XCode.room, List.all_eq_true] at hr
      refine wp_region ?_
      have hlen : ops.size = xs.length := by rw [l1]; simp
      rw [List.range_eq_range', hlen]
      refine ops_sound hcf (base := s.H.next) xs 0 (bump s xs.length) s' E w a (fun k x hk => ?_) (fun x hx => by rw [hsz]; exact hr x hx) hs1 hRb hT (fun k _ _ => ?_) (by rw [hb]; omega) (fun E' a' w' r1 r2 r3 r4 => ?_)
      · obtain ⟨o, q1, q2⟩ := l2 k x hk
        exact ⟨o, by simpa using q1, q2⟩
      · cases hq : E.ρ (s.H.next + k) with
        | none => rfl
        | some L => have := (hR.dom _ L hq).1; omega
      · refine hQ E' a' w' ⟨r1.ext, r1.rel, ⟨r1.fr.os, r1.fr.tape, r1.fr.output, r1.fr.size, r1.fr.block⟩, r1.nb, ?_, r1.ids, r1.imm⟩ r2 r3 (r4.trans hsz)
        have := r1.nx
        rw [hb] at this
        omega
  | .seq x y, xc, hc, hr, s, e, s', h => by
    intro E w a hsz hR hT Q hQ
    simp only [compCode, bind] at hc
    obtain ⟨xa, hxa, hc⟩ := bindSome hc
    obtain ⟨xb, hxb, hc⟩ := bindSome hc
    simp only [Option.some.injEq] at hc
    subst hc
    simp only [XCode.room, Bool.and_eq_true] at hr
    simp only [xcode] at h
    refine wp_seq ?_
    split at h
    · rename_i s1 hs1
      refine code_sound hmix hcf fuel nt x xa hxa hr.1 s _ s1 hs1 E w a hsz hR hT _ (fun E1 a1 w1 h1 h2 h3 h4 => ?_)
      exact code_sound hmix hcf fuel nt y xb hxb hr.2 s1 e s' h E1 w1 a1 h4 h1.rel h2 Q (fun E' a' w' q1 q2 q3 q4 => hQ E' a' w' (h1.trans q1) q2 (q3.trans h3) q4)
    · rename_i r hne
      refine code_sound hmix hcf fuel nt x xa hxa hr.1 s e s' h E w a hsz hR hT _ (fun E1 a1 w1 h1 h2 h3 h4 => ?_)
      cases e with
      | normal => exact absurd h (hne _)
      | exit id => exact hQ E1 a1 w1 h1 h2 h3 h4
      | ret => exact hQ E1 a1 w1 h1 h2 h3 h4
  | .cond c x y, xc, hc, hr, s, e, s', h => by
    intro E w a hsz hR hT Q hQ
    simp only [compCode, bind] at hc
    obtain ⟨c', hc', hc⟩ := bindSome hc
    obtain ⟨xa, hxa, hc⟩ := bindSome hc
    obtain ⟨xb, hxb, hc⟩ := bindSome hc
    cases hc
    simp only [XCode.room, Bool.and_eq_true] at hr
    simp only [xcode] at h
    split at h
    · rename_i hv
      exact wp_cond_true (ev_rel hT hc' hv).bool_inv (code_sound hmix hcf fuel nt x xa hxa hr.1 s e s' h E w a hsz hR hT Q hQ)
    · rename_i hv
      exact wp_cond_false (ev_rel hT hc' hv).bool_inv (code_sound hmix hcf fuel nt y xb hxb hr.2 s e s' h E w a hsz hR hT Q hQ)
    · cases h
  | .block id c, xc, hc, hr, s, e, s', h => by
    intro E w a hsz hR hT Q hQ
    simp only [compCode, bind] at hc
    obtain ⟨xa, hxa, hc⟩ := bindSome hc
    cases hc
    simp only [XCode.room] at hr
    simp only [xcode] at h
    refine wp_block ?_
    split at h
    · rename_i i s1 hs1
      refine code_sound hmix hcf fuel nt c xa hxa hr s _ s1 hs1 E w a hsz hR hT _ (fun E1 a1 w1 h1 h2 h3 h4 => ?_)
      split at h
      · rename_i hid
        cases h
        simp only [exOf, Exit.inBlock, hid, if_true]
        exact hQ E1 a1 w1 h1 h2 h3 h4
      · rename_i hid
        cases h
        simp only [exOf, Exit.inBlock, hid, if_false]
        exact hQ E1 a1 w1 h1 h2 h3 h4
    · rename_i r hne
      refine code_sound hmix hcf fuel nt c xa hxa hr s e s' h E w a hsz hR hT _ (fun E1 a1 w1 h1 h2 h3 h4 => ?_)
      cases e with
      | normal => exact hQ E1 a1 w1 h1 h2 h3 h4
      | exit i => exact absurd h (hne _ _)
      | ret => exact hQ E1 a1 w1 h1 h2 h3 h4
  | .loop c, xc, hc, hr, s, e, s', h => by
    intro E w a hsz hR hT Q hQ
    simp only [compCode, bind] at hc
    obtain ⟨xa, hxa, hc⟩ := bindSome hc
    cases hc
    simp only [XCode.room] at hr
    simp only [xcode] at h
    exact wp_loop_rounds fuel (loop_sound (fun s e s' hs => code_sound hmix hcf fuel nt c xa hxa hr s e s' hs) fuel s e s' h E w a hsz hR hT Q hQ)
  | .exit id, xc, hc, hr, s, e, s', h => by
    simp only [compCode, Option.some.injEq] at hc
    subst hc
    simp only [xcode, Option.some.injEq, Prod.mk.injEq] at h
    obtain ⟨rfl, rfl⟩ := h
    intro E w a hsz hR hT Q hQ
    exact wp_exit (hQ E a w (Step.refl hR) hT rfl hsz)
  | .ret, xc, hc, hr, s, e, s', h => by
    simp only [compCode, Option.some.injEq] at hc
    subst hc
    simp only [xcode, Option.some.injEq, Prod.mk.injEq] at h
    obtain ⟨rfl, rfl⟩ := h
    intro E w a hsz hR hT Q hQ
    exact wp_ret (hQ E a w (Step.refl hR) hT rfl hsz)
  | .rangeFunc .., xc, hc, _, _, _, _, _ => by simp [compCode] at hc
  | .scope _, xc, hc, _, _, _, _, _ => by simp [compCode] at hc
  | .label _, xc, hc, _, _, _, _, _ => by simp [compCode] at hc
  | .goto _, xc, hc, _, _, _, _, _ => by simp [compCode] at hc
  | .refuse _, xc, hc, _, _, _, _, _ => by simp [compCode] at hc
termination_by c => SizeOf.sizeOf c
decreasing_by all_goals (first | exact hlt | (simp_wf; omega) | (simp_wf; done))
theorem argsT_get : ∀ (l : List AV) (n : Nat) (t : Tr AV) (i : Nat), (argsT l n t).get i = if n ≤ i ∧ i < n + l.length then l[i - n]? else t.get i
  | [], n, t, i => by
    simp only [argsT, List.length_nil, Nat.add_zero]
    rw [if_neg (by omega)]
  | x :: l, n, t, i => by
    simp only [argsT, List.length_cons]
    rw [argsT_get l (n + 1)]
    by_cases h : n + 1 ≤ i ∧ i < n + 1 + l.length
    · rw [if_pos h, if_pos (by omega), show i - n = (i - (n + 1)) + 1 by omega, List.getElem?_cons_succ]
    · rw [if_neg h, Tr.get_set]
      by_cases e : i = n
      · subst e
        rw [if_pos rfl, if_pos (by omega)]
        simp
      · rw [if_neg e, if_neg (by omega)]
theorem cell_result {E : Env} {w : World} {H : AHeap} (hR : Rel E H w) {t : TypeId} {n : Option Nat} (hs : shapeOf P t = some n) {x r : AV} {u : Value} (hx : AVRel E w x u) (h : loadA H n x = some r) :
    ∃ q, (do loadVar t (← asAddr u) : Sem Value).run P w = .ok q w ∧ AVRel E w r q := by
  obtain ⟨q, h1, h2⟩ := load_sound hR hs hx h
  refine ⟨q, ?_, h2⟩
  have : ∃ a, u = .pointer (some a) := by
    unfold loadA at h
    split at h
    · cases h
    · rename_i c hc
      obtain ⟨b, o, us, rfl, _⟩ := cellsAt_sound hR hc hx
      exact ⟨_, rfl⟩
  obtain ⟨a, rfl⟩ := this
  exact h1
def resM (tmps : Array Value) : ResultVar → Sem Value
  | .tmp t => pure (tmps.getD t undef)
  | .cell a t => do loadVar t (← asAddr (tmps.getD a undef))
theorem results_eq (fn : Func) (tmps : Array Value) : results fn tmps = (do
    let vs ← fn.results.mapM (resM tmps)
    pure (if h : vs.size = 1 then vs[0] else .tuple vs)) := by
  rfl
theorem res_sound {E : Env} {w : World} {s : St} (hR : Rel E s.H w) {tmps : Array Value} (hT : TmR E w s.tm tmps) : ∀ {rs : List ResultVar} {xr : List XRes} {l : List AV}, rs.mapM (compRes P) = some xr → resL s xr = some l →
    ∃ vs, (rs.mapM (resM tmps)).run P w = .ok vs w ∧ AVRelL E w l vs
  | [], xr, l, h, h' => by
    simp at h
    subst h
    simp only [resL, Option.some.injEq] at h'
    subst h'
    exact ⟨[], by simp, by simp [AVRelL]⟩
  | r :: rs, xr, l, h, h' => by
    rw [List.mapM_cons] at h
    simp only [bind] at h
    obtain ⟨y, hy, h⟩ := bindSome h
    obtain ⟨ys, hys, h⟩ := bindSome h
    cases h
    simp only [resL, bind] at h'
    obtain ⟨x, hx, h'⟩ := bindSome h'
    obtain ⟨xs, hxs, h'⟩ := bindSome h'
    cases h'
    obtain ⟨vs, q1, q2⟩ := res_sound hR hT hys hxs
    have hone : ∃ v, (resM tmps r).run P w = .ok v w ∧ AVRel E w x v := by
      cases r with
      | tmp t =>
        simp only [compRes, Option.some.injEq] at hy
        subst hy
        simp only [resA] at hx
        obtain ⟨u, hu1, hu2⟩ := hT t x hx
        refine ⟨u, ?_, hu2⟩
        simp [resM, Array.getD_eq_getD_getElem?, hu1]
      | cell a t =>
        simp only [compRes, bind] at hy
        obtain ⟨n, hn, hy⟩ := bindSome hy
        cases hy
        simp only [resA] at hx
        obtain ⟨p, hp, hx⟩ := bindSome hx
        obtain ⟨u, hu1, hu2⟩ := hT a p hp
        obtain ⟨q, h1, h2⟩ := cell_result hR hn hu2 hx
        refine ⟨q, ?_, h2⟩
        have : tmps.getD a undef = u := by simp [Array.getD_eq_getD_getElem?, hu1]
        simp only [resM, this]
        exact h1
    obtain ⟨v, h1, h2⟩ := hone
    refine ⟨v :: vs, ?_, ?_⟩
    · rw [List.mapM_cons]
      simp [h1, q1]
    · simp only [AVRelL]
      exact ⟨v, vs, rfl, h2, q2⟩
theorem xfunc_sound (hmix : P.follows .mixedOrders = true) (hcf : CFok P cf) (fuel : Nat) {f : Nat} {fn : XFunc} (hc : compFunc P f = some fn) {args : List AV} {H H' : AHeap} {v : AV} (h : xfunc cf fuel fn args H = some (v, H')) : CallOK P f args H v H' := by
  unfold compFunc at hc
  simp only [bind] at hc
  obtain ⟨fd, hfd, hc⟩ := bindSome hc
  obtain ⟨c, hbody, hc⟩ := bindSome hc
  split at hc
  · cases hc
  · rename_i hname
    obtain ⟨xc, hxc, hc⟩ := bindSome hc
    split at hc
    · cases hc
    · rename_i hroom
      obtain ⟨rs, hrs, hc⟩ := bindSome hc
      cases hc
      refine ⟨⟨fd, hfd, by rw [hbody]; rfl, by simpa using hname⟩, fun E w us hR hus => ?_⟩
      unfold xfunc at h
      split at h
      · cases h
      · rename_i hnp
        simp only [not_or, ne_eq, Decidable.not_not, Nat.not_lt] at hnp
        split at h
        · rename_i e s1 hs1
          have hlen := hus.length
          have hsz : (us.toArray ++ Array.replicate (fd.ntmps - us.toArray.size) undef).size = fd.ntmps := by
            have := hnp.2
            simp only [Array.size_append, Array.size_replicate, List.size_toArray]
            omega
          have hT : TmR E w (argsT args 0 .e) (us.toArray ++ Array.replicate (fd.ntmps - us.toArray.size) undef) := by
            intro t x hx
            rw [argsT_get] at hx
            simp only [Nat.zero_le, Nat.zero_add, true_and, Nat.sub_zero] at hx
            split at hx
            · rename_i hlt
              obtain ⟨u, h1, h2⟩ := hus.get hx
              refine ⟨u, ?_, h2⟩
              rw [Array.getElem?_append_left (by simp only [List.size_toArray]; omega)]
              simpa using h1
            · simp [Tr.get] at hx
          refine calls_of_wp hfd hbody ?_
          refine code_sound hmix hcf fuel fd.ntmps c xc hxc (by simpa using hroom) ⟨argsT args 0 .e, H⟩ e s1 hs1 E w _ hsz hR hT _ (fun E' a' w' h1 h2 h3 h4 => ?_)
          have key : (e = .normal ∨ e = .ret) → ∃ l, resL s1 rs = some l ∧ (match l with | [x] => some (x, s1.H) | l => some (.tup l, s1.H)) = some (v, H') := by
            intro he
            have : (match resL s1 rs with | some [x] => some (x, s1.H) | some l => some (.tup l, s1.H) | none => none) = some (v, H') := by
              rcases he with rfl | rfl <;> exact h
            cases hl : resL s1 rs with
            | none => rw [hl] at this; cases this
            | some l =>
              rw [hl] at this
              refine ⟨l, rfl, ?_⟩
              match l, this with
              | [], q => exact q
              | [x], q => exact q
              | x :: y :: l, q => exact q
          have fin : (e = .normal ∨ e = .ret) → a'.defers = [] ∧ ∃ u, (results fd a'.tmps).run P w' = .ok u w' ∧ ∃ u' E', Ending.returned u = .returned u' ∧ Step E H w E' H' w' ∧ AVRel E' w' v u' := by
            intro he
            obtain ⟨l, hl, hv⟩ := key he
            refine ⟨h3, ?_⟩
            obtain ⟨vs, q1, q2⟩ := res_sound h1.rel h2 hrs hl
            have hm : (fd.results.mapM (resM a'.tmps)).run P w' = .ok vs.toArray w' := by
              rw [Array.mapM_eq_mapM_toList]
              simp [q1]
            match l, hv, q2 with
            | [x], hv, q2 =>
              cases hv
              simp only [AVRelL] at q2
              obtain ⟨u, us', rfl, q3, rfl⟩ := q2
              refine ⟨u, ?_, u, E', rfl, h1, q3⟩
              simp only [results_eq, Sem.run_bind, hm]
              simp
            | [], hv, q2 =>
              cases hv
              have hl2 := q2.length
              refine ⟨.tuple vs.toArray, ?_, _, E', rfl, h1, by simp only [AVRel]; exact ⟨_, rfl, by simpa using q2⟩⟩
              simp only [results_eq, Sem.run_bind, hm]
              simp only [List.length_nil] at hl2
              simp [hl2]
            | x :: y :: l, hv, q2 =>
              cases hv
              have hl2 := q2.length
              refine ⟨.tuple vs.toArray, ?_, _, E', rfl, h1, by simp only [AVRel]; exact ⟨_, rfl, by simpa using q2⟩⟩
              simp only [results_eq, Sem.run_bind, hm]
              simp only [List.length_cons] at hl2
              simp [hl2]
          cases e with
          | normal => exact fin (.inl rfl)
          | ret => exact fin (.inr rfl)
          | exit id => cases h
        · cases h
theorem xcall_sound (hmix : P.follows .mixedOrders = true) {F : Nat → Option XFunc} (hF : ∀ f fn, F f = some fn → compFunc P f = some fn) (fuel : Nat) : ∀ depth, CFok P (xcall F fuel depth)
  | 0 => fun f args H v H' h => by cases h
  | k + 1 => fun f args H v H' h => by
    simp only [xcall] at h
    split at h
    · rename_i fn hfn
      exact xfunc_sound hmix (xcall_sound hmix hF fuel k) fuel (hF f fn hfn) h
    · cases h
end
end Go.Eng
end
section
namespace Go.Eng
variable {P : Program}
def wrapL : List AV → AV
  | [x] => x
  | l => .tup l
def xcallK (K : CF) (F : Nat → Option XFunc) (fuel : Nat) : Nat → CF
  | 0, f, args, H => K f args H
  | k + 1, f, args, H => match K f args H with
    | some r => some r
    | none => match F f with
      | some fn => xfunc (xcallK K F fuel k) fuel fn args H
      | none => none
theorem xcallK_sound (hmix : P.follows .mixedOrders = true) {K : CF} (hK : CFok P K) {F : Nat → Option XFunc} (hF : ∀ f fn, F f = some fn → compFunc P f = some fn) (fuel : Nat) : ∀ k, CFok P (xcallK K F fuel k)
  | 0 => hK
  | k + 1 => by
    intro f args H v H' h
    unfold xcallK at h
    split at h
    · rename_i r hr
      cases h
      exact hK _ _ _ _ _ hr
    · split at h
      · rename_i fn hfn
        exact xfunc_sound hmix (xcallK_sound hmix hK hF fuel k) fuel (hF _ _ hfn) h
      · cases h
theorem loop_ex {α : Type} {body : St → Option (XE × St)} (I : α → St → Prop) (μ : α → Nat) (Q : XE → St → Prop)
    (h : ∀ i s, I i s → ∃ e s', body s = some (e, s') ∧ ((e = .normal ∧ ∃ j, I j s' ∧ μ j < μ i) ∨ (e ≠ .normal ∧ Q e s'))) : ∀ (n : Nat) (i : α) (s : St), μ i < n → I i s → ∃ e s', loopF body n s = some (e, s') ∧ Q e s' := by
  intro n
  induction n with
  | zero => intro i s h; omega
  | succ n ih =>
    intro i s hn hI
    obtain ⟨e, s1, h1, h2⟩ := h i s hI
    rcases h2 with ⟨rfl, j, hj, hlt⟩ | ⟨hne, hq⟩
    · obtain ⟨e', s', h3, h4⟩ := ih j s1 (by omega) hj
      exact ⟨e', s', by simp only [loopF, h1]; exact h3, h4⟩
    · refine ⟨e, s1, ?_, hq⟩
      cases e with
      | normal => exact absurd rfl hne
      | exit id => simp only [loopF, h1]
      | ret => simp only [loopF, h1]
theorem ev_t (tm : Tr AV) (n : Nat) : St.ev tm (.t n) = tm.get n := rfl
end Go.Eng
end
section
namespace Go.Eng
theorem wrapI (n : Int) (h1 : -9223372036854775808 ≤ n) (h2 : n < 9223372036854775808) : wrapA .i64 n = n := by
  simp only [wrapA, IntKind.wrap, IntKind.bits, IntKind.signed]
  simp
  omega
theorem idxOk_nat (i len : Nat) : idxOk (i : Int) len = decide (i < len) := by
  show Nat.blt i len = _
  rw [Bool.eq_iff_iff]
  simp [Nat.blt_eq]
theorem idxOk_lt {i len : Nat} (h : i < len) : idxOk (i : Int) len = true := by rw [idxOk_nat]; exact decide_eq_true h
theorem bndA_nat {y m : Nat} {k : IntKind} (h : m ≤ y) : bndA y (.int k (m : Int)) = some m := by
  show (if Nat.ble m y then some m else none) = some m
  rw [if_pos (by simpa using h)]
def Row (z : Nat) (H : AHeap) (v : AV) (l : Nat) (cs : List AV) : Prop :=
  cs.length = l * z ∧ ((v = .nils ∧ l = 0) ∨ ∃ i full, v = .sl i 0 l openCap ∧ H.get i = some (.cells full (some z)) ∧ full.take (l * z) = cs ∧ l * z ≤ full.length ∧ i < H.next)
def AV.own : AV → Option Nat
  | .sl i _ _ _ => some i
  | .map i => some i
  | .ptr i _ => some i
  | _ => none
theorem Row.nil (z : Nat) (H : AHeap) : Row z H .nils 0 [] := ⟨by simp, .inl ⟨rfl, rfl⟩⟩
theorem Row.frame {z : Nat} {H H' : AHeap} {v : AV} {l : Nat} {cs : List AV} (h : Row z H v l cs) (hn : H.next ≤ H'.next) (hg : ∀ i, v.own = some i → H'.get i = H.get i) : Row z H' v l cs := by
  refine ⟨h.1, ?_⟩
  rcases h.2 with h | ⟨i, full, rfl, h1, h2, h3, h4⟩
  · exact .inl h
  · exact .inr ⟨i, full, rfl, (hg i rfl).trans h1, h2, h3, by omega⟩
theorem Row.len {z : Nat} {H : AHeap} {v : AV} {l : Nat} {cs : List AV} (h : Row z H v l cs) : lenA v = some l := by
  rcases h.2 with ⟨rfl, rfl⟩ | ⟨i, full, rfl, _⟩ <;> rfl
theorem Row.own_lt {z : Nat} {H : AHeap} {v : AV} {l : Nat} {cs : List AV} (h : Row z H v l cs) {i : Nat} (hi : v.own = some i) : i < H.next := by
  rcases h.2 with ⟨rfl, rfl⟩ | ⟨j, full, rfl, _, _, _, h4⟩
  · cases hi
  · cases hi; exact h4
theorem Row.app {z bytes : Nat} {H : AHeap} {v y : AV} {l n : Nat} {cs new : List AV} (h : Row z H v l cs) (hz : 0 < z) (hl : l + n ≤ 2 ^ 30) (hn : 0 < n) (hb : bytes ≤ 2 ^ 16) (hy : lenA y = some n) (hs : srcA H z n y = some new) (hnl : new.length = n * z) (ho : new.all AV.oneCell = true) :
    ∃ v' H', appA H z bytes v y = .eff v' H' ∧ Row z H' v' (l + n) (cs ++ new) ∧ H.next ≤ H'.next ∧ (∀ j, j < H.next → v.own ≠ some j → H'.get j = H.get j) ∧ (∀ i, v'.own = some i → v.own = some i ∨ H.next ≤ i) := by
  obtain ⟨hcl, h⟩ := h
  unfold appA
  rw [hy]
  simp only [hs, ho, Bool.not_true, Bool.false_eq_true, false_or]
  rw [if_neg (by omega)]
  rcases h with ⟨rfl, rfl⟩ | ⟨i, full, rfl, hg, hf, hfl, hi⟩
  · simp only
    rw [if_neg (by omega), if_neg (by omega)]
    refine ⟨_, _, rfl, ⟨by simp [hnl, hcl], .inr ⟨H.next, new, by simp, by rw [AHeap.get_add, if_pos rfl], ?_, by simp [hnl], Nat.lt_succ_self _⟩⟩, Nat.le_succ _, fun j hj _ => by rw [AHeap.get_add, if_neg (by omega)], fun i hi => ?_⟩
    · have hc0 : cs = [] := List.eq_nil_of_length_eq_zero (by simpa using hcl)
      rw [Nat.zero_add, ← hnl, hc0]
      simp
    · simp only [AV.own, Option.some.injEq] at hi
      exact .inr (by omega)
  · simp only
    rw [if_neg (by omega)]
    simp only [hg]
    rw [if_neg (by omega), if_neg (by omega), if_neg (by decide)]
    have c1 : ((some z : Option Nat) == some z) = true := by simp
    have c2 : ((openCap - openCap) * z == 0) = true := by simp
    have c3 : (z == 0) = false := by simp; omega
    rw [if_neg (by rw [c1, c2, c3]; simp)]
    have ht : full.take (l * z) = cs := hf
    by_cases hfit : 0 + (l + n) * z ≤ full.length
    · rw [if_pos hfit]
      refine ⟨_, _, rfl, ⟨by rw [List.length_append, hcl, hnl, Nat.add_mul], .inr ⟨i, _, rfl, by rw [AHeap.get_set, if_pos rfl], ?_, ?_, hi⟩⟩, Nat.le_refl _, fun j hj hne => by rw [AHeap.get_set, if_neg (fun e => hne (by simp [AV.own, e]))], fun j hj => .inl hj⟩
      · simp only [overA, Nat.zero_add]
        rw [ht, List.take_append_of_le_length (by simp [hcl, hnl, Nat.add_mul]), ]
        rw [List.take_of_length_le (by simp [hcl, hnl, Nat.add_mul])]
      · simp only [overA, Nat.zero_add, List.length_append, List.length_take, List.length_drop, hnl]
        rw [Nat.add_mul] at hfit ⊢
        omega
    · rw [if_neg hfit]
      refine ⟨_, _, rfl, ⟨by rw [List.length_append, hcl, hnl, Nat.add_mul], .inr ⟨H.next, _, rfl, by rw [AHeap.get_add]; exact if_pos rfl, ?_, ?_, Nat.lt_succ_self _⟩⟩, Nat.le_succ _, fun j hj hne => ?_, fun j hj => ?_⟩
      · simp only [List.drop_zero]
        rw [ht, List.take_of_length_le (by simp [hcl, hnl, Nat.add_mul])]
      · simp only [List.drop_zero]
        rw [ht, List.length_append, hcl, hnl, Nat.add_mul]
        exact Nat.le_refl _
      · rw [AHeap.get_add, if_neg (by show ¬ j = H.next; omega), AHeap.get_set, if_neg (fun e => hne (by simp [AV.own, e]))]
      · simp only [AV.own, Option.some.injEq] at hj
        exact .inr (by rw [← hj]; exact Nat.le_refl _)
theorem Row.front {z : Nat} {H : AHeap} {v : AV} {l m : Nat} {cs : List AV} (h : Row z H v l cs) (hm : m ≤ l) (h0 : 0 < l) (ev : XO → Option AV) (x : XO) (k : IntKind) (hx : ev x = some (.int k (m : Int))) :
    ∃ v', cutA ev z v none (some x) none = some v' ∧ Row z H v' m (cs.take (m * z)) ∧ v'.own = v.own := by
  obtain ⟨hcl, h⟩ := h
  rcases h with ⟨rfl, rfl⟩ | ⟨i, full, rfl, hg, hf, hfl, hi⟩
  · omega
  · have hmz : m * z ≤ l * z := Nat.mul_le_mul_right z hm
    refine ⟨.sl i 0 m openCap, ?_, ⟨by rw [List.length_take, hcl]; omega, .inr ⟨i, full, rfl, hg, ?_, by omega, hi⟩⟩, rfl⟩
    · unfold cutA
      simp only
      rw [if_neg (by decide)]
      simp only [bounds, obnd, hiBnd, hx, Option.bind_some, bndA_nat hm]
      rw [Nat.sub_zero, if_pos (by decide)]
      simp
    · rw [← hf, List.take_take, Nat.min_eq_left hmz]
theorem Row.cell {z : Nat} {H : AHeap} {v : AV} {l j : Nat} {cs : List AV} (h : Row z H v l cs) (hj : j < l) (hz : 0 < z) (k : IntKind) :
    ∃ i, iaddrA z v (.int k (j : Int)) = some (.ptr i (j * z)) ∧ v.own = some i ∧ ∀ t, t < z → loadA H none (.ptr i (j * z + t)) = cs[j * z + t]? := by
  obtain ⟨hcl, h⟩ := h
  rcases h with ⟨rfl, rfl⟩ | ⟨i, full, rfl, hg, hf, hfl, hi⟩
  · omega
  · refine ⟨i, ?_, rfl, fun t ht => ?_⟩
    · simp only [iaddrA, idxOk_lt hj, if_true, Nat.zero_add]
      simp
    · have : j * z + z ≤ l * z := by
        have := Nat.mul_le_mul_right z (show j + 1 ≤ l from hj)
        rwa [Nat.add_mul, Nat.one_mul] at this
      simp only [loadA, cellsAt, hg]
      rw [List.getElem?_drop, ← hf, List.getElem?_take, if_pos (by omega), Nat.add_zero]
end Go.Eng
end
section
namespace Go.Eng
def AHeap.bump (H : AHeap) (k : Nat) : AHeap := ⟨H.m, H.next + k⟩
theorem get_bump (H : AHeap) (k j : Nat) : (H.bump k).get j = H.get j := rfl
theorem next_bump (H : AHeap) (k : Nat) : (H.bump k).next = H.next + k := rfl
theorem next_set (H : AHeap) (i : Nat) (o : Option AObj) : (H.set i o).next = H.next := rfl
theorem next_add (H : AHeap) (o : AObj) : (H.add o).next = H.next + 1 := rfl
def W (cf : CF) (fuel : Nat) (c : XCode) (s : St) (Q : XE → St → Prop) : Prop := ∃ e s', xcode cf fuel c s = some (e, s') ∧ Q e s'
def WO (cf : CF) (ops : List XOper) (n : Nat) (s : St) (Q : St → Prop) : Prop := ∃ s', xops cf ops n s = some s' ∧ Q s'
section
variable {cf : CF} {fuel : Nat} {s : St} {Q : XE → St → Prop}
theorem W.mono {c : XCode} {Q' : XE → St → Prop} (h : W cf fuel c s Q) (hq : ∀ e s', Q e s' → Q' e s') : W cf fuel c s Q' := by
  obtain ⟨e, s', h1, h2⟩ := h
  exact ⟨e, s', h1, hq _ _ h2⟩
theorem W.skip (h : Q .normal s) : W cf fuel .skip s Q := ⟨_, _, rfl, h⟩
theorem W.ret (h : Q .ret s) : W cf fuel .ret s Q := ⟨_, _, rfl, h⟩
theorem W.exit {id : Nat} (h : Q (.exit id) s) : W cf fuel (.exit id) s Q := ⟨_, _, rfl, h⟩
theorem W.seq {a b : XCode} (h : W cf fuel a s fun e s' => (e = .normal → W cf fuel b s' Q) ∧ (e ≠ .normal → Q e s')) : W cf fuel (.seq a b) s Q := by
  obtain ⟨e, s1, h1, h2, h3⟩ := h
  by_cases he : e = .normal
  · subst he
    obtain ⟨e', s', h4, h5⟩ := h2 rfl
    exact ⟨e', s', by simp only [xcode, h1]; exact h4, h5⟩
  · refine ⟨e, s1, ?_, h3 he⟩
    cases e with
    | normal => exact absurd rfl he
    | exit id => simp only [xcode, h1]
    | ret => simp only [xcode, h1]
theorem W.cond {c : XO} {a b : XCode} {tm : Tr AV} {H : AHeap} {v : Bool} (hc : St.ev tm c = some (.bool v)) (ht : v = true → W cf fuel a ⟨tm, H⟩ Q) (hf : v = false → W cf fuel b ⟨tm, H⟩ Q) : W cf fuel (.cond c a b) ⟨tm, H⟩ Q := by
  cases v with
  | true =>
    obtain ⟨e, s', h1, h2⟩ := ht rfl
    exact ⟨e, s', by simp only [xcode, hc]; exact h1, h2⟩
  | false =>
    obtain ⟨e, s', h1, h2⟩ := hf rfl
    exact ⟨e, s', by simp only [xcode, hc]; exact h1, h2⟩
theorem W.block {id : Nat} {c : XCode} (h : W cf fuel c s fun e s' => (e = .exit id → Q .normal s') ∧ (e ≠ .exit id → Q e s')) : W cf fuel (.block id c) s Q := by
  obtain ⟨e, s1, h1, h2, h3⟩ := h
  cases e with
  | normal => exact ⟨.normal, s1, by simp only [xcode, h1], h3 (by simp)⟩
  | ret => exact ⟨.ret, s1, by simp only [xcode, h1], h3 (by simp)⟩
  | exit i =>
    by_cases hi : i = id
    · subst hi
      exact ⟨.normal, s1, by simp only [xcode, h1, if_true], h2 rfl⟩
    · exact ⟨.exit i, s1, by simp only [xcode, h1]; rw [if_neg hi], h3 (by simpa using hi)⟩
theorem W.loop {α : Type} {c : XCode} (I : α → St → Prop) (μ : α → Nat) (i : α) (hI : I i s) (hm : μ i < fuel) (h : ∀ i s, I i s → W cf fuel c s fun e s' => (e = .normal → ∃ j, I j s' ∧ μ j < μ i) ∧ (e ≠ .normal → Q e s')) : W cf fuel (.loop c) s Q := by
  obtain ⟨e, s', h1, h2⟩ := loop_ex I μ Q (fun i s hi => by
    obtain ⟨e, s', h1, h2, h3⟩ := h i s hi
    by_cases he : e = .normal
    · exact ⟨e, s', h1, .inl ⟨he, h2 he⟩⟩
    · exact ⟨e, s', h1, .inr ⟨he, h3 he⟩⟩) fuel i s hm hI
  exact ⟨e, s', h1, h2⟩
theorem W.reg {ops : List XOper} {tm : Tr AV} {H : AHeap} (k : Nat) (hk : ops.length = k) (h : WO cf ops H.next ⟨tm, H.bump k⟩ fun s' => Q .normal s') : W cf fuel (.reg ops) ⟨tm, H⟩ Q := by
  obtain ⟨s', h1, h2⟩ := h
  subst hk
  have h1' : xops cf ops H.next (Go.Eng.bump ⟨tm, H⟩ ops.length) = some s' := h1
  exact ⟨.normal, s', by simp only [xcode, h1', Option.map_some], h2⟩
theorem WO.nil {n : Nat} {Q : St → Prop} (h : Q s) : WO cf [] n s Q := ⟨s, rfl, h⟩
theorem WO.op {d : Nat} {op : XOp} {r : List XOper} {tm : Tr AV} {H : AHeap} {n : Nat} {Q : St → Prop} {v : AV} {H1 : AHeap} (h : xval cf (St.ev tm) H n op = some (v, H1)) (k : WO cf r (n + 1) ⟨tm.set d (some v), H1⟩ Q) : WO cf (⟨some d, op, none⟩ :: r) n ⟨tm, H⟩ Q := by
  obtain ⟨s', h1, h2⟩ := k
  exact ⟨s', by simp only [xops, xstep, wantedA, h]; exact h1, h2⟩
theorem WO.opn {op : XOp} {r : List XOper} {tm : Tr AV} {H : AHeap} {n : Nat} {Q : St → Prop} {v : AV} {H1 : AHeap} (h : xval cf (St.ev tm) H n op = some (v, H1)) (k : WO cf r (n + 1) ⟨tm, H1⟩ Q) : WO cf (⟨none, op, none⟩ :: r) n ⟨tm, H⟩ Q := by
  obtain ⟨s', h1, h2⟩ := k
  exact ⟨s', by simp only [xops, xstep, wantedA, h]; exact h1, h2⟩
theorem WO.gop {d : Nat} {op : XOp} {r : List XOper} {tm : Tr AV} {H : AHeap} {n : Nat} {Q : St → Prop} {v : AV} {H1 : AHeap} {g : Nat} {b : Bool} (hg : tm.get g = some (.bool b)) (h : xval cf (St.ev tm) H n op = some (v, H1)) (k : WO cf r (n + 1) ⟨tm.set d (some v), H1⟩ Q) : WO cf (⟨some d, op, some (g, b)⟩ :: r) n ⟨tm, H⟩ Q := by
  obtain ⟨s', h1, h2⟩ := k
  exact ⟨s', by simp only [xops, xstep, wantedA, hg, beq_self_eq_true, h]; exact h1, h2⟩
theorem WO.gno {d : Nat} {op : XOp} {r : List XOper} {tm : Tr AV} {H : AHeap} {n : Nat} {Q : St → Prop} {g : Nat} {b c : Bool} (hg : tm.get g = some (.bool c)) (hne : (c == b) = false) (k : WO cf r (n + 1) ⟨tm.set d (some undefA), H⟩ Q) : WO cf (⟨some d, op, some (g, b)⟩ :: r) n ⟨tm, H⟩ Q := by
  obtain ⟨s', h1, h2⟩ := k
  exact ⟨s', by simp only [xops, xstep, wantedA, hg, hne]; exact h1, h2⟩
theorem W.condT {c : XO} {a b : XCode} {tm : Tr AV} {H : AHeap} (hc : St.ev tm c = some (.bool true)) (h : W cf fuel a ⟨tm, H⟩ Q) : W cf fuel (.cond c a b) ⟨tm, H⟩ Q := W.cond hc (fun _ => h) (fun q => by cases q)
theorem W.condF {c : XO} {a b : XCode} {tm : Tr AV} {H : AHeap} (hc : St.ev tm c = some (.bool false)) (h : W cf fuel b ⟨tm, H⟩ Q) : W cf fuel (.cond c a b) ⟨tm, H⟩ Q := W.cond hc (fun q => by cases q) (fun _ => h)
theorem W.rg {ops : List XOper} {tm : Tr AV} {H : AHeap} (k : Nat) (hk : ops.length = k) (h : ∀ H1 : AHeap, (∀ j, H1.get j = H.get j) → H1.next = H.next + k → WO cf ops H.next ⟨tm, H1⟩ fun s' => Q .normal s') : W cf fuel (.reg ops) ⟨tm, H⟩ Q :=
  W.reg k hk (h (H.bump k) (fun _ => rfl) rfl)
theorem pN {A : Prop} {B : Prop} (h : A) : (XE.normal = XE.normal → A) ∧ (XE.normal ≠ XE.normal → B) := ⟨fun _ => h, fun q => absurd rfl q⟩
theorem pR {A : Prop} {B : Prop} (h : B) : (XE.ret = XE.normal → A) ∧ (XE.ret ≠ XE.normal → B) := ⟨fun q => (by cases q), fun _ => h⟩
theorem pX {i : Nat} {A : Prop} {B : Prop} (h : B) : (XE.exit i = XE.normal → A) ∧ (XE.exit i ≠ XE.normal → B) := ⟨fun q => (by cases q), fun _ => h⟩
theorem bN {i : Nat} {A : Prop} {B : Prop} (h : B) : (XE.normal = XE.exit i → A) ∧ (XE.normal ≠ XE.exit i → B) := ⟨fun q => (by cases q), fun _ => h⟩
theorem bR {i : Nat} {A : Prop} {B : Prop} (h : B) : (XE.ret = XE.exit i → A) ∧ (XE.ret ≠ XE.exit i → B) := ⟨fun q => (by cases q), fun _ => h⟩
theorem bX {i : Nat} {A : Prop} {B : Prop} (h : A) : (XE.exit i = XE.exit i → A) ∧ (XE.exit i ≠ XE.exit i → B) := ⟨fun _ => h, fun q => absurd rfl q⟩
theorem bO {i j : Nat} (hij : j ≠ i) {A : Prop} {B : Prop} (h : B) : (XE.exit j = XE.exit i → A) ∧ (XE.exit j ≠ XE.exit i → B) := ⟨fun q => (by cases q; exact absurd rfl hij), fun _ => h⟩
theorem op_mv {n : Nat} {H : AHeap} {v : AV} {ev : XO → Option AV} {x : XO} (hx : ev x = some v) : xval cf ev H n (.mv x) = some (v, H) := by
  simp only [xval, xop, hx, AR.ofV]
theorem op_bin {n : Nat} {H : AHeap} {a b v : AV} {ev : XO → Option AV} {o : BinOp} {x y : XO} (hx : ev x = some a) (hy : ev y = some b) (h : binA o a b = some v) : xval cf ev H n (.bin o x y) = some (v, H) := by
  simp only [xval, xop, hx, hy, h, AR.ofV]
theorem op_sidx {n i : Nat} {k : IntKind} {H : AHeap} {s : List UInt8} {b : UInt8} {ev : XO → Option AV} {x y : XO} (hx : ev x = some (.str s)) (hy : ev y = some (.int k (i : Int))) (h : s[i]? = some b) : xval cf ev H n (.sidx x y) = some (.int .u8 b.toNat, H) := by
  have hi : i < s.length := by
    rcases Nat.lt_or_ge i s.length with q | q
    · exact q
    · rw [List.getElem?_eq_none q] at h; cases h
  simp only [xval, xop, hx, hy, idxOk_lt hi, if_true, Int.toNat_natCast, h, Option.map_some, AR.ofV]
theorem op_slen {n : Nat} {H : AHeap} {s : List UInt8} {ev : XO → Option AV} {x : XO} (hx : ev x = some (.str s)) : xval cf ev H n (.slen x) = some (.int .i64 (s.length : Int), H) := by
  simp only [xval, xop, hx]
theorem op_faddr {n o i p : Nat} {H : AHeap} {ev : XO → Option AV} {x : XO} (hx : ev x = some (.ptr i p)) : xval cf ev H n (.faddr o x) = some (.ptr i (p + o), H) := by
  simp only [xval, xop, hx]
theorem op_nilc {n i p : Nat} {H : AHeap} {ev : XO → Option AV} {x : XO} (hx : ev x = some (.ptr i p)) : xval cf ev H n (.nilc x) = some (.ptr i p, H) := by
  simp only [xval, xop, hx]
theorem op_pick {n : Nat} {H : AHeap} {v w : AV} {ev : XO → Option AV} {x y z : XO} (hx : ev x = some w) (h : (w = .bool true ∧ ev y = some v) ∨ (w = .bool false ∧ ev z = some v)) : xval cf ev H n (.pick x y z) = some (v, H) := by
  rcases h with ⟨rfl, h⟩ | ⟨rfl, h⟩ <;> simp only [xval, xop, hx, h, AR.ofV]
theorem op_ext {n i : Nat} {H : AHeap} {l : List AV} {v : AV} {ev : XO → Option AV} {x : XO} (hx : ev x = some (.tup l)) (h : l[i]? = some v) : xval cf ev H n (.ext x i) = some (v, H) := by
  simp only [xval, xop, hx, h, AR.ofV]
theorem op_un {n : Nat} {H : AHeap} {a v : AV} {ev : XO → Option AV} {o : UnOp} {x : XO} (hx : ev x = some a) (h : unA o a = some v) : xval cf ev H n (.un o x) = some (v, H) := by
  simp only [xval, xop, hx, Option.bind_some, h, AR.ofV]
theorem op_loadc {n i o : Nat} {c : List AV} {opn : Option Nat} {v : AV} {H : AHeap} {ev : XO → Option AV} {x : XO} (hx : ev x = some (.ptr i o)) (hH : H.get i = some (.cells c opn)) (h : c[o]? = some v) : xval cf ev H n (.load none x) = some (v, H) := by
  simp only [xval, xop, hx, Option.bind_some, loadA, cellsAt, hH, List.getElem?_drop, Nat.add_zero, h, AR.ofV]
theorem op_aaddr {len z n i p j : Nat} {k : IntKind} {H : AHeap} {ev : XO → Option AV} {x y : XO} (hx : ev x = some (.ptr i p)) (hy : ev y = some (.int k (j : Int))) (h : j < len) : xval cf ev H n (.aaddr len z x y) = some (.ptr i (p + j * z), H) := by
  simp only [xval, xop, hx, hy, aaddrA, idxOk_lt h, if_true, Int.toNat_natCast, AR.ofV]
theorem op_load {n : Nat} {m : Option Nat} {H : AHeap} {a v : AV} {ev : XO → Option AV} {x : XO} (hx : ev x = some a) (h : loadA H m a = some v) : xval cf ev H n (.load m x) = some (v, H) := by
  simp only [xval, xop, hx, Option.bind_some, h, AR.ofV]
theorem op_cut {z n : Nat} {H : AHeap} {v v' : AV} {ev : XO → Option AV} {x : XO} {lo hi mx : Option XO} (hx : ev x = some v) (h : cutA ev z v lo hi mx = some v') : xval cf ev H n (.cut z x lo hi mx) = some (v', H) := by
  simp only [xval, xop, hx, Option.bind_some, h, AR.ofV]
theorem op_call {n g : Nat} {H H1 : AHeap} {v : AV} {ev : XO → Option AV} {x : XO} {xs : List XO} {cs l : List AV} (hx : ev x = some (.fn g cs)) (hl : evL ev xs = some l) (h : cf g (l ++ cs) H = some (v, H1)) : xval cf ev H n (.call x xs) = some (v, H1) := by
  simp only [xval, hx, hl, h]
theorem WO.front {d z n l m : Nat} {x y : XO} {kd : IntKind} {r : List XOper} {tm : Tr AV} {H : AHeap} {Q : St → Prop} {v : AV} {cs : List AV} (hR : Row z H v l cs) (hx : St.ev tm x = some v) (hy : St.ev tm y = some (.int kd (m : Int))) (hm : m ≤ l) (h0 : 0 < l)
    (k : ∀ v', Row z H v' m (cs.take (m * z)) → v'.own = v.own → WO cf r (n + 1) ⟨tm.set d (some v'), H⟩ Q) : WO cf (⟨some d, .cut z x none (some y) none, none⟩ :: r) n ⟨tm, H⟩ Q := by
  obtain ⟨v', h1, h2, h3⟩ := hR.front hm h0 (St.ev tm) y kd hy
  exact WO.op (op_cut hx h1) (k v' h2 h3)
theorem W.condT' {c : XO} {a b : XCode} {tm : Tr AV} {H : AHeap} {v : AV} (hc : St.ev tm c = some v) (hv : v = .bool true) (h : W cf fuel a ⟨tm, H⟩ Q) : W cf fuel (.cond c a b) ⟨tm, H⟩ Q := W.condT (hv ▸ hc) h
theorem W.condF' {c : XO} {a b : XCode} {tm : Tr AV} {H : AHeap} {v : AV} (hc : St.ev tm c = some v) (hv : v = .bool false) (h : W cf fuel b ⟨tm, H⟩ Q) : W cf fuel (.cond c a b) ⟨tm, H⟩ Q := W.condF (hv ▸ hc) h
theorem WO.gop' {d : Nat} {op : XOp} {r : List XOper} {tm : Tr AV} {H : AHeap} {n : Nat} {Q : St → Prop} {v u : AV} {H1 : AHeap} {g : Nat} {b : Bool} (hg : tm.get g = some u) (hu : u = .bool b) (h : xval cf (St.ev tm) H n op = some (v, H1)) (k : WO cf r (n + 1) ⟨tm.set d (some v), H1⟩ Q) : WO cf (⟨some d, op, some (g, b)⟩ :: r) n ⟨tm, H⟩ Q := WO.gop (hu ▸ hg) h k
theorem WO.gno' {d : Nat} {op : XOp} {r : List XOper} {tm : Tr AV} {H : AHeap} {n : Nat} {Q : St → Prop} {u : AV} {g : Nat} {b : Bool} (hg : tm.get g = some u) (hu : u = .bool (!b)) (k : WO cf r (n + 1) ⟨tm.set d (some undefA), H⟩ Q) : WO cf (⟨some d, op, some (g, b)⟩ :: r) n ⟨tm, H⟩ Q := WO.gno (hu ▸ hg) (by cases b <;> rfl) k
theorem xfunc_of {fn : XFunc} {args : List AV} {H : AHeap} (hn : args.length = fn.np) (ht : args.length ≤ fn.nt) {Q : AV → AHeap → Prop}
    (h : W cf fuel fn.code ⟨argsT args 0 .e, H⟩ fun e s' => (∀ id, e ≠ .exit id) ∧ ∃ l, resL s' fn.res = some l ∧ Q (wrapL l) s'.H) : ∃ v H', xfunc cf fuel fn args H = some (v, H') ∧ Q v H' := by
  obtain ⟨e, s', h1, h2, l, h3, h4⟩ := h
  refine ⟨_, _, ?_, h4⟩
  unfold xfunc
  rw [if_neg (by omega)]
  simp only [h1, h3]
  cases e with
  | exit id => exact absurd rfl (h2 id)
  | normal =>
    match l with
    | [] => rfl
    | [x] => rfl
    | x :: y :: l => rfl
  | ret =>
    match l with
    | [] => rfl
    | [x] => rfl
    | x :: y :: l => rfl
end
attribute [irreducible] W WO
end Go.Eng
end
section
namespace Go.Eng
section
variable {cf : CF} {fuel : Nat} {Q : XE → St → Prop}
theorem xtrace_last : ∀ (ops : List XOper) (n : Nat) (s s' : St), xops cf ops n s = some s' → ∃ tr, xtrace cf ops n s = some tr ∧ tr.getLast? = some s'
  | [], n, s, s', h => by
    simp only [xops, Option.some.injEq] at h
    subst h
    exact ⟨[s], rfl, rfl⟩
  | o :: r, n, s, s', h => by
    simp only [xops] at h
    split at h
    · rename_i s1 h1
      obtain ⟨tr, h2, h3⟩ := xtrace_last r (n + 1) s1 s' h
      refine ⟨s :: tr, by simp only [xtrace, h1, h2, Option.map_some], ?_⟩
      rw [List.getLast?_cons, h3]
      rfl
    · cases h
theorem W.regd0 {ops : List XOper} {tm : Tr AV} {H : AHeap} (k : Nat) (hk : ops.length = k) (h : WO cf ops H.next ⟨tm, H.bump k⟩ fun s' => Q .normal s') : W cf fuel (.regd ops [] []) ⟨tm, H⟩ Q := by
  unfold WO at h
  unfold W
  obtain ⟨s', h1, h2⟩ := h
  subst hk
  obtain ⟨tr, h3, h4⟩ := xtrace_last _ _ _ _ h1
  have h3' : xtrace cf ops H.next (Go.Eng.bump ⟨tm, H⟩ ops.length) = some tr := h3
  refine ⟨.normal, s', ?_, h2⟩
  simp only [xcode, xregionD, h3']
  simp [freshOk, h4]
def WT (cf : CF) (ops : List XOper) (n : Nat) (s : St) (Q : List St → Prop) : Prop := ∃ tr, xtrace cf ops n s = some tr ∧ Q tr
theorem WT.nil {n : Nat} {s : St} {Q : List St → Prop} (h : Q [s]) : WT cf [] n s Q := ⟨[s], rfl, h⟩
theorem WT.op {d : Nat} {op : XOp} {r : List XOper} {tm : Tr AV} {H : AHeap} {n : Nat} {Q : List St → Prop} {v : AV} {H1 : AHeap} (h : xval cf (St.ev tm) H n op = some (v, H1)) (k : WT cf r (n + 1) ⟨tm.set d (some v), H1⟩ fun tr => Q (⟨tm, H⟩ :: tr)) : WT cf (⟨some d, op, none⟩ :: r) n ⟨tm, H⟩ Q := by
  obtain ⟨tr, h1, h2⟩ := k
  exact ⟨_, by simp only [xtrace, xstep, wantedA, h, putT, h1, Option.map_some], h2⟩
theorem WT.opn {op : XOp} {r : List XOper} {tm : Tr AV} {H : AHeap} {n : Nat} {Q : List St → Prop} {v : AV} {H1 : AHeap} (h : xval cf (St.ev tm) H n op = some (v, H1)) (k : WT cf r (n + 1) ⟨tm, H1⟩ fun tr => Q (⟨tm, H⟩ :: tr)) : WT cf (⟨none, op, none⟩ :: r) n ⟨tm, H⟩ Q := by
  obtain ⟨tr, h1, h2⟩ := k
  exact ⟨_, by simp only [xtrace, xstep, wantedA, h, putT, h1, Option.map_some], h2⟩
theorem W.regd {ops : List XOper} {lo : List (Nat × List Nat × List Nat)} {nn : List Nat} {tm : Tr AV} {H : AHeap} (k : Nat) (hk : ops.length = k)
    (h : WT cf ops H.next ⟨tm, H.bump k⟩ fun tr => lo.all (looseOk ops tr H.next nn) = true ∧ freshOk ops tr H.next nn = true ∧ ∃ s', tr.getLast? = some s' ∧ Q .normal s') : W cf fuel (.regd ops lo nn) ⟨tm, H⟩ Q := by
  unfold WT at h
  unfold W
  obtain ⟨tr, h1, h2, h3, s', h4, h5⟩ := h
  subst hk
  have h1' : xtrace cf ops H.next (Go.Eng.bump ⟨tm, H⟩ ops.length) = some tr := h1
  refine ⟨.normal, s', ?_, h5⟩
  simp only [xcode, xregionD, h1', h2, h3, Bool.and_self, if_true, h4, Option.map_some]
end
theorem op_store {cf : CF} {m n i o : Nat} {c : List AV} {opn : Option Nat} {v : AV} {H : AHeap} {ev : XO → Option AV} {a x : XO} (ha : ev a = some (.ptr i o)) (hx : ev x = some v) (hH : H.get i = some (.cells c opn)) (hl : v.cells.length = n) (h1 : v.cells.all AV.oneCell = true) (hf : o + n ≤ c.length) :
    xval cf ev H m (.store n a x) = some (undefA, H.set i (some (.cells (overA c o v.cells) opn))) := by
  have h : storeA H n (.ptr i o) v = some (H.set i (some (.cells (overA c o v.cells) opn))) := by
    simp only [storeA, hl, h1, hH]
    rw [if_neg (by simp), if_pos hf]
  simp only [xval, xop, ha, hx, h]
theorem op_loadn {cf : CF} {m n i o : Nat} {c : List AV} {opn : Option Nat} {H : AHeap} {ev : XO → Option AV} {x : XO} (hx : ev x = some (.ptr i o)) (hH : H.get i = some (.cells c opn)) (hf : o + n ≤ c.length) :
    xval cf ev H m (.load (some n) x) = some (.agg ((c.drop o).take n), H) := by
  have h : loadA H (some n) (.ptr i o) = some (.agg ((c.drop o).take n)) := by
    simp only [loadA, cellsAt, hH]
    rw [if_pos (by simp only [List.length_drop]; omega)]
  simp only [xval, xop, hx, Option.bind_some, h, AR.ofV]
theorem op_alloc {cf : CF} {m : Nat} {z : List AV} {H : AHeap} {ev : XO → Option AV} : xval cf ev H m (.alloc z) = some (.ptr m 0, H.set m (some (.cells z none))) := by
  simp only [xval, xop]
theorem WO.alloc {cf : CF} {d n : Nat} {z : List AV} {r : List XOper} {tm : Tr AV} {H : AHeap} {Q : St → Prop} (k : ∀ H1 : AHeap, H1.get n = some (.cells z none) → (∀ j, j ≠ n → H1.get j = H.get j) → H1.next = H.next → WO cf r (n + 1) ⟨tm.set d (some (.ptr n 0)), H1⟩ Q) : WO cf (⟨some d, .alloc z, none⟩ :: r) n ⟨tm, H⟩ Q :=
  WO.op op_alloc (k _ (by rw [AHeap.get_set, if_pos rfl]) (fun j hj => by rw [AHeap.get_set, if_neg hj]) rfl)
theorem WO.store {cf : CF} {n m i o : Nat} {a x : XO} {v : AV} {c : List AV} {opn : Option Nat} {r : List XOper} {tm : Tr AV} {H : AHeap} {Q : St → Prop} (ha : St.ev tm a = some (.ptr i o)) (hx : St.ev tm x = some v) (hH : H.get i = some (.cells c opn)) (hl : v.cells.length = m) (h1 : v.cells.all AV.oneCell = true) (hf : o + m ≤ c.length)
    (k : ∀ H1 : AHeap, H1.get i = some (.cells (overA c o v.cells) opn) → (∀ j, j ≠ i → H1.get j = H.get j) → H1.next = H.next → WO cf r (n + 1) ⟨tm, H1⟩ Q) : WO cf (⟨none, .store m a x, none⟩ :: r) n ⟨tm, H⟩ Q :=
  WO.opn (op_store ha hx hH hl h1 hf) (k _ (by rw [AHeap.get_set, if_pos rfl]) (fun j hj => by rw [AHeap.get_set, if_neg hj]) rfl)
theorem evL1 {ev : XO → Option AV} {x : XO} {v : AV} (h : ev x = some v) : evL ev [x] = some [v] := by simp [evL, h]
theorem evL2 {ev : XO → Option AV} {x y : XO} {v w : AV} (h : ev x = some v) (h2 : ev y = some w) : evL ev [x, y] = some [v, w] := by simp [evL, h, h2]
def Same (H H' : AHeap) : Prop := H.next ≤ H'.next ∧ ∀ j, j < H.next → H'.get j = H.get j
theorem Same.refl (H : AHeap) : Same H H := ⟨Nat.le_refl _, fun _ _ => rfl⟩
theorem Same.trans {H1 H2 H3 : AHeap} (a : Same H1 H2) (b : Same H2 H3) : Same H1 H3 := ⟨Nat.le_trans a.1 b.1, fun j hj => (b.2 j (Nat.lt_of_lt_of_le hj a.1)).trans (a.2 j hj)⟩
theorem Same.bump (H : AHeap) (k : Nat) : Same H (H.bump k) := ⟨Nat.le_add_right _ _, fun _ _ => rfl⟩
theorem Same.set {H H' : AHeap} (h : Same H H') {i : Nat} (hi : H.next ≤ i) (o : Option AObj) : Same H (H'.set i o) := ⟨h.1, fun j hj => by rw [AHeap.get_set, if_neg (by omega)]; exact h.2 j hj⟩
theorem Row.same {z : Nat} {H H' : AHeap} {v : AV} {l : Nat} {cs : List AV} (h : Row z H v l cs) (s : Same H H') : Row z H' v l cs := h.frame s.1 (fun i hi => s.2 i (h.own_lt hi))
theorem Row.bump {z : Nat} {H : AHeap} {v : AV} {l : Nat} {cs : List AV} (h : Row z H v l cs) (k : Nat) : Row z (H.bump k) v l cs := h.same (Same.bump H k)
end Go.Eng
end
namespace Go.Eng
def E0 (w : World) : Env := ⟨fun _ => none, fun b => b < w.heap.size, fun _ => none⟩
theorem rel0 (w : World) : Rel (E0 w) ⟨.e, 0⟩ w :=
  ⟨fun i L h => (by cases h), fun b h => h, fun i o h => (by simp [AHeap.get, Tr.get] at h), fun i j o o' L L' h => (by simp [AHeap.get, Tr.get] at h)⟩
theorem below0 {w w' : World} {E' : Env} {H' : AHeap} (h : Step (E0 w) ⟨.e, 0⟩ w E' H' w') : Go.RowKit.Below w.heap.size w w' :=
  ⟨h.fr.os, h.fr.tape, h.fr.output, h.fr.size, fun k hk => h.fr.block k hk (fun i o L hg => (by simp [AHeap.get, Tr.get] at hg))⟩
mutual
def AV.plain : AV → Bool
  | .bool _ | .int _ _ | .str _ => true
  | .agg l | .tup l => AV.plainL l
  | _ => false
def AV.plainL : List AV → Bool
  | [] => true
  | x :: r => x.plain && AV.plainL r
end
mutual
theorem plain_rel {E E' : Env} {w w' : World} : ∀ {v : AV} {u : Value}, v.plain = true → AVRel E w v u → AVRel E' w' v u
  | .bool _, _, _, h => by simpa [AVRel] using h
  | .int _ _, _, _, h => by simpa [AVRel] using h
  | .str _, _, _, h => by simpa [AVRel] using h
  | .agg l, _, hp, h => by
    simp only [AV.plain] at hp
    simp only [AVRel] at h ⊢
    obtain ⟨us, h1, h2⟩ := h
    exact ⟨us, h1, plain_relL hp h2⟩
  | .tup l, _, hp, h => by
    simp only [AV.plain] at hp
    simp only [AVRel] at h ⊢
    obtain ⟨us, h1, h2⟩ := h
    exact ⟨us, h1, plain_relL hp h2⟩
  | .ptr .., _, hp, _ => by simp [AV.plain] at hp
  | .nilp, _, hp, _ => by simp [AV.plain] at hp
  | .sl .., _, hp, _ => by simp [AV.plain] at hp
  | .nils, _, hp, _ => by simp [AV.plain] at hp
  | .map _, _, hp, _ => by simp [AV.plain] at hp
  | .nilm, _, hp, _ => by simp [AV.plain] at hp
  | .fn .., _, hp, _ => by simp [AV.plain] at hp
  | .nilf, _, hp, _ => by simp [AV.plain] at hp
  | .ifc .., _, hp, _ => by simp [AV.plain] at hp
  | .nili, _, hp, _ => by simp [AV.plain] at hp
  | .imm .., _, hp, _ => by simp [AV.plain] at hp
  | .iptr .., _, hp, _ => by simp [AV.plain] at hp
  | .glob .., _, hp, _ => by simp [AV.plain] at hp
theorem plain_relL {E E' : Env} {w w' : World} : ∀ {l : List AV} {us : List Value}, AV.plainL l = true → AVRelL E w l us → AVRelL E' w' l us
  | [], _, _, h => by simpa [AVRelL] using h
  | x :: l, _, hp, h => by
    simp only [AV.plainL, Bool.and_eq_true] at hp
    simp only [AVRelL] at h ⊢
    obtain ⟨u, us, h1, h2, h3⟩ := h
    exact ⟨u, us, h1, plain_rel hp.1 h2, plain_relL hp.2 h3⟩
end
theorem step_of_below {E : Env} {H : AHeap} {w w' : World} (hR : Rel E H w) (hb : Go.RowKit.Below w.heap.size w w') : Step E H w E H w' := by
  have hext : Env.Ext E E w w' := ⟨fun _ _ h => h, fun _ h => h, fun b hbI => hb.block b (hR.imm b hbI), fun _ _ _ h => h⟩
  have hsz := hb.size
  refine ⟨hext, ⟨fun j L hj => ?_, fun b hbI => ?_, fun j p hj => ?_, hR.inj⟩, ⟨hb.os, hb.tape, hb.output, hsz, fun b hbI _ => hb.block b hbI⟩, fun j p L hj hρ => .inr ⟨j, p, L, hj, hρ, rfl⟩, Nat.le_refl _, fun j L h => .inl h, fun _ h => .inl h⟩
  · have := hR.dom j L hj
    exact ⟨this.1, by omega⟩
  · have := hR.imm b hbI
    omega
  · obtain ⟨L, q1, q2, q3⟩ := hR.obj j p hj
    exact ⟨L, q1, ObjR.mono hext (hb.block _ (hR.dom j L q1).2) q2, q3⟩
theorem frame0 {P : Program} {f : Nat} {args args0 : List AV} {v : AV} {H H1 : AHeap} (h : CallOK P f args0 ⟨.e, 0⟩ v H1) (hv : v.plain = true) (ha : ∀ E w us, Rel E H w → AVRelL E w args us → AVRelL (E0 w) w args0 us) : CallOK P f args H v H := by
  refine ⟨h.1, fun E w us hR hus => ?_⟩
  refine (h.2 (E0 w) w us (rel0 w) (ha E w us hR hus)).mono ?_
  rintro e w' ⟨u, E', rfl, hst, hvr⟩
  exact ⟨u, E, rfl, step_of_below hR (below0 hst), plain_rel hv hvr⟩
theorem freeze {E : Env} {H : AHeap} {w : World} (hR : Rel E H w) {v : AV} {u : Value} (hv : AVRel E w v u) {z l : Nat} {cs : List AV} (hl : lenA v = some l) (hs : srcA H z l v = some cs) (hns : ∀ s, v ≠ .str s) (hp : AV.plainL cs = true) (hcl : l = 0 → cs = []) :
    AVRel (E0 w) w (.imm cs l false) u := by
  unfold srcA at hs
  split at hs
  · simp only [lenA, Option.some.injEq] at hl
    subst hl
    simp only [if_true, Option.some.injEq] at hs
    subst hs
    simp only [AVRel] at hv ⊢
    exact .inl ⟨trivial, trivial, none, 0, hv, fun q => by cases q⟩
  · rename_i i o l' c
    simp only [lenA, Option.some.injEq] at hl
    subst hl
    split at hs
    · rename_i cells opn hg
      split at hs
      · cases hs
        obtain ⟨L, ad, c', C, t, fz, us, hρ, rfl, hsl, hlc, hb, hr, hcell, _⟩ := row_sound hR hv hg
        simp only [AVRel]
        by_cases h0 : l' = 0
        · exact .inl ⟨h0, hcl h0, some ad, c', by rw [h0], fun q => by cases q⟩
        · obtain rfl := hsl.addr hlc h0
          refine .inr ⟨L.b, L.s + o, c', (us.drop o).take (l' * z), rfl, (hR.dom i L hρ).2, fun j x hj => ?_, ?_, hlc, fun q => by cases q⟩
          · rw [List.getElem?_take] at hj
            split at hj
            · rw [List.getElem?_drop] at hj
              have := hcell _ x hj
              simp only [World.cell?, hb]
              rw [show L.s + o + j = L.s + (o + j) by omega]
              exact this
            · cases hj
          · exact plain_relL hp ((hr.drop o).take (l' * z))
      · cases hs
    · cases hs
  · rename_i cs' l' full
    simp only [lenA, Option.some.injEq] at hl
    subst hl
    split at hs
    · cases hs
      simp only [AVRel] at hv ⊢
      rcases hv with ⟨h0, h1, a, c, h2, _⟩ | ⟨b, s, c, us, h1, h2, h3, h4, h5, _⟩
      · subst h0 h1
        exact .inl ⟨rfl, hcl rfl, a, c, h2, fun q => by cases q⟩
      · refine .inr ⟨b, s, c, us.take (l' * z), h1, hR.imm b h2, fun j x hj => ?_, plain_relL hp (h4.take _), h5, fun q => by cases q⟩
        rw [List.getElem?_take] at hj
        split at hj
        · exact h3 j x hj
        · cases hj
    · cases hs
  · rename_i s
    exact absurd rfl (hns s)
  · cases hs
end Go.Eng
