/- NewsTree: the centre of a tree is a star of two or more vertices, for all inputs: the row. No condition. -/
import Derived.Test.YtpbighinamljbaaJE
import Derived.OpenShut
import Derived.Deep.SlicePairs
import Derived.Test.YtpbighinamljbaaRows
import Derived.ProofKit
import Derived.LaidMore
import Derived.Lay
import Derived.SizedLaws
import Derived.Carry
set_option linter.unusedSectionVars false
set_option linter.unusedVariables false
set_option linter.unusedSimpArgs false
namespace Go.Proofs.Ytpbighinamljbaa.PA
open Go Go.Eng Go.Proofs
def St1 (N : List Nat) (A B : Nat) : Prop :=
  Inn A B ∧ ∃ f : Nat → Nat, (∀ w, B.testBit w = true → A.testBit w = false → A.testBit (f w) = true ∧ (N.getD (f w) 0).testBit w = true) ∧
    ∀ w w', B.testBit w = true → A.testBit w = false → B.testBit w' = true → A.testBit w' = false → f w = f w' → w = w'
theorem St1.refl (N : List Nat) (A : Nat) : St1 N A A := ⟨Inn.refl _, fun _ => 0, fun w h1 h2 => (by rw [h1] at h2; cases h2), fun w w' h1 h2 _ _ _ => (by rw [h1] at h2; cases h2)⟩
theorem St1.part {N : List Nat} {A B A' B' : Nat} (h : St1 N A B) (hA : Inn A A') (hA' : Inn A' B') (hB : ∀ w, B'.testBit w = true → A'.testBit w = false → B.testBit w = true) : St1 N A' B' := by
  obtain ⟨h0, f, h1, h2⟩ := h
  have key : ∀ w, B'.testBit w = true → A'.testBit w = false → B.testBit w = true ∧ A.testBit w = false := fun w q1 q2 => by
    refine ⟨hB w q1 q2, ?_⟩
    cases e : A.testBit w with
    | false => rfl
    | true => rw [hA w e] at q2; cases q2
  refine ⟨hA', f, fun w q1 q2 => ?_, fun w w' q1 q2 q3 q4 => ?_⟩
  · obtain ⟨r1, r2⟩ := key w q1 q2
    obtain ⟨r3, r4⟩ := h1 w r1 r2
    exact ⟨hA _ r3, r4⟩
  · obtain ⟨r1, r2⟩ := key w q1 q2
    obtain ⟨r3, r4⟩ := key w' q3 q4
    exact h2 w w' r1 r2 r3 r4
theorem St1.mono {N : List Nat} {A B A' : Nat} (h : St1 N A B) (hA : Inn A A') : St1 N A' (A' ||| B) :=
  h.part hA (Inn.orl _ _) fun w q1 q2 => by rwa [Nat.testBit_or, q2, Bool.false_or] at q1
theorem St1.cut {N : List Nat} {A B C : Nat} (h : St1 N A B) (h1 : Inn A C) (h2 : Inn C B) : St1 N A C :=
  h.part (Inn.refl _) h1 fun w q _ => h2 w q
theorem or_of_inn {A B : Nat} (h : Inn A B) : A ||| B = B := Inn.eq (Inn.or h (Inn.refl _)) (Inn.orr _ _)
def Rcs (N : List Nat) : Nat → Nat → Nat → Prop
  | 0, A, B => A = B
  | k + 1, A, B => ∃ C, Rcs N k A C ∧ St1 N C B
theorem Rcs.inn {N : List Nat} : ∀ {k A B : Nat}, Rcs N k A B → Inn A B
  | 0, A, B, h => by cases h; exact Inn.refl _
  | k + 1, A, B, ⟨C, h1, h2⟩ => (Rcs.inn h1).trans h2.1
theorem Rcs.mono {N : List Nat} : ∀ {k A B A' : Nat}, Rcs N k A B → Inn A A' → Rcs N k A' (A' ||| B)
  | 0, A, B, A', h, g => by
    cases h
    show A' = A' ||| A
    rw [Nat.or_comm, or_of_inn g]
  | k + 1, A, B, A', ⟨C, h1, h2⟩, g => by
    refine ⟨A' ||| C, h1.mono g, ?_⟩
    have := h2.mono (A' := A' ||| C) (Inn.orr _ _)
    rwa [Nat.or_assoc, or_of_inn h2.1] at this
theorem Rcs.more {N : List Nat} {k A B : Nat} (h : Rcs N k A B) : Rcs N (k + 1) A B := ⟨B, h, St1.refl _ _⟩
theorem Rcs.le {N : List Nat} {k A B : Nat} (h : Rcs N k A B) : ∀ {j : Nat}, k ≤ j → Rcs N j A B := by
  intro j hj
  induction j with
  | zero => obtain rfl : k = 0 := by omega
            exact h
  | succ j ih =>
    by_cases e : k = j + 1
    · subst e; exact h
    · exact (ih (by omega)).more
theorem Rcs.front {N : List Nat} : ∀ {k A C B : Nat}, St1 N A C → Rcs N k C B → Rcs N (k + 1) A B
  | 0, A, C, B, h, g => by cases g; exact ⟨A, rfl, h⟩
  | k + 1, A, C, B, h, ⟨D, g1, g2⟩ => ⟨D, Rcs.front h g1, g2⟩
theorem getD_lt2 {N : List Nat} {n : Nat} (hN : ∀ m ∈ N, m < 2 ^ n) (i : Nat) : N.getD i 0 < 2 ^ n := by
  rw [List.getD_eq_getElem?_getD]
  cases q : N[i]? with
  | none => simp only [Option.getD_none]; exact Nat.lt_of_lt_of_le Nat.zero_lt_one Nat.one_le_two_pow
  | some m => exact hN m (List.mem_of_getElem? q)
theorem bit_lt {a n i : Nat} (h : a < 2 ^ n) (hi : a.testBit i = true) : i < n := by
  rcases Nat.lt_or_ge i n with q | q
  · exact q
  · rw [Nat.testBit_lt_two_pow (Nat.lt_of_lt_of_le h (Nat.pow_le_pow_right (n := 2) (by omega) q))] at hi
    cases hi
theorem bit_len {N : List Nat} {i w : Nat} (h : (N.getD i 0).testBit w = true) : i < N.length := by
  rcases Nat.lt_or_ge i N.length with q | q
  · exact q
  · rw [List.getD_eq_getElem?_getD, List.getElem?_eq_none (by omega)] at h
    simp at h
theorem St1.lt {N : List Nat} {n A B : Nat} (hN : ∀ m ∈ N, m < 2 ^ n) (hA : A < 2 ^ n) (h : St1 N A B) : B < 2 ^ n := by
  obtain ⟨h0, f, h1, h2⟩ := h
  apply Nat.lt_pow_two_of_testBit
  intro i hi
  cases q : B.testBit i with
  | false => rfl
  | true =>
    cases e : A.testBit i with
    | true => have := bit_lt hA e; omega
    | false => have := bit_lt (getD_lt2 hN _) (h1 i q e).2; omega
theorem Rcs.lt {N : List Nat} {n : Nat} (hN : ∀ m ∈ N, m < 2 ^ n) : ∀ {k A B : Nat}, A < 2 ^ n → Rcs N k A B → B < 2 ^ n
  | 0, A, B, hA, h => by cases h; exact hA
  | k + 1, A, B, hA, ⟨C, h1, h2⟩ => h2.lt hN (Rcs.lt hN hA h1)
def IsT (N : List Nat) (s k : Nat) : Prop := Rcs N k (2 ^ s) (2 ^ N.length - 1) ∧ ∀ j, j < k → ¬ Rcs N j (2 ^ s) (2 ^ N.length - 1)
theorem IsT.uniq {N : List Nat} {s k j : Nat} (h : IsT N s k) (g : IsT N s j) : k = j := by
  rcases Nat.lt_trichotomy k j with q | q | q
  · exact absurd h.1 (g.2 k q)
  · exact q
  · exact absurd g.1 (h.2 j q)
theorem IsT.le {N : List Nat} {s k j : Nat} (h : IsT N s k) (g : Rcs N j (2 ^ s) (2 ^ N.length - 1)) : k ≤ j := by
  rcases Nat.lt_or_ge j k with q | q
  · exact absurd g (h.2 j q)
  · exact q
theorem IsT.ex {N : List Nat} {s : Nat} : ∀ {k : Nat}, Rcs N k (2 ^ s) (2 ^ N.length - 1) → ∃ j, j ≤ k ∧ IsT N s j := by
  intro k
  induction k using Nat.strongRecOn with
  | ind k ih =>
    intro h
    by_cases q : ∃ j, j < k ∧ Rcs N j (2 ^ s) (2 ^ N.length - 1)
    · obtain ⟨j, h1, h2⟩ := q
      obtain ⟨i, h3, h4⟩ := ih j h1 h2
      exact ⟨i, by omega, h4⟩
    · exact ⟨k, Nat.le_refl _, h, fun j hj hr => q ⟨j, hj, hr⟩⟩
def Sym (N : List Nat) : Prop := ∀ a b, (N.getD a 0).testBit b = true → (N.getD b 0).testBit a = true
theorem orAt_get (N : List Nat) (i v j : Nat) (hi : i < N.length) : (orAt N i v).getD j 0 = if j = i then N.getD i 0 ||| v else N.getD j 0 := by
  unfold orAt
  rw [List.getD_eq_getElem?_getD, List.getElem?_set]
  by_cases e : i = j
  · subst e
    rw [if_pos rfl, if_pos hi, if_pos rfl]
    rfl
  · rw [if_neg e, if_neg (fun q => e q.symm), List.getD_eq_getElem?_getD]
theorem nearSt_bit {N : List Nat} {c : Nat × Nat} (h1 : c.1 < N.length) (h2 : c.2 < N.length) (h3 : c.1 ≠ c.2) (i j : Nat) :
    ((nearSt N c).getD i 0).testBit j = ((N.getD i 0).testBit j || decide (i = c.1 ∧ j = c.2) || decide (i = c.2 ∧ j = c.1)) := by
  unfold nearSt
  rw [orAt_get _ _ _ _ (by rw [orAt_len]; exact h2), orAt_get _ _ _ _ h1, orAt_get _ _ _ _ h1, if_neg (fun e : c.2 = c.1 => h3 e.symm)]
  by_cases e1 : i = c.2
  · subst e1
    rw [if_pos rfl, Nat.testBit_or, Nat.testBit_two_pow]
    have e2 : c.2 ≠ c.1 := fun e => h3 e.symm
    simp only [e2, false_and, decide_false, Bool.or_false, true_and]
    congr 1
    exact decide_eq_decide.2 ⟨fun e => e.symm, fun e => e.symm⟩
  · rw [if_neg e1]
    by_cases e2 : i = c.1
    · subst e2
      rw [if_pos rfl, Nat.testBit_or, Nat.testBit_two_pow]
      simp only [e1, false_and, decide_false, Bool.or_false, true_and]
      congr 1
      exact decide_eq_decide.2 ⟨fun e => e.symm, fun e => e.symm⟩
    · rw [if_neg e2]; simp [e1, e2]
theorem near_fold_bit {n : Nat} : ∀ (q : Prs) (N : List Nat), Egs n q → N.length = n → ∀ i j, ((q.foldl nearSt N).getD i 0).testBit j = true ↔ (N.getD i 0).testBit j = true ∨ ∃ c ∈ q, (i = c.1 ∧ j = c.2) ∨ (i = c.2 ∧ j = c.1)
  | [], N, _, _, i, j => by simp
  | c :: q, N, hq, hl, i, j => by
    obtain ⟨h1, h2, h3⟩ := hq c (List.mem_cons_self ..)
    rw [List.foldl_cons, near_fold_bit q _ (fun d hd => hq d (List.mem_cons_of_mem _ hd)) (by rw [nearSt_len]; exact hl), nearSt_bit (by omega) (by omega) h3]
    simp only [Bool.or_eq_true, decide_eq_true_eq, List.mem_cons, exists_eq_or_imp, or_assoc]
theorem nearN_bit {n : Nat} {q : Prs} (hq : Egs n q) (i j : Nat) : ((nearN n q).getD i 0).testBit j = true ↔ ∃ c ∈ q, (i = c.1 ∧ j = c.2) ∨ (i = c.2 ∧ j = c.1) := by
  rw [nearN, near_fold_bit q _ hq (by simp)]
  have : ((List.replicate n 0).getD i 0).testBit j = false := by
    have : (List.replicate n 0).getD i 0 = 0 := by
      rw [List.getD_eq_getElem?_getD, List.getElem?_replicate]
      split <;> rfl
    rw [this, Nat.zero_testBit]
  rw [this]
  simp
theorem nearN_sym {n : Nat} {q : Prs} (hq : Egs n q) : Sym (nearN n q) := fun a b h => by
  rw [nearN_bit hq] at h ⊢
  obtain ⟨c, hc, h⟩ := h
  exact ⟨c, hc, h.symm.imp (fun h => ⟨h.2, h.1⟩) (fun h => ⟨h.2, h.1⟩) |>.imp And.symm And.symm |>.imp And.symm And.symm⟩
def gws (N : List Nat) (v now : Nat) : List Nat := (List.range N.length).filter fun w => bt (sdiff (N.getD v 0) now) w
def outs (N : List Nat) (A : Nat) : Nat → Nat → Nat → Prs → List (Nat × Prs)
  | 0, _, now, cs => [(now, cs)]
  | s + 1, v, now, cs =>
    if bt A v = true then
      if gws N v now = [] then outs N A s (v + 1) now cs else (gws N v now).flatMap fun w => outs N A s (v + 1) (now ||| 2 ^ w) (cs ++ [(v, w)])
    else outs N A s (v + 1) now cs
theorem gws_mem {N : List Nat} {v now w : Nat} : w ∈ gws N v now ↔ w < N.length ∧ (N.getD v 0).testBit w = true ∧ now.testBit w = false := by
  simp only [gws, List.mem_filter, List.mem_range, bt_eq, sdiff_bit, Bool.and_eq_true, Bool.not_eq_true']
theorem vC_append (N : List Nat) (inf : Nat) : ∀ (l l' : Prs) (b : Nat), vC N inf (l ++ l') b = (vC N inf l b).bind (vC N inf l')
  | [], l', b => rfl
  | (a, c) :: l, l', b => by
    rw [List.cons_append, vC, vC]
    split
    · exact vC_append N inf l l' _
    · rfl
theorem vR_append (N : List Nat) : ∀ (ls ls' : List Prs) (b : Nat), vR N (ls ++ ls') b = (vR N ls b).bind (vR N ls')
  | [], ls', b => rfl
  | l :: ls, ls', b => by
    rw [List.cons_append, vR, vR]
    split
    · rfl
    · exact vR_append N ls ls' _
theorem or2_bit (A v w i : Nat) : (A ||| (2 ^ v ||| 2 ^ w)).testBit i = (A.testBit i || decide (v = i) || decide (w = i)) := by
  simp only [Nat.testBit_or, Nat.testBit_two_pow, Bool.or_assoc]
theorem outs_ok {N : List Nat} {A : Nat} : ∀ (s v now : Nat) (cs : Prs) (busy : Nat), vC N A cs 0 = some busy → A ||| busy = now → (∀ i, v ≤ i → A.testBit i = true → busy.testBit i = false) → cs.length ≤ v → (∀ c ∈ cs, c.1 < N.length ∧ c.2 < N.length) → v + s = N.length →
    ∀ p ∈ outs N A s v now cs, (∃ b, vC N A p.2 0 = some b ∧ A ||| b = p.1) ∧ p.2.length ≤ N.length ∧ (∀ c ∈ p.2, c.1 < N.length ∧ c.2 < N.length)
  | 0, v, now, cs, busy, h1, h2, h3, h4, h5, h6, p, hp => by
    have : p = (now, cs) := by simpa [outs] using hp
    subst this
    exact ⟨⟨busy, h1, h2⟩, by dsimp only; omega, h5⟩
  | s + 1, v, now, cs, busy, h1, h2, h3, h4, h5, h6, p, hp => by
    have skip : ∀ p ∈ outs N A s (v + 1) now cs, _ := fun p hp => outs_ok s (v + 1) now cs busy h1 h2 (fun i q => h3 i (by omega)) (by omega) h5 (by omega) p hp
    rw [outs] at hp
    split at hp
    · rename_i hv
      rw [bt_eq] at hv
      split at hp
      · exact skip p hp
      · obtain ⟨w, hw, hp⟩ := List.mem_flatMap.1 hp
        obtain ⟨w1, w2, w3⟩ := gws_mem.1 hw
        have hwA : A.testBit w = false ∧ busy.testBit w = false := by
          rw [← h2, Nat.testBit_or, Bool.or_eq_false_iff] at w3
          exact w3
        refine outs_ok s (v + 1) (now ||| 2 ^ w) (cs ++ [(v, w)]) (busy ||| (2 ^ v ||| 2 ^ w)) ?_ ?_ ?_ ?_ ?_ (by omega) p hp
        · rw [vC_append, h1, Option.bind_some, vC, if_pos ⟨by rw [bt_eq]; exact hv, by rw [bt_eq]; exact hwA.1, by rw [bt_eq]; exact h3 v (Nat.le_refl _) hv, by rw [bt_eq]; exact hwA.2, by rw [bt_eq]; exact w2⟩]
          rfl
        · rw [← h2]
          apply Nat.eq_of_testBit_eq
          intro i
          simp only [Nat.testBit_or, Nat.testBit_two_pow]
          by_cases e : v = i
          · subst e; simp [hv]
          · simp [e, Bool.or_assoc]
        · intro i q1 q2
          have e1 : v ≠ i := by omega
          have e2 : w ≠ i := fun e => by subst e; rw [hwA.1] at q2; cases q2
          rw [or2_bit, h3 i (by omega) q2]
          simp [e1, e2]
        · rw [List.length_append]; simp; omega
        · intro c hc
          rcases List.mem_append.1 hc with hc | hc
          · exact h5 c hc
          · have : c = (v, w) := by simpa using hc
            subst this
            exact ⟨by dsimp only; omega, w1⟩
    · exact skip p hp
theorem outs_cp {N : List Nat} {A B : Nat} (hN : ∀ m ∈ N, m < 2 ^ N.length) {f : Nat → Nat} (f1 : ∀ w, B.testBit w = true → A.testBit w = false → A.testBit (f w) = true ∧ (N.getD (f w) 0).testBit w = true)
    (f2 : ∀ w w', B.testBit w = true → A.testBit w = false → B.testBit w' = true → A.testBit w' = false → f w = f w' → w = w') :
    ∀ (s v now : Nat) (cs : Prs), Inn A now → (∀ w, B.testBit w = true → A.testBit w = false → f w < v → now.testBit w = true) → v + s = N.length → ∃ p ∈ outs N A s v now cs, Inn B p.1
  | 0, v, now, cs, h1, h2, h3 => by
    refine ⟨(now, cs), by simp [outs], fun w hw => ?_⟩
    cases e : A.testBit w with
    | true => exact h1 w e
    | false => exact h2 w hw e (by have := bit_len (f1 w hw e).2; omega)
  | s + 1, v, now, cs, h1, h2, h3 => by
    rw [outs]
    split
    · rename_i hv
      by_cases hx : ∃ w, B.testBit w = true ∧ A.testBit w = false ∧ f w = v ∧ now.testBit w = false
      · obtain ⟨w, x1, x2, x3, x4⟩ := hx
        have hm : w ∈ gws N v now := gws_mem.2 ⟨bit_lt (getD_lt2 hN _) (f1 w x1 x2).2, by rw [← x3]; exact (f1 w x1 x2).2, x4⟩
        rw [if_neg (fun e => by rw [e] at hm; cases hm)]
        obtain ⟨p, hp, hp2⟩ := outs_cp hN f1 f2 s (v + 1) (now ||| 2 ^ w) (cs ++ [(v, w)]) (h1.trans (Inn.orl _ _)) (fun u u1 u2 u3 => by
          rw [Nat.testBit_or]
          by_cases e : f u = v
          · have := f2 u w u1 u2 x1 x2 (e.trans x3.symm)
            subst this
            simp
          · rw [h2 u u1 u2 (by omega)]; rfl) (by omega)
        exact ⟨p, List.mem_flatMap.2 ⟨w, hm, hp⟩, hp2⟩
      · have hall : ∀ w, B.testBit w = true → A.testBit w = false → f w < v + 1 → now.testBit w = true := fun w w1 w2 w3 => by
          by_cases e : f w = v
          · cases q : now.testBit w with
            | true => rfl
            | false => exact absurd ⟨w, w1, w2, e, q⟩ hx
          · exact h2 w w1 w2 (by omega)
        split
        · exact outs_cp hN f1 f2 s (v + 1) now cs h1 hall (by omega)
        · rename_i hne
          obtain ⟨u, hu⟩ := List.exists_mem_of_ne_nil _ hne
          obtain ⟨p, hp, hp2⟩ := outs_cp hN f1 f2 s (v + 1) (now ||| 2 ^ u) (cs ++ [(v, u)]) (h1.trans (Inn.orl _ _)) (fun w w1 w2 w3 => by rw [Nat.testBit_or, hall w w1 w2 w3]; rfl) (by omega)
          exact ⟨p, List.mem_flatMap.2 ⟨u, hu, hp⟩, hp2⟩
    · rename_i hv
      refine outs_cp hN f1 f2 s (v + 1) now cs h1 (fun w w1 w2 w3 => ?_) (by omega)
      by_cases e : f w = v
      · have := (f1 w w1 w2).1
        rw [e, ← bt_eq] at this
        exact absurd this hv
      · exact h2 w w1 w2 (by omega)
theorem vC_st {N : List Nat} {A : Nat} : ∀ (cs : Prs) (b b' : Nat) (f : Nat → Nat), vC N A cs b = some b' →
    (∀ w, b.testBit w = true → A.testBit w = false → A.testBit (f w) = true ∧ b.testBit (f w) = true ∧ (N.getD (f w) 0).testBit w = true) →
    (∀ w w', b.testBit w = true → A.testBit w = false → b.testBit w' = true → A.testBit w' = false → f w = f w' → w = w') → St1 N A (A ||| b')
  | [], b, b', f, h, h1, h2 => by
    cases h
    have key : ∀ w, (A ||| b).testBit w = true → A.testBit w = false → b.testBit w = true := fun w q1 q2 => by rwa [Nat.testBit_or, q2, Bool.false_or] at q1
    exact ⟨Inn.orl _ _, f, fun w q1 q2 => ⟨(h1 w (key w q1 q2) q2).1, (h1 w (key w q1 q2) q2).2.2⟩, fun w w' q1 q2 q3 q4 => h2 w w' (key w q1 q2) q2 (key w' q3 q4) q4⟩
  | (a, c) :: cs, b, b', f, h, h1, h2 => by
    rw [vC] at h
    split at h
    · rename_i hh
      simp only [bt_eq] at hh
      obtain ⟨a1, a2, a3, a4, a5⟩ := hh
      have key : ∀ w, (b ||| (2 ^ a ||| 2 ^ c)).testBit w = true → A.testBit w = false → w = c ∨ (w ≠ c ∧ b.testBit w = true) := fun w q1 q2 => by
        rw [or2_bit] at q1
        by_cases e : w = c
        · exact .inl e
        · refine .inr ⟨e, ?_⟩
          have e2 : a ≠ w := fun e2 => by subst e2; rw [a1] at q2; cases q2
          have e3 : c ≠ w := fun q => e q.symm
          simpa [e2, e3] using q1
      refine vC_st cs _ b' (fun w => if w = c then a else f w) h (fun w q1 q2 => ?_) (fun w w' q1 q2 q3 q4 q5 => ?_)
      · rcases key w q1 q2 with rfl | ⟨e, q⟩
        · rw [if_pos rfl, or2_bit]
          exact ⟨a1, by simp, a5⟩
        · rw [if_neg e, or2_bit]
          obtain ⟨r1, r2, r3⟩ := h1 w q q2
          exact ⟨r1, by rw [r2]; rfl, r3⟩
      · rcases key w q1 q2 with rfl | ⟨e, q⟩ <;> rcases key w' q3 q4 with rfl | ⟨e', q'⟩
        · rfl
        · rw [if_pos rfl, if_neg e'] at q5
          have := (h1 w' q' q4).2.1
          rw [← q5, a3] at this
          cases this
        · rw [if_pos rfl, if_neg e] at q5
          have := (h1 w q q2).2.1
          rw [q5, a3] at this
          cases this
        · rw [if_neg e, if_neg e'] at q5
          exact h2 w w' q q2 q' q4 q5
    · cases h
theorem vC_st0 {N : List Nat} {A b : Nat} {cs : Prs} (h : vC N A cs 0 = some b) : St1 N A (A ||| b) :=
  vC_st cs 0 b (fun _ => 0) h (fun w q => by simp at q) (fun w w' q => by simp at q)
theorem vR_rcs {N : List Nat} : ∀ (ls : List Prs) (A B : Nat), vR N ls A = some B → Rcs N ls.length A B
  | [], A, B, h => by cases h; rfl
  | l :: ls, A, B, h => by
    rw [vR] at h
    split at h
    · cases h
    · rename_i b hb
      exact Rcs.front (vC_st0 hb) (vR_rcs ls _ _ h)
end Go.Proofs.Ytpbighinamljbaa.PA
namespace Go.Proofs.Ytpbighinamljbaa.PA
open Go Go.Eng Go.Proofs
abbrev FW := List (Nat × List Prs)
def hasF (F : FW) (a : Nat) : Bool := F.any fun q => q.1 == a
theorem hasF_iff {F : FW} {a : Nat} : hasF F a = true ↔ a ∈ F.map (·.1) := by
  simp only [hasF, List.any_eq_true, List.mem_map, beq_iff_eq]
def addF (base : List Prs) (F : FW) (p : Nat × Prs) : FW := if hasF F p.1 then F else F ++ [(p.1, base ++ [p.2])]
def lookW (W : FW) (a : Nat) : List Prs := ((W.find? fun q => q.1 == a).map (·.2)).getD []
def nextF (N : List Nat) (W : FW) (ks : List Nat) : FW := ks.foldl (fun F a => (outs N a N.length 0 a []).foldl (addF (lookW W a)) F) []
def inO (F : FW) (a : Nat) : Bool := F.any fun q => (a != q.1) && (sdiff a q.1 == 0)
def maxF (F : FW) : FW := F.filter fun p => !inO F p.1
theorem sdiff_zero {a b : Nat} : sdiff a b = 0 ↔ Inn a b := by
  constructor
  · intro h i hi
    have : (sdiff a b).testBit i = false := by rw [h, Nat.zero_testBit]
    rw [sdiff_bit, hi] at this
    simpa using this
  · intro h
    apply Nat.eq_of_testBit_eq
    intro i
    rw [sdiff_bit, Nat.zero_testBit]
    cases q : a.testBit i with
    | false => rfl
    | true => rw [h i q]; rfl
theorem inO_iff {F : FW} {a : Nat} : inO F a = true ↔ ∃ q ∈ F, a ≠ q.1 ∧ Inn a q.1 := by
  simp only [inO, List.any_eq_true, Bool.and_eq_true, bne_iff_ne, beq_iff_eq, sdiff_zero]
theorem addF_keys {base : List Prs} {F : FW} {p : Nat × Prs} {a : Nat} : a ∈ (addF base F p).map (·.1) ↔ a ∈ F.map (·.1) ∨ a = p.1 := by
  unfold addF
  split
  · rename_i h
    rw [hasF_iff] at h
    constructor
    · exact .inl
    · rintro (h' | rfl)
      · exact h'
      · exact h
  · simp only [List.map_append, List.mem_append, List.map_cons, List.map_nil, List.mem_singleton]
theorem addF_nd {base : List Prs} {F : FW} {p : Nat × Prs} (h : (F.map (·.1)).Nodup) : ((addF base F p).map (·.1)).Nodup := by
  unfold addF
  split
  · exact h
  · rename_i q
    rw [List.map_append, List.nodup_append]
    refine ⟨h, by simp, fun a ha b hb e => q (hasF_iff.2 ?_)⟩
    subst e
    have : a = p.1 := by simpa using hb
    subst this
    exact ha
theorem addF_mem {base : List Prs} {F : FW} {p : Nat × Prs} {q : Nat × List Prs} (h : q ∈ addF base F p) : q ∈ F ∨ q = (p.1, base ++ [p.2]) := by
  unfold addF at h
  split at h
  · exact .inl h
  · rcases List.mem_append.1 h with h | h
    · exact .inl h
    · exact .inr (by simpa using h)
theorem foldA_keys {base : List Prs} : ∀ (l : List (Nat × Prs)) (F : FW) (a : Nat), a ∈ (l.foldl (addF base) F).map (·.1) ↔ a ∈ F.map (·.1) ∨ ∃ p ∈ l, a = p.1
  | [], F, a => by simp
  | p :: l, F, a => by
    rw [List.foldl_cons, foldA_keys l, addF_keys]
    simp only [List.mem_cons, exists_eq_or_imp, or_assoc]
theorem foldA_nd {base : List Prs} : ∀ (l : List (Nat × Prs)) (F : FW), (F.map (·.1)).Nodup → ((l.foldl (addF base) F).map (·.1)).Nodup
  | [], F, h => h
  | p :: l, F, h => foldA_nd l _ (addF_nd h)
theorem foldA_mem {base : List Prs} : ∀ (l : List (Nat × Prs)) (F : FW) (q : Nat × List Prs), q ∈ l.foldl (addF base) F → q ∈ F ∨ ∃ p ∈ l, q = (p.1, base ++ [p.2])
  | [], F, q, h => .inl h
  | p :: l, F, q, h => by
    rcases foldA_mem l _ q h with h | ⟨p', h1, h2⟩
    · rcases addF_mem h with h | h
      · exact .inl h
      · exact .inr ⟨p, by simp, h⟩
    · exact .inr ⟨p', by simp [h1], h2⟩
theorem nextG_keys {N : List Nat} {W : FW} : ∀ (ks : List Nat) (F : FW) (a : Nat), a ∈ (ks.foldl (fun F a => (outs N a N.length 0 a []).foldl (addF (lookW W a)) F) F).map (·.1) ↔ a ∈ F.map (·.1) ∨ ∃ c ∈ ks, ∃ p ∈ outs N c N.length 0 c [], a = p.1
  | [], F, a => by simp
  | k :: ks, F, a => by
    rw [List.foldl_cons, nextG_keys ks, foldA_keys]
    simp only [List.mem_cons, exists_eq_or_imp, or_assoc]
theorem nextG_nd {N : List Nat} {W : FW} : ∀ (ks : List Nat) (F : FW), (F.map (·.1)).Nodup → ((ks.foldl (fun F a => (outs N a N.length 0 a []).foldl (addF (lookW W a)) F) F).map (·.1)).Nodup
  | [], F, h => h
  | k :: ks, F, h => nextG_nd ks _ (foldA_nd _ _ h)
theorem nextG_mem {N : List Nat} {W : FW} : ∀ (ks : List Nat) (F : FW) (q : Nat × List Prs), q ∈ ks.foldl (fun F a => (outs N a N.length 0 a []).foldl (addF (lookW W a)) F) F → q ∈ F ∨ ∃ c ∈ ks, ∃ p ∈ outs N c N.length 0 c [], q = (p.1, lookW W c ++ [p.2])
  | [], F, q, h => .inl h
  | k :: ks, F, q, h => by
    rcases nextG_mem ks _ q h with h | ⟨c, h1, h2⟩
    · rcases foldA_mem _ _ q h with h | h
      · exact .inl h
      · exact .inr ⟨k, by simp, h⟩
    · exact .inr ⟨c, by simp [h1], h2⟩
structure WInv (N : List Nat) (s k : Nat) (W : FW) : Prop where
  nd : (W.map (·.1)).Nodup
  ok : ∀ p ∈ W, p.1 < 2 ^ N.length ∧ p.2.length = k ∧ vR N p.2 (2 ^ s) = some p.1 ∧ ∀ l ∈ p.2, l.length ≤ N.length ∧ ∀ c ∈ l, c.1 < N.length ∧ c.2 < N.length
  cp : ∀ B, Rcs N k (2 ^ s) B → ∃ p ∈ W, Inn B p.1
theorem lookW_mem {W : FW} (h : (W.map (·.1)).Nodup) {a : Nat} {l : List Prs} (hm : (a, l) ∈ W) : lookW W a = l := by
  induction W with
  | nil => cases hm
  | cons p W ih =>
    rw [List.map_cons, List.nodup_cons] at h
    unfold lookW
    rw [List.find?_cons]
    rcases List.mem_cons.1 hm with rfl | hm
    · simp
    · have : (p.1 == a) = false := by
        rw [beq_eq_false_iff_ne]
        intro e
        exact h.1 (e ▸ List.mem_map.2 ⟨(a, l), hm, rfl⟩)
      rw [this]
      exact ih h.2 hm
theorem cnt_le10 (a : Nat) : cnt a ≤ 10 := by
  unfold cnt memb
  exact Nat.le_trans (List.length_filter_le ..) (by simp)
theorem inn_diff {a b : Nat} (h : Inn a b) (hne : a ≠ b) : ∃ i, b.testBit i = true ∧ a.testBit i = false := by
  refine Classical.byContradiction fun w => hne (Inn.eq h fun i hi => ?_)
  cases q : a.testBit i with
  | true => rfl
  | false => exact absurd ⟨i, hi, q⟩ w
theorem maxF_cover {F : FW} (hF : ∀ p ∈ F, p.1 < 1024) : ∀ (d : Nat) (p : Nat × List Prs), p ∈ F → 10 - cnt p.1 ≤ d → ∃ q ∈ maxF F, Inn p.1 q.1 := by
  intro d
  induction d with
  | zero =>
    intro p hp hd
    refine ⟨p, List.mem_filter.2 ⟨hp, ?_⟩, Inn.refl _⟩
    cases h : inO F p.1 with
    | false => rfl
    | true =>
      obtain ⟨q, hq, h1, h2⟩ := inO_iff.1 h
      obtain ⟨i, i1, i2⟩ := inn_diff h2 h1
      have := cnt_lt h2 (bit10 (hF q hq) i1) i1 i2
      have := cnt_le10 q.1
      omega
  | succ d ih =>
    intro p hp hd
    cases h : inO F p.1 with
    | false => exact ⟨p, List.mem_filter.2 ⟨hp, by rw [h]; rfl⟩, Inn.refl _⟩
    | true =>
      obtain ⟨q, hq, h1, h2⟩ := inO_iff.1 h
      obtain ⟨i, i1, i2⟩ := inn_diff h2 h1
      have := cnt_lt h2 (bit10 (hF q hq) i1) i1 i2
      obtain ⟨r, r1, r2⟩ := ih q hq (by omega)
      exact ⟨r, r1, h2.trans r2⟩
theorem pow_le10 {n : Nat} (h : n ≤ 10) : 2 ^ n ≤ 1024 := Nat.pow_le_pow_right (n := 2) (by omega) h
section
variable {N : List Nat} {s k : Nat} {W : FW}
theorem winv0 (hs : s < N.length) : WInv N s 0 [(2 ^ s, [])] where
  nd := by simp
  ok := fun p hp => by
    have : p = (2 ^ s, []) := by simpa using hp
    subst this
    exact ⟨Nat.pow_lt_pow_right (by omega) hs, rfl, rfl, fun l hl => by cases hl⟩
  cp := fun B h => ⟨(2 ^ s, []), by simp, by cases h; exact Inn.refl _⟩
theorem next_ok (hN : ∀ m ∈ N, m < 2 ^ N.length) (hW : WInv N s k W) {ks : List Nat} (hks : ∀ a, a ∈ ks ↔ a ∈ W.map (·.1)) {q : Nat × List Prs} (hq : q ∈ nextF N W ks) :
    q.1 < 2 ^ N.length ∧ q.2.length = k + 1 ∧ vR N q.2 (2 ^ s) = some q.1 ∧ ∀ l ∈ q.2, l.length ≤ N.length ∧ ∀ c ∈ l, c.1 < N.length ∧ c.2 < N.length := by
  rcases nextG_mem ks [] q hq with h | ⟨c, hc, p, hp, rfl⟩
  · cases h
  · obtain ⟨⟨c', l⟩, hw, rfl⟩ := List.mem_map.1 ((hks c).1 hc)
    rw [lookW_mem hW.nd hw]
    obtain ⟨o1, o2, o3, o4⟩ := hW.ok _ hw
    dsimp only at o1 o2 o3 o4 hp ⊢
    obtain ⟨⟨b, b1, b2⟩, b3, b4⟩ := outs_ok N.length 0 c' [] 0 rfl (Nat.or_zero _) (fun i _ _ => Nat.zero_testBit i) (Nat.le_refl _) (by simp) (by omega) p hp
    have hv : vR N (l ++ [p.2]) (2 ^ s) = some p.1 := by
      rw [vR_append, o3, Option.bind_some, vR, b1, ← b2]
      rfl
    refine ⟨?_, by rw [List.length_append, o2]; rfl, hv, fun m hm => ?_⟩
    · rw [← b2]
      exact (vC_st0 b1).lt hN o1
    · rcases List.mem_append.1 hm with hm | hm
      · exact o4 m hm
      · have : m = p.2 := by simpa using hm
        subst this
        exact ⟨b3, b4⟩
theorem next_cp (hN : ∀ m ∈ N, m < 2 ^ N.length) (hW : WInv N s k W) {ks : List Nat} (hks : ∀ a, a ∈ ks ↔ a ∈ W.map (·.1)) {B : Nat} (h : Rcs N (k + 1) (2 ^ s) B) : ∃ q ∈ nextF N W ks, Inn B q.1 := by
  obtain ⟨C, h1, h2⟩ := h
  obtain ⟨p, hp, hin⟩ := hW.cp C h1
  obtain ⟨g0, f, f1, f2⟩ := h2.mono hin
  obtain ⟨q, hq, hB⟩ := outs_cp hN f1 f2 N.length 0 p.1 [] (Inn.refl _) (fun w _ _ q => by omega) (by omega)
  have : q.1 ∈ (nextF N W ks).map (·.1) := (nextG_keys ks [] q.1).2 (.inr ⟨p.1, (hks _).2 (List.mem_map.2 ⟨p, hp, rfl⟩), q, hq, rfl⟩)
  obtain ⟨r, hr, e⟩ := List.mem_map.1 this
  exact ⟨r, hr, by rw [e]; exact (Inn.orr _ _).trans hB⟩
theorem winv_next (hl : N.length ≤ 10) (hN : ∀ m ∈ N, m < 2 ^ N.length) (hW : WInv N s k W) {ks : List Nat} (hks : ∀ a, a ∈ ks ↔ a ∈ W.map (·.1)) {W' : FW} (hp : W'.Perm (maxF (nextF N W ks))) : WInv N s (k + 1) W' where
  nd := by
    refine (hp.map _).nodup_iff.2 ?_
    exact ((nextG_nd ks [] (by simp)).sublist ((List.filter_sublist).map _))
  ok := fun p q => next_ok hN hW hks (List.mem_filter.1 (hp.mem_iff.1 q)).1
  cp := fun B h => by
    obtain ⟨q, hq, hB⟩ := next_cp hN hW hks h
    obtain ⟨r, hr, hB2⟩ := maxF_cover (fun p hp => Nat.lt_of_lt_of_le (next_ok hN hW hks hp).1 (pow_le10 hl)) 10 q hq (by omega)
    exact ⟨r, hp.mem_iff.2 hr, hB.trans hB2⟩
theorem winv_full (hW : WInv N s k W) : (2 ^ N.length - 1 ∈ W.map (·.1)) ↔ Rcs N k (2 ^ s) (2 ^ N.length - 1) := by
  constructor
  · intro h
    obtain ⟨p, hp, e⟩ := List.mem_map.1 h
    obtain ⟨o1, o2, o3, o4⟩ := hW.ok p hp
    rw [← e, ← o2]
    exact vR_rcs _ _ _ o3
  · intro h
    obtain ⟨p, hp, hin⟩ := hW.cp _ h
    have : p.1 = 2 ^ N.length - 1 := Inn.eq (inn_full (hW.ok p hp).1) hin
    exact List.mem_map.2 ⟨p, hp, this⟩
theorem winv_len (hl : N.length ≤ 10) (hW : WInv N s k W) : W.length ≤ 1024 := by
  have h : ∀ (l : List Nat) (m : Nat), l.Nodup → (∀ a ∈ l, a < m) → l.length ≤ m := by
    intro l m
    induction m generalizing l with
    | zero => intro _ h; cases l with
      | nil => simp
      | cons a l => exact absurd (h a (by simp)) (by omega)
    | succ m ih =>
      intro h1 h2
      have := ih (l.erase m) (h1.erase m) (fun a ha => by
        have := h2 a (List.mem_of_mem_erase ha)
        have hne : a ≠ m := fun e => by subst e; exact absurd ha (h1.not_mem_erase)
        omega)
      have := List.length_erase (a := m) (l := l)
      split at this <;> omega
  have := h (W.map (·.1)) (2 ^ N.length) hW.nd (fun a ha => by
    obtain ⟨p, hp, rfl⟩ := List.mem_map.1 ha
    exact (hW.ok p hp).1)
  rw [List.length_map] at this
  exact Nat.le_trans this (pow_le10 hl)
end
theorem cl_compl {N : List Nat} (hS : Sym N) {C D : Nat} (hC : ClN N C) (hD : ∀ i, i < N.length → (D.testBit i = true ↔ C.testBit i = false)) (hN : ∀ m ∈ N, m < 2 ^ N.length) : ClN N D := fun i hi hb j hj => by
  have hjl := bit_lt (getD_lt2 hN i) hj
  rw [hD j hjl]
  cases q : C.testBit j with
  | false => rfl
  | true =>
    have := hC j hjl (by rw [bt_eq]; exact q) i (hS _ _ hj)
    rw [bt_eq, hD i hi] at hb
    rw [hb] at this
    cases this
theorem cl_full {N : List Nat} (hS : Sym N) (hN : ∀ m ∈ N, m < 2 ^ N.length) (hc : connN N = true) {C s : Nat} (hs : s < N.length) (hCs : C.testBit s = true) (hC : ClN N C) (hlt : C < 2 ^ N.length) : C = 2 ^ N.length - 1 := by
  rw [connN, decide_eq_true_iff] at hc
  by_cases h0 : C.testBit 0 = true
  · refine Inn.eq (inn_full hlt) ?_
    rw [← hc]
    refine ball_cl hC fun i hi => ?_
    have : i = 0 := by
      have : (1 : Nat) = 2 ^ 0 := rfl
      rw [this, Nat.testBit_two_pow] at hi
      simpa using (of_decide_eq_true hi).symm
    subst this
    exact h0
  · have hD : ∀ i, i < N.length → ((sdiff (2 ^ N.length - 1) C).testBit i = true ↔ C.testBit i = false) := fun i hi => by
      rw [sdiff_bit, Nat.testBit_two_pow_sub_one, decide_eq_true hi]
      simp
    have hb : Inn (2 ^ N.length - 1) (sdiff (2 ^ N.length - 1) C) := by
      conv => lhs; rw [← hc]
      refine ball_cl (cl_compl hS hC hD hN) fun i hi => ?_
      have : i = 0 := by
        have : (1 : Nat) = 2 ^ 0 := rfl
        rw [this, Nat.testBit_two_pow] at hi
        simpa using (of_decide_eq_true hi).symm
      subst this
      rw [hD 0 (by omega)]
      simpa using h0
    have := hb s (by rw [Nat.testBit_two_pow_sub_one]; exact decide_eq_true hs)
    rw [hD s hs, hCs] at this
    cases this
theorem st_one {N : List Nat} {A v w : Nat} (hv : A.testBit v = true) (hw : (N.getD v 0).testBit w = true) : St1 N A (A ||| 2 ^ w) := by
  have key : ∀ u, (A ||| 2 ^ w).testBit u = true → A.testBit u = false → u = w := fun u h1 h2 => by
    rw [Nat.testBit_or, h2, Nat.testBit_two_pow] at h1
    simpa using (of_decide_eq_true (by simpa using h1) : w = u).symm
  exact ⟨Inn.orl _ _, fun _ => v, fun u h1 h2 => by rw [key u h1 h2]; exact ⟨hv, hw⟩, fun u u' h1 h2 h3 h4 _ => by rw [key u h1 h2, key u' h3 h4]⟩
theorem rcs_grow {N : List Nat} (hS : Sym N) (hl : N.length ≤ 10) (hN : ∀ m ∈ N, m < 2 ^ N.length) (hc : connN N = true) {s : Nat} (hs : s < N.length) : ∀ k, ∃ B, Rcs N k (2 ^ s) B ∧ (B = 2 ^ N.length - 1 ∨ k + 1 ≤ cnt B)
  | 0 => ⟨2 ^ s, rfl, .inr (by
    have h : ∀ s, s < 10 → 1 ≤ cnt (2 ^ s) := by decide
    exact h s (by omega))⟩
  | k + 1 => by
    obtain ⟨B, h1, h2⟩ := rcs_grow hS hl hN hc hs k
    rcases h2 with h2 | h2
    · exact ⟨B, h1.more, .inl h2⟩
    · have hlt : B < 2 ^ N.length := h1.lt hN (Nat.pow_lt_pow_right (by omega) hs)
      have hBs : B.testBit s = true := h1.inn s (by simp)
      by_cases hcl : ClN N B
      · exact ⟨B, h1.more, .inl (cl_full hS hN hc hs hBs hcl hlt)⟩
      · obtain ⟨i, hi⟩ := Classical.not_forall.1 hcl
        obtain ⟨i1, hi⟩ := Classical.not_imp.1 hi
        obtain ⟨i2, hi⟩ := Classical.not_imp.1 hi
        obtain ⟨w, hw⟩ := Classical.not_forall.1 hi
        obtain ⟨w1, w2⟩ := Classical.not_imp.1 hw
        rw [bt_eq] at i2
        have hwl := bit_lt (getD_lt2 hN i) w1
        refine ⟨B ||| 2 ^ w, ⟨B, h1, st_one i2 w1⟩, .inr ?_⟩
        have := cnt_lt (Inn.orl B (2 ^ w)) (i := w) (by omega) (by rw [Nat.testBit_or, Nat.testBit_two_pow]; simp) (by simpa using w2)
        omega
theorem isT_ex {N : List Nat} (hS : Sym N) (hl : N.length ≤ 10) (hN : ∀ m ∈ N, m < 2 ^ N.length) (hc : connN N = true) {s : Nat} (hs : s < N.length) : ∃ k, k + 1 ≤ N.length ∧ IsT N s k := by
  obtain ⟨B, h1, h2⟩ := rcs_grow hS hl hN hc hs (N.length - 1)
  have hlt : B < 2 ^ N.length := h1.lt hN (Nat.pow_lt_pow_right (by omega) hs)
  have hB : B = 2 ^ N.length - 1 := by
    rcases h2 with h2 | h2
    · exact h2
    · refine (cnt_full hl hlt).1 ?_
      have hcf : cnt (2 ^ N.length - 1) = N.length := (cnt_full hl (by have := Nat.one_le_two_pow (n := N.length); omega)).2 rfl
      by_cases e : B = 2 ^ N.length - 1
      · rw [e]; exact hcf
      · obtain ⟨i, i1, i2⟩ := inn_diff (inn_full hlt) e
        have := cnt_lt (inn_full hlt) (by have := bit_lt (a := 2 ^ N.length - 1) (n := N.length) (by have := Nat.one_le_two_pow (n := N.length); omega) i1; omega) i1 i2
        omega
  subst hB
  obtain ⟨j, hj, h⟩ := IsT.ex h1
  exact ⟨j, by omega, h⟩
end Go.Proofs.Ytpbighinamljbaa.PA
namespace Go.Proofs.Ytpbighinamljbaa.PA
open Go Go.Eng Go.Proofs
theorem cut_clp {z m : Nat} {H : AHeap} {X : AV} {cs : List AV} (h : Row z H X m cs) (hm : m < 1048576) (ev : XO → Option AV) (a b : XO) (ha : ev a = some (nA m)) (hb : ev b = some (nA m)) : ∃ X', cutA ev z X none (some a) (some b) = some X' ∧ Clp z H X' m cs := by
  obtain ⟨h0, ⟨rfl, rfl⟩ | ⟨i, full, rfl, h1, h2, h3, h4⟩⟩ := h
  · refine ⟨.nils, ?_, hm, .inl ⟨rfl, rfl, List.eq_nil_of_length_eq_zero (by omega)⟩⟩
    have e : bndA 0 (nA 0) = some 0 := bndA_nat (Nat.le_refl 0)
    simp only [cutA, bounds, obnd, hiBnd, ha, hb, Option.bind_some, e]
  · refine ⟨.sl i 0 m m, ?_, hm, .inr ⟨i, full, _, rfl, h1, h2, h3⟩⟩
    have e : bndA m (nA m) = some m := bndA_nat (Nat.le_refl m)
    simp only [cutA, bounds, obnd, hiBnd, ha, hb, Option.bind_some, e]
    rw [if_neg (by unfold openAt openCap; omega), if_pos (by unfold openAt; omega)]
    simp
theorem k_cutC {cf : CF} {n z m : Nat} {H : AHeap} {l : KL0} {x a b : XO} {X X' : AV} (hx : evK l x = some X) (h : cutA (evK l) z X none (some a) (some b) = some X') : XV cf l H n (.cut z x none (some a) (some b)) = some (X', H) := k_any (op_cut hx h)
theorem Kp.eqm {H H' : AHeap} (hm : H'.m = H.m) (hn : H.next ≤ H'.next) : Kp H H' := ⟨hn, fun k _ => by unfold AHeap.get; rw [hm]⟩
def ClipR (z : Nat) (H : AHeap) (m : Nat) (cs : List AV) (v : AV) (H' : AHeap) : Prop := Clp z H v m cs ∧ H'.m = H.m ∧ H.next ≤ H'.next
theorem x82 {cf : CF} {fuel m : Nat} {H : AHeap} {X : AV} {cs : List AV} (h : Row 2 H X m cs) (hm : m < 1048576) : ∃ v H', xfunc cf fuel L82 [X] H = some (v, H') ∧ ClipR 2 H m cs v H' := by
  refine xfunc_ofK rfl (by show 1 ≤ 9; omega) ?_
  have hln : lenN X = some m := (RdR.of (.inl h)).len
  obtain ⟨X', h1, h2⟩ := cut_clp h hm (evK [(7, nA m), (6, X), (5, nA m), (4, X), (3, X), (2, .nils), (0, X)]) (.t 5) (.t 7) rfl rfl
  unfold L82
  dsimp only
  repeat' (first | refine WK.seq ?_ | refine WK.ret ?_ | (apply WK.reg; (· exact lnn)) | refine WKO.nil ?_ | ((first | apply WKO.op); (· first | exact k_mv rfl | exact k_lenL rfl hln | exact k_cutC (m := m) rfl h1); (· rfl)) | refine pN ?_ | fail)
  exact ⟨nofun, _, rfl, h2, rfl, by simp only [next_bump]; omega⟩
theorem x72 {cf : CF} {fuel m : Nat} {H : AHeap} {X : AV} {cs : List AV} (h : Row 1 H X m cs) (hm : m < 1048576) : ∃ v H', xfunc cf fuel L72 [X] H = some (v, H') ∧ ClipR 1 H m cs v H' := by
  refine xfunc_ofK rfl (by show 1 ≤ 9; omega) ?_
  have hln : lenN X = some m := (RdR.of (.inl h)).len
  obtain ⟨X', h1, h2⟩ := cut_clp h hm (evK [(7, nA m), (6, X), (5, nA m), (4, X), (3, X), (2, .nils), (0, X)]) (.t 5) (.t 7) rfl rfl
  unfold L72
  dsimp only
  repeat' (first | refine WK.seq ?_ | refine WK.ret ?_ | (apply WK.reg; (· exact lnn)) | refine WKO.nil ?_ | ((first | apply WKO.op); (· first | exact k_mv rfl | exact k_lenL rfl hln | exact k_cutC (m := m) rfl h1); (· rfl)) | refine pN ?_ | fail)
  exact ⟨nofun, _, rfl, h2, rfl, by simp only [next_bump]; omega⟩
def RRw (H : AHeap) (Y : AV) (ls : List Prs) : Prop := ∃ cs, Row 1 H Y ls.length cs ∧ ∀ (i : Nat) (l : Prs), ls[i]? = some l → ∃ X, cs[i]? = some X ∧ Row 2 H X l.length (prsC l)
def Kr (H H' : AHeap) : Prop := H.next ≤ H'.next ∧ ∀ k full z, k < H.next → H.get k = some (.cells full (some z)) → H'.get k = some (.cells full (some z))
theorem Kr.refl (H : AHeap) : Kr H H := ⟨Nat.le_refl _, fun _ _ _ _ h => h⟩
theorem Kr.trans {H H' H2 : AHeap} (h : Kr H H') (h2 : Kr H' H2) : Kr H H2 := ⟨Nat.le_trans h.1 h2.1, fun k f z hk hg => h2.2 k f z (Nat.lt_of_lt_of_le hk h.1) (h.2 k f z hk hg)⟩
theorem Kp.kr {H H' : AHeap} (h : Kp H H') : Kr H H' := ⟨h.1, fun k f z hk hg => (h.2 k hk).trans hg⟩
theorem Kr.but {H H' : AHeap} {J : Nat} {o : AObj} (hn : H.next ≤ H'.next) (hg : H.get J = some o) (ho : ∀ f z, o ≠ .cells f (some z)) (h : ∀ k, k < H.next → k ≠ J → H'.get k = H.get k) : Kr H H' := ⟨hn, fun k f z hk hq => by
  rw [h k hk (fun e => by subst e; rw [hg] at hq; exact ho f z (Option.some.inj hq))]
  exact hq⟩
theorem Row.kr {z m : Nat} {H H' : AHeap} {X : AV} {cs : List AV} (h : Row z H X m cs) (k : Kr H H') : Row z H' X m cs := by
  obtain ⟨h0, h | ⟨i, full, rfl, h1, h2, h3, h4⟩⟩ := h
  · exact ⟨h0, .inl h⟩
  · exact ⟨h0, .inr ⟨i, full, rfl, k.2 _ _ _ h4 h1, h2, h3, Nat.lt_of_lt_of_le h4 k.1⟩⟩
theorem RRw.kr {H H' : AHeap} {Y : AV} {ls : List Prs} (h : RRw H Y ls) (k : Kr H H') : RRw H' Y ls := by
  obtain ⟨cs, h1, h2⟩ := h
  exact ⟨cs, Row.kr h1 k, fun i l hl => by
    obtain ⟨X, q1, q2⟩ := h2 i l hl
    exact ⟨X, q1, Row.kr q2 k⟩⟩
theorem RRw.nil (H : AHeap) : RRw H .nils [] := ⟨[], Row.nil 1 H, fun i l h => by cases h⟩
def EntF (H : AHeap) : List (AV × AV) → FW → Prop
  | [], [] => True
  | e :: es, p :: F => e.1 = sA p.1 ∧ RRw H e.2 p.2 ∧ EntF H es F
  | _, _ => False
theorem EntF.kr {H H' : AHeap} (k : Kr H H') : ∀ {es : List (AV × AV)} {F : FW}, EntF H es F → EntF H' es F
  | [], [], _ => trivial
  | e :: es, p :: F, h => ⟨h.1, h.2.1.kr k, EntF.kr k h.2.2⟩
  | [], _ :: _, h => h
  | _ :: _, [], h => h
theorem EntF.add {H : AHeap} {v : AV} {a : Nat} {ls : List Prs} (hv : RRw H v ls) : ∀ {es : List (AV × AV)} {F : FW}, EntF H es F → EntF H (es ++ [(sA a, v)]) (F ++ [(a, ls)])
  | [], [], _ => ⟨rfl, hv, trivial⟩
  | e :: es, p :: F, h => ⟨h.1, h.2.1, EntF.add hv h.2.2⟩
  | [], _ :: _, h => h.elim
  | _ :: _, [], h => h.elim
theorem EntF.len {H : AHeap} : ∀ {es : List (AV × AV)} {F : FW}, EntF H es F → es.length = F.length
  | [], [], _ => rfl
  | e :: es, p :: F, h => by rw [List.length_cons, List.length_cons, EntF.len h.2.2]
  | [], _ :: _, h => h.elim
  | _ :: _, [], h => h.elim
theorem EntF.keys {H : AHeap} : ∀ {es : List (AV × AV)} {F : FW}, EntF H es F → es.map (·.1) = F.map (fun p => sA p.1)
  | [], [], _ => rfl
  | e :: es, p :: F, h => by rw [List.map_cons, List.map_cons, EntF.keys h.2.2, h.1]
  | [], _ :: _, h => h.elim
  | _ :: _, [], h => h.elim
def K16 : KT := .mk false [.i .u16]
theorem key16 {a : Nat} (h : a < 1024) : keyA K16 (sA a) = some [Lit.int .u16 (a : Int)] := by
  have hw : (Lit.int .u16 (a : Int)).wf = true := by
    simp [Lit.wf, IntKind.min, IntKind.max, IntKind.bits, IntKind.signed]
    omega
  simp [keyA, K16, sA, litsA, litA, hw]
theorem lits16 {a b : Nat} : litsEq [Lit.int .u16 (a : Int)] [Lit.int .u16 (b : Int)] = decide (a = b) := by
  simp only [litsEq, litEq]
  rw [Bool.eq_iff_iff]
  simp
  omega
theorem find16 {H : AHeap} {a : Nat} : ∀ {es : List (AV × AV)} {F : FW} (i : Nat), EntF H es F → (∀ p ∈ F, p.1 < 1024) →
    (hasF F a = false ∧ findE K16 [Lit.int .u16 (a : Int)] es i = some none ∧ lookW F a = []) ∨ (hasF F a = true ∧ ∃ j v, findE K16 [Lit.int .u16 (a : Int)] es i = some (some (j, v)) ∧ RRw H v (lookW F a))
  | [], [], i, _, _ => .inl ⟨rfl, rfl, rfl⟩
  | (k, v) :: es, p :: F, i, h, hF => by
    obtain ⟨h1, h2, h3⟩ := h
    dsimp only at h1 h2
    subst h1
    have ih := find16 (a := a) (i + 1) h3 (fun q hq => hF q (List.mem_cons_of_mem _ hq))
    have hk := key16 (hF p (List.mem_cons_self ..))
    by_cases e : a = p.1
    · right
      have e' : (p.1 == a) = true := by simp [e]
      refine ⟨by simp only [hasF, List.any_cons, e', Bool.true_or], i, v, ?_, ?_⟩
      · rcases ih with ⟨_, q, _⟩ | ⟨_, j, u, q, _⟩ <;>
        · simp only [findE, hk, q, lits16]
          rw [if_pos (by simpa using e)]
      · simp only [lookW, List.find?_cons, e', Option.map_some, Option.getD_some]
        exact h2
    · have e' : (p.1 == a) = false := by simp; omega
      have el : lookW (p :: F) a = lookW F a := by simp only [lookW, List.find?_cons, e']
      have eh : hasF (p :: F) a = hasF F a := by simp only [hasF, List.any_cons, e', Bool.false_or]
      rw [el, eh]
      rcases ih with ⟨q0, q, q2⟩ | ⟨q0, j, u, q, q2⟩
      · exact .inl ⟨q0, by simp only [findE, hk, q, lits16]; rw [if_neg (by simpa using e)], q2⟩
      · exact .inr ⟨q0, j, u, by simp only [findE, hk, q, lits16]; rw [if_neg (by simpa using e)], q2⟩
  | [], _ :: _, _, h, _ => h.elim
  | _ :: _, [], _, h, _ => h.elim
theorem upd16 {H : AHeap} {a : Nat} {v : AV} {es : List (AV × AV)} {F : FW} (h : EntF H es F) (hF : ∀ p ∈ F, p.1 < 1024) (hn : hasF F a = false) : updE K16 [Lit.int .u16 (a : Int)] (sA a) v es = some (es ++ [(sA a, v)]) := by
  rcases find16 (a := a) 0 h hF with ⟨_, q, _⟩ | ⟨q, _⟩
  · simp only [updE, q]
  · rw [hn] at q; cases q
theorem Row.one {z : Nat} {H : AHeap} {i : Nat} {c : List AV} (hg : H.get i = some (.cells c (some z))) (hi : i < H.next) {m : Nat} (hc : c.length = m * z) : Row z H (.sl i 0 m openCap) m c :=
  ⟨hc, .inr ⟨i, c, rfl, hg, by rw [List.take_of_length_le (by omega)], by omega, hi⟩⟩
theorem RRw.add {H : AHeap} {ls : List Prs} {l : Prs} {X : AV} {i : Nat} {cs : List AV} (hcs : cs.length = ls.length) (hin : ∀ (j : Nat) (l : Prs), ls[j]? = some l → ∃ X, cs[j]? = some X ∧ Row 2 H X l.length (prsC l)) (hX : Row 2 H X l.length (prsC l)) (hg : H.get i = some (.cells (cs ++ [X]) (some 1))) (hi : i < H.next) : RRw H (.sl i 0 (ls.length + 1) openCap) (ls ++ [l]) := by
  refine ⟨cs ++ [X], ?_, fun j m hj => ?_⟩
  · have := Row.one hg hi (m := (ls ++ [l]).length) (by simp [hcs])
    simpa using this
  · rw [List.getElem?_append] at hj ⊢
    split at hj
    · rename_i h
      rw [if_pos (by omega)]
      exact hin j m hj
    · rename_i h
      rw [if_neg (by omega), hcs]
      cases e : j - ls.length with
      | zero => rw [e] at hj; cases hj; exact ⟨X, rfl, hX⟩
      | succ d => rw [e] at hj; cases hj
end Go.Proofs.Ytpbighinamljbaa.PA
namespace Go.Proofs.Ytpbighinamljbaa.PA
open Go Go.Eng Go.Proofs
theorem k_ldX {cf : CF} {n i p : Nat} {H : AHeap} {l : KL0} {x : XO} {c : List AV} {opn : Option Nat} {v : AV} (hx : evK l x = some (.ptr i p)) (hg : H.get i = some (.cells c opn)) (hc : c[p]? = some v) : XV cf l H n (.load none x) = some (v, H) := k_any (op_loadc hx hg hc)
theorem xop_look {ev : XO → Option AV} {H : AHeap} {n i : Nat} {K : KT} {zero key : AV} {x y : XO} {ok : Bool} {es : List (AV × AV)} {ls : List Lit} {r : Option (Nat × AV)} (hx : ev x = some (.map i)) (hy : ev y = some key) (he : H.get i = some (.map es)) (hk : keyA K key = some ls) (hf : findE K ls es 0 = some r) :
    xop ev H n (.look K zero x y ok) = .v (if ok then .tup [(r.map (·.2)).getD zero, .bool r.isSome] else (r.map (·.2)).getD zero) := by
  cases r with
  | none => simp only [xop, hx, hy, Option.bind_some, entsA, he, hk, hf]; rfl
  | some q => simp only [xop, hx, hy, Option.bind_some, entsA, he, hk, hf]; rfl
theorem k_lookX {cf : CF} {n i : Nat} {H : AHeap} {l : KL0} {K : KT} {zero key : AV} {x y : XO} {ok : Bool} {es : List (AV × AV)} {ls : List Lit} {r : Option (Nat × AV)} {v : AV} (hx : evK l x = some (.map i)) (hy : evK l y = some key) (he : H.get i = some (.map es)) (hk : keyA K key = some ls) (hf : findE K ls es 0 = some r) (hv : (if ok then AV.tup [(r.map (·.2)).getD zero, .bool r.isSome] else (r.map (·.2)).getD zero) = v) :
    XV cf l H n (.look K zero x y ok) = some (v, H) := by
  subst hv
  exact k_any (by simp only [xval, xop_look hx hy he hk hf])
theorem xop_ld {ev : XO → Option AV} {H : AHeap} {n i p : Nat} {x : XO} {c : List AV} {opn : Option Nat} {v : AV} (hx : ev x = some (.ptr i p)) (hg : H.get i = some (.cells c opn)) (hc : c[p]? = some v) : xop ev H n (.load none x) = .v v := by
  simp only [xop, hx, Option.bind_some, loadA, cellsAt, hg, List.getElem?_drop, Nat.add_zero, hc, AR.ofV]
theorem k_bs1 {cf : CF} {n : Nat} {H : AHeap} {l : KL0} {z v : AV} {x : XO} (hx : evK l x = some v) (hv : v.cells = [v]) : XV cf l H n (.bslice [z] [(0, 1, x)] 1) = some (.sl n 0 1 1, H.set n (some (.cells [v] none))) :=
  k_any (by
    have : (evParts (evK l) [(0, 1, x)]).bind (fillA (List.replicate 1 [z]).flatten) = some [v] := by simp [evParts, hx, fillA, hv]
    simp only [xval, xop, this])
theorem k_bs2 {cf : CF} {n : Nat} {H : AHeap} {l : KL0} {z z' a b : AV} {x : XO} (hx : evK l x = some (.agg [a, b])) : XV cf l H n (.bslice [z, z'] [(0, 2, x)] 1) = some (.sl n 0 1 1, H.set n (some (.cells [a, b] none))) :=
  k_any (by
    have : (evParts (evK l) [(0, 2, x)]).bind (fillA (List.replicate 1 [z, z']).flatten) = some [a, b] := by simp [evParts, hx, fillA, AV.cells]
    simp only [xval, xop, this])
theorem k_appC {cf : CF} {n z m j bytes : Nat} {H : AHeap} {l : KL0} {x y : XO} {X : AV} {cs new : List AV} (hx : evK l x = some X) (hy : evK l y = some (.sl j 0 1 1)) (h : Clp z H X m cs) (hb : bytes ≤ 2 ^ 16) (hj : H.get j = some (.cells new none)) (hnl : new.length = z) (ho : new.all AV.oneCell = true) :
    XV cf l H n (.app z bytes x y) = some (.sl H.next 0 (m + 1) openCap, H.add (.cells (cs ++ new) (some z))) :=
  k_any (by simp only [xval, xop, hx, hy, h.app hb hj hnl ho])
theorem k_updX {cf : CF} {n i : Nat} {H : AHeap} {l : KL0} {K : KT} {x y z : XO} {key v : AV} {es es' : List (AV × AV)} {ls : List Lit} (hx : evK l x = some (.map i)) (hy : evK l y = some key) (hz : evK l z = some v) (hg : H.get i = some (.map es)) (hk : keyA K key = some ls) (hu : updE K ls key v es = some es') :
    XV cf l H n (.upd K x y z) = some (undefA, H.set i (some (.map es'))) :=
  k_any (by simp only [xval, xop, hx, hy, hz, hg, hk, hu])
structure AddC (H : AHeap) (b8 b5 b10 J I inf : Nat) (F W : FW) : Prop where
  g8 : H.get b8 = some (.cells [.map J] none)
  g5 : H.get b5 = some (.cells [.map I] none)
  g10 : H.get b10 = some (.cells [sA inf] none)
  l8 : b8 < H.next
  l5 : b5 < H.next
  l10 : b10 < H.next
  lJ : J < H.next
  lI : I < H.next
  eJ : ∃ es, H.get J = some (.map es) ∧ EntF H es F
  eI : ∃ es, H.get I = some (.map es) ∧ EntF H es W
  ne : J ≠ I
structure AddR (H H' : AHeap) (J : Nat) (F : FW) : Prop where
  e : ∃ es, H'.get J = some (.map es) ∧ EntF H' es F
  nx : H.next ≤ H'.next
  fr : ∀ k, k < H.next → k ≠ J → H'.get k = H.get k
theorem AddC.up {H H' : AHeap} {b8 b5 b10 J I inf : Nat} {F W : FW} (h : AddC H b8 b5 b10 J I inf F W) (k : Kp H H') : AddC H' b8 b5 b10 J I inf F W := by
  obtain ⟨es, e1, e2⟩ := h.eJ
  obtain ⟨es', e3, e4⟩ := h.eI
  exact ⟨(k.2 _ h.l8).trans h.g8, (k.2 _ h.l5).trans h.g5, (k.2 _ h.l10).trans h.g10, Nat.lt_of_lt_of_le h.l8 k.1, Nat.lt_of_lt_of_le h.l5 k.1, Nat.lt_of_lt_of_le h.l10 k.1, Nat.lt_of_lt_of_le h.lJ k.1, Nat.lt_of_lt_of_le h.lI k.1,
    ⟨es, (k.2 _ h.lJ).trans e1, e2.kr k.kr⟩, ⟨es', (k.2 _ h.lI).trans e3, e4.kr k.kr⟩, h.ne⟩
theorem AddR.kr {H H' : AHeap} {b8 b5 b10 J I inf : Nat} {F W F' : FW} (h : AddC H b8 b5 b10 J I inf F W) (r : AddR H H' J F') : Kr H H' := by
  obtain ⟨es, e1, _⟩ := h.eJ
  exact Kr.but r.nx e1 (fun _ _ => nofun) r.fr
theorem AddC.step {H H' : AHeap} {b8 b5 b10 J I inf : Nat} {F W F' : FW} (h : AddC H b8 b5 b10 J I inf F W) (r : AddR H H' J F') : AddC H' b8 b5 b10 J I inf F' W := by
  obtain ⟨es, e1, e2⟩ := h.eJ
  obtain ⟨es', e3, e4⟩ := h.eI
  have n8 : b8 ≠ J := fun q => by have := h.g8; rw [q, e1] at this; cases this
  have n5 : b5 ≠ J := fun q => by have := h.g5; rw [q, e1] at this; cases this
  have n10 : b10 ≠ J := fun q => by have := h.g10; rw [q, e1] at this; cases this
  exact ⟨(r.fr _ h.l8 n8).trans h.g8, (r.fr _ h.l5 n5).trans h.g5, (r.fr _ h.l10 n10).trans h.g10, Nat.lt_of_lt_of_le h.l8 r.nx, Nat.lt_of_lt_of_le h.l5 r.nx, Nat.lt_of_lt_of_le h.l10 r.nx, Nat.lt_of_lt_of_le h.lJ r.nx, Nat.lt_of_lt_of_le h.lI r.nx,
    r.e, ⟨es', (r.fr _ h.lI (fun q => h.ne q.symm)).trans e3, e4.kr (r.kr h)⟩, h.ne⟩
set_option maxHeartbeats 1000000 in
theorem x71 {cf : CF} {fuel b8 b5 b10 J I inf now : Nat} {F W : FW} {H0 : AHeap} {CS : AV} {cs : Prs} (hcl : Go.Eng.Clean H0) (h : AddC H0 b8 b5 b10 J I inf F W) (hF : ∀ p ∈ F, p.1 < 1024) (hW : ∀ p ∈ W, p.1 < 1024) (hn : now < 1024) (hi : inf < 1024) (hC : Row 2 H0 CS cs.length (prsC cs)) (hl : (lookW W inf).length < 1000)
    (h72 : ∀ H v m cs, Row 1 H v m cs → m < 1048576 → ∃ u H', cf 72 [v] H = some (u, H') ∧ ClipR 1 H m cs u H') :
    ∃ u H', xfunc cf fuel L71 [sA now, CS, .ptr b8 0, .ptr b5 0, .ptr b10 0] H0 = some (u, H') ∧ u = .tup [] ∧ AddR H0 H' J (addF (lookW W inf) F (now, cs)) := by
  refine xfunc_ofK rfl (by show 5 ≤ 26; omega) ?_
  obtain ⟨es, e1, e2⟩ := h.eJ
  obtain ⟨es', e3, e4⟩ := h.eI
  have g8 := h.g8
  have g5 := h.g5
  have g10 := h.g10
  have l8 := h.l8
  have l5 := h.l5
  have l10 := h.l10
  have lJ := h.lJ
  have lI := h.lI
  have n8 : b8 ≠ J := fun q => by rw [q, e1] at g8; cases g8
  unfold L71
  dsimp only
  rcases find16 (a := now) 0 e2 hF with ⟨f1, f2, _⟩ | ⟨f1, j, v, f2, _⟩
  · obtain ⟨rv, f4, hbase⟩ : ∃ rv, findE K16 [Lit.int .u16 (inf : Int)] es' 0 = some rv ∧ RRw H0 ((rv.map (·.2)).getD .nils) (lookW W inf) := by
      rcases find16 (a := inf) 0 e4 hW with ⟨_, q, q2⟩ | ⟨_, j, v, q, q2⟩
      · exact ⟨none, q, by rw [q2]; exact RRw.nil _⟩
      · exact ⟨some (j, v), q, q2⟩
    obtain ⟨V, hV⟩ : ∃ V, (rv.map (·.2)).getD AV.nils = V := ⟨_, rfl⟩
    rw [hV] at hbase
    obtain ⟨cb, b1, b2⟩ := hbase
    repeat' (first | refine WK.seq ?_ | (apply WK.reg; (· exact lnn)) | refine WKO.nil ?_ | ((first | apply WKO.op); (· first | exact k_mv rfl | (apply k_ldX; (· rfl); (· exact g8); (· rfl)) | (apply k_lookX; (· rfl); (· rfl); (· exact e1); (· exact key16 hn); (· exact f2); (· rfl)) | exact opA); (· rfl)) | refine pN ?_ | (apply WK.condT; (· rfl); (· exact dcd)) | fail)
    refine WK.regT (k := 10) rfl ?_
    generalize hB : AHeap.bump (AHeap.bump H0 8) 2 = HB
    have hBm : HB.m = H0.m := by rw [← hB]; rfl
    have hBn : HB.next = H0.next + 10 := by rw [← hB]; rfl
    have hBg : ∀ k, HB.get k = H0.get k := fun k => by unfold AHeap.get; rw [hBm]
    have hcB : ∀ k, H0.next ≤ k → HB.get k = none := fun k hk => (hBg k).trans (hcl k hk)
    have u8 : ∀ k, (HB.bump 10).get k = H0.get k := hBg
    repeat' (first | ((first | apply WKT.op); (· first | exact k_mv rfl | (apply k_ldX; (· rfl); (· first | exact (u8 _).trans g8 | exact (u8 _).trans g5 | exact (u8 _).trans g10); (· rfl)) | (apply k_lookX; (· rfl); (· rfl); (· exact (u8 _).trans e3); (· exact key16 hi); (· exact f4); (· exact hV))); (· rfl)) | fail)
    refine WKT.callV rfl rfl rfl (h72 _ _ _ _ (b1.frame (H' := HB.bump 10) (by simp only [next_bump]; omega) (fun k _ => u8 k)) (by omega)) ?_
    rintro X H2 ⟨hX, hm2, hn2⟩
    have hg2 : ∀ k, H2.get k = H0.get k := fun k => by unfold AHeap.get; rw [hm2]; exact u8 k
    have hn2' : HB.next + 10 ≤ H2.next := hn2
    repeat' (first | ((first | apply WKT.op); (· first | exact k_mv rfl); (· rfl)) | fail)
    obtain ⟨H3, hH3⟩ : ∃ H3, H2.set (HB.next + 7) (some (.cells [CS] none)) = H3 := ⟨_, rfl⟩
    have hg3 : ∀ k, k ≠ HB.next + 7 → H3.get k = H0.get k := fun k hk => by rw [← hH3, AHeap.get_set, if_neg hk, hg2]
    have hn3 : H3.next = H2.next := by rw [← hH3]; rfl
    have hN3 : H3.get (HB.next + 7) = some (.cells [CS] none) := by rw [← hH3, AHeap.get_set, if_pos rfl]
    have hCc : CS.cells = [CS] := row_cells hC
    have hC1 : CS.oneCell = true := row_own1 hC
    refine WKT.op (v := .sl (HB.next + 7) 0 1 1) (H1 := H3) (by rw [← hH3]; exact k_bs1 rfl hCc) rfl ?_
    have hXn : ∀ k, X.own = some k → k ≠ HB.next + 7 := fun k hk e => by
      obtain ⟨_, ⟨rfl, _⟩ | ⟨i, full, opn, rfl, q, _⟩⟩ := hX
      · cases hk
      · cases hk
        rw [e, u8, hcl _ (by omega)] at q
        cases q
    have hXc : Clp 1 H3 X (lookW W inf).length cb := (hX.frame (H' := H3) (fun k hk => by rw [hg3 k (hXn k hk), u8]))
    obtain ⟨H4, hH4⟩ : ∃ H4, H3.add (.cells (cb ++ [CS]) (some 1)) = H4 := ⟨_, rfl⟩
    have hn4 : H4.next = H3.next + 1 := by rw [← hH4]; rfl
    have hN4 : H4.get H3.next = some (.cells (cb ++ [CS]) (some 1)) := by rw [← hH4, AHeap.get_add, if_pos rfl]
    have hg4 : ∀ k, k ≠ HB.next + 7 → k ≠ H3.next → H4.get k = H0.get k := fun k h1 h2 => by rw [← hH4, AHeap.get_add, if_neg h2, hg3 k h1]
    refine WKT.op (v := .sl H3.next 0 ((lookW W inf).length + 1) openCap) (H1 := H4) (by rw [← hH4]; exact k_appC rfl rfl hXc (by omega) hN3 rfl (by simp [hC1])) rfl ?_
    have hJ4 : H4.get J = some (.map es) := (hg4 J (by omega) (by omega)).trans e1
    obtain ⟨H5, hH5⟩ : ∃ H5, H4.set J (some (.map (es ++ [(sA now, .sl H3.next 0 ((lookW W inf).length + 1) openCap)]))) = H5 := ⟨_, rfl⟩
    have hn5 : H5.next = H4.next := by rw [← hH5]; rfl
    have hg5 : ∀ k, k ≠ J → H5.get k = H4.get k := fun k hk => by rw [← hH5, AHeap.get_set, if_neg hk]
    refine WKT.opn (v := undefA) (H1 := H5) (by rw [← hH5]; exact k_updX rfl rfl rfl hJ4 (key16 hn) (upd16 e2 hF f1)) rfl ?_
    have hless : ∀ (Hq : AHeap) (l : List Nat) (k : Nat), k < H0.next → ((Hq.less HB.next [7]).less HB.next l).get k = Hq.get k := fun Hq l k hk => by rw [less_get (H := Hq) l _ (fun i _ => by omega), less_get (H := Hq) [7] _ (fun i _ => by omega)]
    have hJ5 : H5.get J = some (.map (es ++ [(sA now, .sl H3.next 0 ((lookW W inf).length + 1) openCap)])) := by rw [← hH5, AHeap.get_set, if_pos rfl]
    have hfr : ∀ k, k < H0.next → k ≠ J → H5.get k = H0.get k := fun k hk hkJ => by rw [hg5 k hkJ, hg4 k (by omega) (by omega)]
    have hkr : Kr H0 H5 := Kr.but (by omega) e1 (fun _ _ => nofun) hfr
    refine WKT.nil ⟨?_, ?_, (_, H5), rfl, ?_⟩
    · intro q hq
      simp only [List.mem_cons, List.not_mem_nil, or_false] at hq
      rcases hq with rfl | rfl | rfl | rfl
      · refine ⟨_, _, _, _, .map J, rfl, rfl, rfl, xop_ld rfl ((u8 _).trans g8) rfl, fun j hj => ?_⟩
        have hj' : j = 0 ∨ j = 5 ∨ j = 8 ∨ j = 6 ∨ j = 9 := by simpa using hj
        rcases hj' with rfl | rfl | rfl | rfl | rfl <;>
          exact ⟨_, rfl, xop_ld rfl ((hless _ _ _ l8).trans (by first | exact (u8 _).trans g8 | exact (hg2 _).trans g8 | exact (hg3 _ (by omega)).trans g8 | exact (hg4 _ (by omega) (by omega)).trans g8)) rfl⟩
      · refine ⟨_, _, _, _, .map I, rfl, rfl, rfl, xop_ld rfl ((u8 _).trans g5) rfl, fun j hj => ?_⟩
        have hj' : j = 2 := by simpa using hj
        subst hj'
        exact ⟨_, rfl, xop_ld rfl ((hless _ _ _ l5).trans ((u8 _).trans g5)) rfl⟩
      · refine ⟨_, _, _, _, sA inf, rfl, rfl, rfl, xop_ld rfl ((u8 _).trans g10) rfl, fun j hj => ?_⟩
        have hj' : j = 3 := by simpa using hj
        subst hj'
        exact ⟨_, rfl, xop_ld rfl ((hless _ _ _ l10).trans ((u8 _).trans g10)) rfl⟩
      · refine ⟨_, _, _, _, _, rfl, rfl, rfl, xop_look rfl rfl ((u8 _).trans e3) (key16 hi) f4, fun j hj => ?_⟩
        have hj' : j = 4 := by simpa using hj
        subst hj'
        exact ⟨_, rfl, xop_look rfl rfl ((hless _ _ _ lI).trans ((u8 _).trans e3)) (key16 hi) f4⟩
    · intro j hj
      have hj' : j = 7 := by simpa using hj
      subst hj'
      refine ⟨_, rfl, rfl, fun i hi => ?_⟩
      have hi' : i = 0 ∨ i = 1 ∨ i = 2 ∨ i = 3 ∨ i = 4 ∨ i = 5 ∨ i = 6 ∨ i = 7 := by omega
      rcases hi' with rfl | rfl | rfl | rfl | rfl | rfl | rfl | rfl <;>
        exact ⟨_, rfl, by first | exact (u8 _).trans (hcl _ (by omega)) | exact (hg2 _).trans (hcl _ (by omega))⟩
    · dsimp only
      refine ⟨nofun, _, rfl, rfl, ⟨_, hJ5, ?_⟩, by omega, hfr⟩
      rw [addF, if_neg (fun q => by rw [f1] at q; cases q)]
      refine (e2.kr hkr).add ?_
      have hcb : cb.length = (lookW W inf).length := by have := b1.1; omega
      have hCr : Row 2 H5 CS cs.length (prsC cs) := Row.kr hC hkr
      refine RRw.add (X := CS) hcb (fun i l hl => ?_) hCr ?_ (by omega)
      · obtain ⟨X', q1, q2⟩ := b2 i l hl
        exact ⟨X', q1, Row.kr q2 hkr⟩
      · rw [hg5 _ (by omega)]; exact hN4
  · repeat' (first | refine WK.seq ?_ | refine WK.skip ?_ | (apply WK.reg; (· exact lnn)) | refine WKO.nil ?_ | ((first | apply WKO.op); (· first | exact k_mv rfl | (apply k_ldX; (· rfl); (· exact g8); (· rfl)) | (apply k_lookX; (· rfl); (· rfl); (· exact e1); (· exact key16 hn); (· exact f2); (· rfl)) | exact opA); (· rfl)) | refine pN ?_ | (apply WK.condF; (· rfl); (· exact dcd)) | fail)
    refine ⟨nofun, _, rfl, rfl, ⟨es, e1, ?_⟩, ?_, fun k _ _ => rfl⟩
    · rw [addF, if_pos f1]
      refine EntF.kr (Kp.kr (Kp.eqm (H := H0) (H' := (H0.bump 8).bump 2) rfl ?_)) e2
      simp only [next_bump]
      omega
    · simp only [next_bump]; omega
end Go.Proofs.Ytpbighinamljbaa.PA
namespace Go.Proofs.Ytpbighinamljbaa.PA
open Go Go.Eng Go.Proofs
structure GrH (H : AHeap) (G M m : Nat) (N : List Nat) : Prop where
  g : H.get G = some (.cells [nA m, .sl M 0 m m] none)
  s : H.get M = some (.cells (N.map sA) none)
  lg : G < H.next
  ls : M < H.next
theorem GrH.up {H H' : AHeap} {G M m : Nat} {N : List Nat} (h : GrH H G M m N) (k : Kp H H') : GrH H' G M m N :=
  ⟨(k.2 _ h.lg).trans h.g, (k.2 _ h.ls).trans h.s, Nat.lt_of_lt_of_le h.lg k.1, Nat.lt_of_lt_of_le h.ls k.1⟩
theorem GrH.step {H H' : AHeap} {G M m J : Nat} {N : List Nat} {F : FW} {es : List (AV × AV)} (h : GrH H G M m N) (hJ : H.get J = some (.map es)) (r : AddR H H' J F) : GrH H' G M m N := by
  have n1 : G ≠ J := fun q => by have := h.g; rw [q, hJ] at this; cases this
  have n2 : M ≠ J := fun q => by have := h.s; rw [q, hJ] at this; cases this
  exact ⟨(r.fr _ h.lg n1).trans h.g, (r.fr _ h.ls n2).trans h.s, Nat.lt_of_lt_of_le h.lg r.nx, Nat.lt_of_lt_of_le h.ls r.nx⟩
theorem outs_lt {N : List Nat} {A : Nat} (hl : N.length ≤ 10) : ∀ (s v now : Nat) (cs : Prs), now < 1024 → ∀ p ∈ outs N A s v now cs, p.1 < 1024
  | 0, v, now, cs, h, p, hp => by
    have : p = (now, cs) := by simpa [outs] using hp
    subst this; exact h
  | s + 1, v, now, cs, h, p, hp => by
    rw [outs] at hp
    split at hp
    · split at hp
      · exact outs_lt hl s _ _ _ h p hp
      · obtain ⟨w, hw, hp⟩ := List.mem_flatMap.1 hp
        have hw := (gws_mem.1 hw).1
        exact outs_lt hl s _ _ _ (or10 h (pow10 (by omega))) p hp
    · exact outs_lt hl s _ _ _ h p hp
theorem foldA_lt {base : List Prs} {l : List (Nat × Prs)} {F : FW} (hF : ∀ p ∈ F, p.1 < 1024) (hl : ∀ p ∈ l, p.1 < 1024) : ∀ p ∈ l.foldl (addF base) F, p.1 < 1024 := fun p hp => by
  rcases foldA_mem l F p hp with h | ⟨q, hq, rfl⟩
  · exact hF p h
  · exact hl q hq
theorem AddR.refl {H H' : AHeap} {b8 b5 b10 J I inf : Nat} {F W : FW} (h : AddC H b8 b5 b10 J I inf F W) (k : Kp H H') : AddR H H' J F := by
  obtain ⟨es, e1, e2⟩ := h.eJ
  exact ⟨⟨es, (k.2 _ h.lJ).trans e1, e2.kr k.kr⟩, k.1, fun j hj _ => k.2 j hj⟩
theorem AddR.trans {H H' H2 : AHeap} {J : Nat} {F F' : FW} (h : AddR H H' J F) (g : AddR H' H2 J F') : AddR H H2 J F' :=
  ⟨g.e, Nat.le_trans h.nx g.nx, fun k hk hJ => (g.fr k (Nat.lt_of_lt_of_le hk h.nx) hJ).trans (h.fr k hk hJ)⟩
theorem AddR.pre {H H' H2 : AHeap} {J : Nat} {F : FW} (h : Kp H H') (g : AddR H' H2 J F) : AddR H H2 J F :=
  ⟨g.e, Nat.le_trans h.1 g.nx, fun k hk hJ => (g.fr k (Nat.lt_of_lt_of_le hk h.1) hJ).trans (h.2 k hk)⟩
theorem AddR.up {H H' H2 : AHeap} {J : Nat} {F : FW} (h : AddR H H' J F) (hm : H2.m = H'.m) (hn : H'.next ≤ H2.next) (hlt : J < H'.next) : AddR H H2 J F := by
  obtain ⟨es, e1, e2⟩ := h.e
  have hg : ∀ k, H2.get k = H'.get k := fun k => by unfold AHeap.get; rw [hm]
  exact ⟨⟨es, (hg _).trans e1, e2.kr (Kp.kr (Kp.eqm hm hn))⟩, Nat.le_trans h.nx hn, fun k hk hJ => (hg k).trans (h.fr k hk hJ)⟩
theorem clean_eqm {H H' : AHeap} (h : Go.Eng.Clean H) (hm : H'.m = H.m) (hn : H.next ≤ H'.next) : Go.Eng.Clean H' := fun j hj => by
  have : H'.get j = H.get j := by unfold AHeap.get; rw [hm]
  rw [this]
  exact h j (Nat.le_trans hn hj)
def K70 (cf : CF) (N : List Nat) (m G M b8 b5 b10 J I inf : Nat) (W : FW) (v : Nat) : Prop :=
  ∀ (H : AHeap) (now : Nat) (cs : Prs) (CS : AV) (F : FW), Go.Eng.Clean H → AddC H b8 b5 b10 J I inf F W → GrH H G M m N → Row 2 H CS cs.length (prsC cs) → now < 1024 → (∀ p ∈ F, p.1 < 1024) → cs.length ≤ v →
    ∃ u H', cf 70 [.ptr G 0, sA inf, sA now, nA v, CS, .fn 71 [.ptr b8 0, .ptr b5 0, .ptr b10 0]] H = some (u, H') ∧ u = .tup [] ∧ AddR H H' J ((outs N inf (m - v) v now cs).foldl (addF (lookW W inf)) F)
def gwu (N : List Nat) (v now w : Nat) : List Nat := (List.range w).filter fun w => bt (sdiff (N.getD v 0) now) w
theorem gwu_succ (N : List Nat) (v now w : Nat) : gwu N v now (w + 1) = gwu N v now w ++ if bt (sdiff (N.getD v 0) now) w = true then [w] else [] := by
  unfold gwu
  rw [List.range_succ, List.filter_append]
  congr 1
  rw [List.filter_cons, List.filter_nil]
theorem sdiff_lt {a b n : Nat} (h : a < n) : sdiff a b < n := Nat.lt_of_le_of_lt (sdiff_le a b) h
set_option maxHeartbeats 2000000 in
theorem x70 {cf : CF} {fuel m G M b8 b5 b10 J I inf now v : Nat} {N : List Nat} {F W : FW} {H0 : AHeap} {CS : AV} {cs : Prs} (hNl : N.length = m) (hm : m ≤ 10) (hNt : ∀ c ∈ N, c < 1024) (hfu : 20 < fuel) (hcc : CleanCF cf)
    (hcl : Go.Eng.Clean H0) (h : AddC H0 b8 b5 b10 J I inf F W) (hg : GrH H0 G M m N) (hC : Row 2 H0 CS cs.length (prsC cs)) (hnow : now < 1024) (hF : ∀ p ∈ F, p.1 < 1024) (hcs : cs.length ≤ v) (hv : v ≤ m) (hi : inf < 1024)
    (h64 : ∀ H m i, m < 1024 → i < 10 → cf 64 [sA m, nA i] H = some (.bool (m.testBit i), H))
    (h82 : ∀ H v m cs, Row 2 H v m cs → m < 1048576 → ∃ u H', cf 82 [v] H = some (u, H') ∧ ClipR 2 H m cs u H')
    (h71 : ∀ H now cs CS F, Go.Eng.Clean H → AddC H b8 b5 b10 J I inf F W → (∀ p ∈ F, p.1 < 1024) → now < 1024 → Row 2 H CS cs.length (prsC cs) → ∃ u H', cf 71 [sA now, CS, .ptr b8 0, .ptr b5 0, .ptr b10 0] H = some (u, H') ∧ u = .tup [] ∧ AddR H H' J (addF (lookW W inf) F (now, cs)))
    (h70 : ∀ v', v < v' → v' ≤ m → K70 cf N m G M b8 b5 b10 J I inf W v') :
    ∃ u H', xfunc cf fuel L70 [.ptr G 0, sA inf, sA now, nA v, CS, .fn 71 [.ptr b8 0, .ptr b5 0, .ptr b10 0]] H0 = some (u, H') ∧ u = .tup [] ∧ AddR H0 H' J ((outs N inf (m - v) v now cs).foldl (addF (lookW W inf)) F) := by
  refine xfunc_ofK rfl (by show 6 ≤ 83; omega) ?_
  have hgm : ∀ {H : AHeap}, H.m = H0.m → ∀ k, H.get k = H0.get k := fun h k => by unfold AHeap.get; rw [h]
  unfold L70
  dsimp only
  refine WK.cut (α := Nat) (fun v' => [(0, .ptr G 0), (1, sA inf), (2, sA now), (3, nA v'), (4, CS), (5, .fn 71 [.ptr b8 0, .ptr b5 0, .ptr b10 0])]) (fun v' H => v ≤ v' ∧ v' ≤ m ∧ (v' < m → bt inf v' = true) ∧ outs N inf (m - v') v' now cs = outs N inf (m - v) v now cs ∧ H.m = H0.m ∧ H0.next ≤ H.next) ?_ ?_
  · repeat' (first | refine WK.block ?_ | fail)
    refine WK.loop (α := Nat) (fun v' => [(0, .ptr G 0), (1, sA inf), (2, sA now), (3, nA v'), (4, CS), (5, .fn 71 [.ptr b8 0, .ptr b5 0, .ptr b10 0])]) (fun v' H => v ≤ v' ∧ v' ≤ m ∧ outs N inf (m - v') v' now cs = outs N inf (m - v) v now cs ∧ H.m = H0.m ∧ H0.next ≤ H.next) (fun v' => m - v') v (.cons rfl <| .cons rfl <| .cons rfl <| .cons rfl <| .cons rfl <| .cons rfl <| .nil _) ⟨Nat.le_refl _, hv, rfl, rfl, Nat.le_refl _⟩ (by omega) ?_
    rintro v' H ⟨a1, a2, a3, a4, a5⟩
    have hgG := (hgm a4 G).trans hg.g
    by_cases hvm : v' < m
    · repeat' (first | refine WK.seq ?_ | refine WK.skip ?_ | refine WK.exit ?_ | refine WK.block ?_ | (apply WK.reg; (· exact lnn)) | refine WKO.nil ?_ | ((first | apply WKO.op | ((first | apply WKO.gop); (· rfl); (· exact dcd))); (· first | exact k_mv rfl | (apply k_ldX; (· rfl); (· exact hgG); (· rfl)) | exact k_nilc rfl | exact k_faddr rfl | exact k_bt64 h64 rfl rfl hi (by omega) | exact opA); (· rfl)) | refine pN ?_ | refine pX ?_ | refine bN ?_ | refine bX ?_ | (apply WK.condN; (· rfl); all_goals intro _) | fail)
      · rename_i hb
        refine ⟨v' + 1, (.cons rfl <| .cons rfl <| .cons rfl <| .cons rfl <| .cons rfl <| .cons rfl <| .nil _), ⟨by omega, by omega, ?_, a4, by simp only [next_bump]; omega⟩, by omega⟩
        rw [← a3, show m - v' = m - (v' + 1) + 1 by omega, outs, if_neg (by rw [hb]; decide)]
      · rename_i hb
        exact ⟨v', (.cons rfl <| .cons rfl <| .cons rfl <| .cons rfl <| .cons rfl <| .cons rfl <| .nil _), by omega, by omega, fun _ => hb, a3, a4, by simp only [next_bump]; omega⟩
    · repeat' (first | refine WK.seq ?_ | refine WK.exit ?_ | (apply WK.reg; (· exact lnn)) | refine WKO.nil ?_ | ((first | apply WKO.op); (· first | exact k_mv rfl | (apply k_ldX; (· rfl); (· exact hgG); (· rfl)) | exact k_nilc rfl | exact k_faddr rfl | exact opA); (· rfl)) | ((first | apply WKO.gnoT); (· rfl); (· exact dcd)) | refine pN ?_ | refine pX ?_ | refine bX ?_ | (apply WK.condF; (· rfl); (· exact dcd)) | fail)
      exact ⟨v', (.cons rfl <| .cons rfl <| .cons rfl <| .cons rfl <| .cons rfl <| .cons rfl <| .nil _), by omega, by omega, fun q => absurd q hvm, a3, a4, by simp only [next_bump]; omega⟩
  · rintro v' H ⟨a1, a2, a3, a4, a5, a6⟩
    have hgG := (hgm a5 G).trans hg.g
    rw [← a4]
    have hkp : ∀ {H' : AHeap}, H'.m = H.m → H.next ≤ H'.next → Kp H0 H' := fun q1 q2 => Kp.eqm (q1.trans a5) (Nat.le_trans a6 q2)
    have hcH : ∀ {H' : AHeap}, H'.m = H.m → H.next ≤ H'.next → Go.Eng.Clean H' := fun q1 q2 => clean_eqm hcl (q1.trans a5) (Nat.le_trans a6 q2)
    by_cases hvm : v' = m
    · subst hvm
      have c71 : ∀ {H' : AHeap}, H'.m = H.m → H.next ≤ H'.next → ∃ u H'', cf 71 [sA now, CS, .ptr b8 0, .ptr b5 0, .ptr b10 0] H' = some (u, H'') ∧ u = .tup [] ∧ AddR H' H'' J (addF (lookW W inf) F (now, cs)) := fun q1 q2 =>
        h71 _ now cs CS F (hcH q1 q2) (h.up (hkp q1 q2)) hF hnow (Row.kr hC (hkp q1 q2).kr)
      repeat' (first | refine WK.seq ?_ | refine WK.ret ?_ | (apply WK.reg; (· exact lnn)) | (refine WKO.callV rfl rfl rfl (c71 (by rfl) (by simp only [next_bump]; omega)) ?_; rintro _ _ ⟨rfl, _⟩) | refine WKO.nil ?_ | ((first | apply WKO.op); (· first | exact k_mv rfl | (apply k_ldX; (· rfl); (· exact hgG); (· rfl)) | exact k_nilc rfl | exact k_faddr rfl | exact opA); (· rfl)) | refine pN ?_ | refine pR ?_ | (apply WK.condT; (· rfl); (· exact dcd)) | fail)
      rename_i H2 hr
      refine ⟨nofun, _, rfl, rfl, ?_⟩
      rw [Nat.sub_self]
      exact AddR.pre (hkp (by rfl) (by simp only [next_bump]; omega)) hr
    · have hvb := a3 (by omega)
      repeat' (first | refine WK.seq ?_ | refine WK.skip ?_ | refine WK.block ?_ | (apply WK.reg; (· exact lnn)) | refine WKO.nil ?_ | ((first | apply WKO.op); (· first | exact k_mv rfl | (apply k_ldX; (· rfl); (· exact hgG); (· rfl)) | exact k_nilc rfl | exact k_faddr rfl | exact opA); (· rfl)) | refine pN ?_ | (apply WK.condF; (· rfl); (· exact dcd)) | fail)
      have hlJ := h.lJ
      obtain ⟨es0, hJ0, _⟩ := h.eJ
      refine WK.loop (α := Nat × FW) (fun p => [(0, .ptr G 0), (1, sA inf), (2, sA now), (3, nA v'), (4, CS), (5, .fn 71 [.ptr b8 0, .ptr b5 0, .ptr b10 0]), (12, .bool (gwu N v' now p.1).isEmpty), (41, nA m), (42, nA p.1)])
        (fun p H => p.1 ≤ m ∧ p.2 = ((gwu N v' now p.1).flatMap fun u => outs N inf (m - (v' + 1)) (v' + 1) (now ||| 2 ^ u) (cs ++ [(v', u)])).foldl (addF (lookW W inf)) F ∧ AddR H0 H J p.2 ∧ Go.Eng.Clean H) (fun p => m - p.1) (0, F) (.cons rfl <| .cons rfl <| .cons rfl <| .cons rfl <| .cons rfl <| .cons rfl <| .cons rfl <| .cons rfl <| .cons rfl <| .nil _)
        ⟨Nat.zero_le _, rfl, AddR.refl h (hkp (by rfl) (by simp only [next_bump]; omega)), hcH (by rfl) (by simp only [next_bump]; omega)⟩ (by dsimp only; omega) ?_
      clear hgG hkp hcH
      rintro ⟨w, F'⟩ H ⟨b1, b2, b3, b4⟩
      dsimp only at b1 b2 b3 b4 ⊢
      have hgr := hg.step hJ0 b3
      have hgG := hgr.g
      have hgM := hgr.s
      have hnx := b3.nx
      have hF' : ∀ p ∈ F', p.1 < 1024 := by
        rw [b2]
        refine foldA_lt hF fun p hp => ?_
        obtain ⟨u, hu, hp⟩ := List.mem_flatMap.1 hp
        have hu' : u < w := by
          unfold gwu at hu
          exact List.mem_range.1 (List.mem_filter.1 hu).1
        exact outs_lt (by omega) _ _ _ _ (or10 hnow (pow10 (by omega))) p hp
      by_cases hw : w < m
      · have hs := gwu_succ N v' now w
        repeat' (first | refine WK.seq ?_ | refine WK.skip ?_ | refine WK.block ?_ | (apply WK.reg; (· exact lnn)) | refine WKO.nil ?_ | ((first | apply WKO.op); (· first | exact k_mv rfl | (apply k_ldX; (· rfl); (· exact hgG); (· rfl)) | (apply k_ldX; (· rfl); (· exact hgM); (· exact map_at (by omega))) | exact k_ia1s rfl rfl (by omega) | exact k_nilc rfl | exact k_faddr rfl | exact k_dif16 rfl rfl (getD_lt10 hNt _) hnow | exact k_bt64 h64 rfl rfl (sdiff_lt (getD_lt10 hNt _)) (by omega) | exact opA); (· rfl)) | refine pN ?_ | refine bN ?_ | (apply WK.condT; (· rfl); (· exact dcd)) | (apply WK.condB; (· rfl); all_goals intro _) | fail)
        · rename_i hb
          have hs1 : gwu N v' now (w + 1) = gwu N v' now w ++ [w] := by rw [hs, if_pos hb]
          have hne : (gwu N v' now (w + 1)).isEmpty = false := by rw [hs1]; simp
          refine WK.regT (k := 17) rfl ?_
          generalize hB : AHeap.bump _ 1 = HB
          have hBm : HB.m = H.m := by rw [← hB]; rfl
          have hBn : H.next ≤ HB.next := by rw [← hB]; simp only [next_bump]; omega
          clear hB
          have hBg : ∀ k, (HB.bump 17).get k = H.get k := fun k => by
            show HB.m.get k = _
            rw [hBm]
            rfl
          have hcB : ∀ k, H.next ≤ k → (HB.bump 17).get k = none := fun k hk => (hBg k).trans (b4 k hk)
          have hkB : Kp H (HB.bump 17) := ⟨by simp only [next_bump]; omega, fun k _ => hBg k⟩
          have hCr : Row 2 (HB.bump 17) CS cs.length (prsC cs) := Row.kr hC ((b3.kr h).trans hkB.kr)
          repeat' (first | ((first | apply WKT.op); (· first | exact k_mv rfl | exact k_shl16 rfl rfl (by omega) | exact k_or16 rfl rfl hnow (pow10 (by omega)) | exact opA); (· rfl)) | fail)
          refine WKT.callV rfl rfl rfl (h82 _ _ _ _ hCr (by omega)) ?_
          rintro X H2 ⟨hX, hm2, hn2⟩
          have hg2 : ∀ k, H2.get k = H.get k := fun k => (show H2.m.get k = _ by rw [hm2]; exact hBg k)
          have hn2' : HB.next + 17 ≤ H2.next := hn2
          repeat' (first | ((first | apply WKT.op); (· first | exact k_mv rfl | exact opA); (· rfl)) | fail)
          obtain ⟨H3, hH3⟩ : ∃ H3, H2.set (HB.next + 13) (some (.cells [nA v', nA w] none)) = H3 := ⟨_, rfl⟩
          have hg3 : ∀ k, k ≠ HB.next + 13 → H3.get k = H.get k := fun k hk => by rw [← hH3, AHeap.get_set, if_neg hk, hg2]
          have hn3 : H3.next = H2.next := by rw [← hH3]; rfl
          have hN3 : H3.get (HB.next + 13) = some (.cells [nA v', nA w] none) := by rw [← hH3, AHeap.get_set, if_pos rfl]
          have hc3 : Go.Eng.Clean H3 := fun k hk => by rw [hg3 k (by omega), b4 k (by omega)]
          refine WKT.op (v := .sl (HB.next + 13) 0 1 1) (H1 := H3) (by rw [← hH3]; exact k_bs2 rfl) rfl ?_
          have hXn : ∀ k, X.own = some k → k ≠ HB.next + 13 := fun k hk e => by
            obtain ⟨_, ⟨rfl, _⟩ | ⟨i, full, opn, rfl, q, _⟩⟩ := hX
            · cases hk
            · cases hk
              rw [e, hcB _ (by omega)] at q
              cases q
          have hXc : Clp 2 H3 X cs.length (prsC cs) := (hX.frame (H' := H3) (fun k hk => by rw [hg3 k (hXn k hk), hBg]))
          obtain ⟨H4, hH4⟩ : ∃ H4, H3.add (.cells (prsC cs ++ [nA v', nA w]) (some 2)) = H4 := ⟨_, rfl⟩
          have hn4 : H4.next = H3.next + 1 := by rw [← hH4]; rfl
          have hN4 : H4.get H3.next = some (.cells (prsC (cs ++ [(v', w)])) (some 2)) := by rw [← hH4, AHeap.get_add, if_pos rfl, prsC_app]; rfl
          have hg4 : ∀ k, k ≠ HB.next + 13 → k ≠ H3.next → H4.get k = H.get k := fun k h1 h2 => by rw [← hH4, AHeap.get_add, if_neg h2, hg3 k h1]
          have hc4 : Go.Eng.Clean H4 := by rw [← hH4]; exact (clean_add H3 _).1 hc3
          have hk4 : Kp H H4 := ⟨by omega, fun k hk => hg4 k (by omega) (by omega)⟩
          refine WKT.op (v := .sl H3.next 0 (cs.length + 1) openCap) (H1 := H4) (by rw [← hH4]; exact k_appC rfl rfl hXc (by omega) hN3 rfl rfl) rfl ?_
          have hR4 : Row 2 H4 (.sl H3.next 0 (cs.length + 1) openCap) (cs ++ [(v', w)]).length (prsC (cs ++ [(v', w)])) := by
            have := Row.one hN4 (by omega) (m := (cs ++ [(v', w)]).length) (prsC_len _)
            simpa using this
          repeat' (first | ((first | apply WKT.op); (· first | exact k_mv rfl); (· rfl)) | fail)
          have c70 : ∃ u H', cf 70 [.ptr G 0, sA inf, sA (now ||| 2 ^ w), nA (v' + 1), .sl H3.next 0 (cs.length + 1) openCap, .fn 71 [.ptr b8 0, .ptr b5 0, .ptr b10 0]] H4 = some (u, H') ∧ u = .tup [] ∧ AddR H4 H' J ((outs N inf (m - (v' + 1)) (v' + 1) (now ||| 2 ^ w) (cs ++ [(v', w)])).foldl (addF (lookW W inf)) F') ∧ Go.Eng.Clean H' := by
            obtain ⟨u, H', q1, q2, q3⟩ := h70 (v' + 1) (by omega) (by omega) H4 (now ||| 2 ^ w) (cs ++ [(v', w)]) _ F' hc4 ((h.step b3).up hk4) (hgr.up hk4) hR4 (or10 hnow (pow10 (by omega))) hF' (by simp; omega)
            exact ⟨u, H', q1, q2, q3, (hcc _ _ _ _ _ q1).1 hc4⟩
          refine WKT.callV rfl rfl rfl c70 ?_
          rintro _ H5 ⟨rfl, hr5, hc5⟩
          have hnJ : J < H5.next := by have := hr5.nx; omega
          have hfold : (outs N inf (m - (v' + 1)) (v' + 1) (now ||| 2 ^ w) (cs ++ [(v', w)])).foldl (addF (lookW W inf)) F' = ((gwu N v' now (w + 1)).flatMap fun u => outs N inf (m - (v' + 1)) (v' + 1) (now ||| 2 ^ u) (cs ++ [(v', u)])).foldl (addF (lookW W inf)) F := by
            rw [hs1, List.flatMap_append, List.foldl_append, ← b2]
            simp only [List.flatMap_cons, List.flatMap_nil, List.append_nil]
          refine WKT.nil ⟨fun q hq => (by cases hq), ?_, (_, H5), rfl, ?_⟩
          · intro j hj
            have hj' : j = 13 := by simpa using hj
            subst hj'
            refine ⟨_, rfl, rfl, fun i hi => ?_⟩
            have hi' : i = 0 ∨ i = 1 ∨ i = 2 ∨ i = 3 ∨ i = 4 ∨ i = 5 ∨ i = 6 ∨ i = 7 ∨ i = 8 ∨ i = 9 ∨ i = 10 ∨ i = 11 ∨ i = 12 ∨ i = 13 := by omega
            rcases hi' with rfl | rfl | rfl | rfl | rfl | rfl | rfl | rfl | rfl | rfl | rfl | rfl | rfl | rfl <;>
              exact ⟨_, rfl, by first | exact hcB _ (by omega) | exact (hg2 _).trans (b4 _ (by omega))⟩
          · dsimp only
            repeat' (first | (apply WK.reg; (· exact lnn)) | refine WKO.nil ?_ | ((first | apply WKO.op); (· first | exact k_mv rfl | exact opA); (· rfl)) | refine pN ?_ | refine bN ?_ | fail)
            refine ⟨(w + 1, (outs N inf (m - (v' + 1)) (v' + 1) (now ||| 2 ^ w) (cs ++ [(v', w)])).foldl (addF (lookW W inf)) F'), (.cons rfl <| .cons rfl <| .cons rfl <| .cons rfl <| .cons rfl <| .cons rfl <| .cons (by rw [hne]; rfl) <| .cons rfl <| .cons rfl <| .nil _), ⟨hw, hfold, ?_, ?_⟩, ?_⟩ <;> try dsimp only
            · exact ((b3.trans (AddR.pre hk4 hr5))).up rfl (by simp only [next_bump]; omega) hnJ
            · exact clean_eqm hc5 rfl (by simp only [next_bump]; omega)
            · omega
        · rename_i hb
          have hs1 : gwu N v' now (w + 1) = gwu N v' now w := by rw [hs, if_neg (by rw [hb]; decide), List.append_nil]
          refine ⟨(w + 1, F'), (.cons rfl <| .cons rfl <| .cons rfl <| .cons rfl <| .cons rfl <| .cons rfl <| .cons (by rw [hs1]; rfl) <| .cons rfl <| .cons rfl <| .nil _), ⟨hw, ?_, ?_, ?_⟩, ?_⟩ <;> try dsimp only
          · rw [hs1]; exact b2
          · exact b3.up rfl (by simp only [next_bump]; omega) (by omega)
          · exact clean_eqm b4 rfl (by simp only [next_bump]; omega)
          · omega
      · have hwm : w = m := by omega
        subst hwm
        have hgw : gwu N v' now w = gws N v' now := by unfold gwu gws; rw [hNl]
        have c70 : ∀ {H' : AHeap}, H'.m = H.m → H.next ≤ H'.next → ∃ u H'', cf 70 [.ptr G 0, sA inf, sA now, nA (v' + 1), CS, .fn 71 [.ptr b8 0, .ptr b5 0, .ptr b10 0]] H' = some (u, H'') ∧ u = .tup [] ∧ AddR H' H'' J ((outs N inf (w - (v' + 1)) (v' + 1) now cs).foldl (addF (lookW W inf)) F') := fun q1 q2 =>
          h70 (v' + 1) (by omega) (by omega) _ now cs CS F' (clean_eqm b4 q1 q2) ((h.step b3).up (Kp.eqm q1 q2)) (hgr.up (Kp.eqm q1 q2)) (Row.kr hC ((b3.kr h).trans (Kp.eqm q1 q2).kr)) hnow hF' (by omega)
        repeat' (first | refine WK.seq ?_ | refine WK.skip ?_ | refine WK.exit ?_ | (apply WK.reg; (· exact lnn)) | (refine WKO.callV rfl rfl rfl (c70 (by rfl) (by simp only [next_bump]; omega)) ?_; rintro _ _ ⟨rfl, _⟩) | refine WKO.nil ?_ | ((first | apply WKO.op); (· first | exact k_mv rfl | exact opA); (· rfl)) | refine pN ?_ | refine pX ?_ | refine bX ?_ | (apply WK.condF; (· rfl); (· exact dcd)) | (apply WK.condB; (· rfl); all_goals intro _) | fail)
        · rename_i hem H2 hr
          refine ⟨nofun, _, rfl, rfl, ?_⟩
          have he : gws N v' now = [] := by rw [← hgw]; exact List.isEmpty_iff.1 hem
          have hF0 : F' = F := by rw [b2, hgw, he]; rfl
          rw [show w - v' = w - (v' + 1) + 1 by omega, outs, if_pos hvb, if_pos he, ← hF0]
          exact b3.trans (AddR.pre (Kp.eqm (by rfl) (by simp only [next_bump]; omega)) hr)
        · rename_i hem
          refine ⟨nofun, _, rfl, rfl, ?_⟩
          have he : gws N v' now ≠ [] := fun e => by rw [hgw, e] at hem; cases hem
          rw [show w - v' = w - (v' + 1) + 1 by omega, outs, if_pos hvb, if_neg he, ← hgw, ← b2]
          exact b3.up rfl (by simp only [next_bump]; omega) (by omega)
end Go.Proofs.Ytpbighinamljbaa.PA
namespace Go.Eng
section
variable {cf : CF} {fuel : Nat} {l : KL0} {H : AHeap} {Q : XE → KL0 → AHeap → Prop}
theorem WK.cl {c : XCode} (hc : CleanCF cf) (h : WK cf fuel c l H fun e l' H' => CleanTo H H' → Q e l' H') : WK cf fuel c l H Q := by
  unfold WK at h ⊢
  intro tm ht
  have h1 := h tm ht
  unfold W at h1 ⊢
  obtain ⟨e, s', q1, l', q2, q3⟩ := h1
  exact ⟨e, s', q1, l', q2, q3 (xcode_clean hc fuel _ _ _ _ q1)⟩
theorem WK.seqC {a b : XCode} (hc : CleanCF cf) (h : WK cf fuel a l H fun e l' H' => CleanTo H H' → (e = .normal → WK cf fuel b l' H' Q) ∧ (e ≠ .normal → Q e l' H')) : WK cf fuel (.seq a b) l H Q :=
  WK.seq (WK.cl hc h)
end
theorem dropE_mem {e : AV × AV} : ∀ {l : List (AV × AV)}, e ∈ l → ∃ l', dropE e l = some l'
  | x :: l, h => by
    unfold dropE
    split
    · exact ⟨_, rfl⟩
    · rename_i q
      rcases List.mem_cons.1 h with rfl | h
      · exact absurd (by rw [AV.beq_refl, AV.beq_refl]; rfl) q
      · obtain ⟨l', h'⟩ := dropE_mem h
        exact ⟨x :: l', by rw [h']; rfl⟩
theorem permEq_of : ∀ {r l : List (AV × AV)}, r.Perm l → permEq r l = true
  | [], l, h => by
    have := h.symm.eq_nil
    subst this
    rfl
  | e :: r, l, h => by
    obtain ⟨l', h'⟩ := dropE_mem (h.mem_iff.1 (List.mem_cons_self ..))
    have hp := dropE_perm h'
    unfold permEq
    rw [h']
    exact permEq_of ((h.trans hp).cons_inv)
end Go.Eng
namespace Go.Proofs.Ytpbighinamljbaa.PA
open Go Go.Eng Go.Proofs
theorem x69 {cf : CF} {fuel I : Nat} {H0 : AHeap} : ∃ u H', xfunc cf fuel L69 [.map I] H0 = some (u, H') ∧ ∃ p, u = .fn 81 [.ptr p 0] ∧ H0.next ≤ p ∧ p < H'.next ∧ H'.get p = some (.cells [.map I] none) ∧ Kp H0 H' := by
  refine xfunc_ofK rfl (by show 1 ≤ 4; omega) ?_
  have hF0 := hf0 H0
  unfold L69
  dsimp only
  repeat' (first | refine WK.seq ?_ | refine WK.ret ?_ | (apply WK.reg; (· exact lnn)) | (apply WKO.boxO; (· rfl); (· assumption); (· rfl); (· exact nxx); (· exact nxx); (· exact nxx); intro _ _ _) | refine WKO.nil ?_ | ((first | apply WKO.op); (· first | exact k_mv rfl | exact k_mkfn rfl); (· rfl)) | refine pN ?_ | fail)
  rename_i H1 hF1 hn1
  refine ⟨nofun, _, rfl, _, rfl, Nat.le_refl _, ?_, hF1.obj _ (.head _), hF1.kp.up rfl (by simp only [next_bump]; omega)⟩
  have h1 := hF1.lt _ (.head _)
  have h2 := hF1.le
  simp only [next_bump] at *
  omega
theorem g_68 {k p I : Nat} {H : AHeap} {W : FW} {opn : Option Nat} {es : List (AV × AV)} (hp : H.get p = some (.cells [.map I] opn)) (hI : H.get I = some (.map es)) (hE : EntF H es W) (hW : ∀ q ∈ W, q.1 < 1024) (h0 : W ≠ []) (hl : W.length ≤ 1024) :
    ∃ u H', cfG k 68 [.fn 81 [.ptr p 0]] H = some (u, H') ∧ ∃ (i : Nat) (ks : List Nat), u = .sl i 0 ks.length openCap ∧ ks.length ≤ 1024 ∧ (∀ a, a ∈ ks ↔ a ∈ W.map (·.1)) ∧ H.next ≤ i ∧ i < H'.next ∧ H'.get i = some (.cells (ks.map sA) (some 1)) ∧ Kp H H' := by
  have hkeys := hE.keys
  have hlen := hE.len
  have hall : es.all (fun e => keyU e.1) = true := by
    rw [List.all_eq_true]
    intro e he
    have : e.1 ∈ es.map (·.1) := List.mem_map_of_mem he
    rw [hkeys] at this
    obtain ⟨q, hq, hqe⟩ := List.mem_map.1 this
    rw [← hqe]
    have := hW q hq
    show (decide (0 ≤ (q.1 : Int)) && decide ((q.1 : Int) < 65536)) = true
    simp
    omega
  have hint : (es.map fun e => keyInt e.1) = W.map fun q => (q.1 : Int) := by
    have : (es.map fun e => keyInt e.1) = (es.map (·.1)).map keyInt := by rw [List.map_map]; rfl
    rw [this, hkeys, List.map_map]
    rfl
  have hne : es.isEmpty = false := by
    cases es with
    | nil => exact absurd (List.eq_nil_of_length_eq_zero (by rw [← hlen]; rfl)) h0
    | cons e es => rfl
  have hK : K68 68 [.fn 81 [.ptr p 0]] H = some (.sl (H.next + 4) 0 es.length openCap, srtH H (.fn 81 [.ptr p 0]) (es.map fun e => keyInt e.1)) := by
    unfold K68
    simp only [if_true, hp, List.getElem?_cons_zero, hI]
    rw [if_pos]
    rw [hall, hne]
    simp only [Bool.true_and, Bool.not_false, Bool.and_true, Nat.ble_eq]
    omega
  have hperm := sortL_perm (W.map fun q => (q.1 : Int))
  obtain ⟨ks, hks⟩ : ∃ ks : List Nat, sortL (W.map fun q => (q.1 : Int)) = ks.map (fun a : Nat => (a : Int)) := by
    refine ⟨(sortL (W.map fun q => (q.1 : Int))).map Int.toNat, ?_⟩
    rw [List.map_map]
    conv => lhs; rw [← List.map_id (sortL _)]
    refine List.map_congr_left fun a ha => ?_
    obtain ⟨q, _, rfl⟩ := List.mem_map.1 (hperm.mem_iff.1 ha)
    rfl
  have hlk : ks.length = es.length := by
    have := hperm.length_eq
    rw [hks, List.length_map, List.length_map] at this
    omega
  refine ⟨_, _, cfG_KG hK, H.next + 4, ks, by rw [hlk], by omega, fun a => ?_, by omega, ?_, ?_, ?_⟩
  · have h1 : a ∈ ks ↔ (a : Int) ∈ ks.map (fun a : Nat => (a : Int)) := ⟨fun h => List.mem_map.2 ⟨a, h, rfl⟩, fun h => by
      obtain ⟨b, hb, e⟩ := List.mem_map.1 h
      rwa [← Int.ofNat.inj e]⟩
    have h2 : (a : Int) ∈ W.map (fun q => (q.1 : Int)) ↔ a ∈ W.map (·.1) := ⟨fun h => by
      obtain ⟨q, hq, e⟩ := List.mem_map.1 h
      exact List.mem_map.2 ⟨q, hq, Int.ofNat.inj e⟩, fun h => by
      obtain ⟨q, hq, e⟩ := List.mem_map.1 h
      exact List.mem_map.2 ⟨q, hq, by rw [e]⟩⟩
    rw [h1, ← hks, hperm.mem_iff, h2]
  · have := srtH_next (H := H) (x := .fn 81 [.ptr p 0]) (ks := es.map fun e => keyInt e.1)
    omega
  · rw [srtH_get, if_pos rfl, hint, hks, List.map_map]
    rfl
  · refine ⟨by have := srtH_next (H := H) (x := .fn 81 [.ptr p 0]) (ks := es.map fun e => keyInt e.1); omega, fun j hj => ?_⟩
    rw [srtH_get, if_neg (by omega), if_pos hj]
theorem EntF.perm {H : AHeap} {r es : List (AV × AV)} (hp : r.Perm es) : ∀ {F : FW}, EntF H r F → ∃ F', F'.Perm F ∧ EntF H es F' := by
  induction hp with
  | nil => intro F h; exact ⟨F, .refl _, h⟩
  | cons x _ ih =>
    intro F h
    cases F with
    | nil => exact h.elim
    | cons p F =>
      obtain ⟨F', q1, q2⟩ := ih h.2.2
      exact ⟨p :: F', q1.cons p, h.1, h.2.1, q2⟩
  | swap x y l =>
    intro F h
    match F, h with
    | p :: q :: F, h => exact ⟨q :: p :: F, .swap .., h.2.2.1, h.2.2.2.1, h.1, h.2.1, h.2.2.2.2⟩
    | [p], h => exact h.2.2.elim
  | trans _ _ ih1 ih2 =>
    intro F h
    obtain ⟨F1, q1, q2⟩ := ih1 h
    obtain ⟨F2, q3, q4⟩ := ih2 q2
    exact ⟨F2, q3.trans q1, q4⟩
def keyN (k : AV) : Nat := (keyInt k).toNat
def inE (es : List (AV × AV)) (e : AV × AV) : Bool := es.any fun q => decide (keyN e.1 ≠ keyN q.1) && decide (sdiff (keyN e.1) (keyN q.1) = 0)
theorem inE_F {H : AHeap} : ∀ {es : List (AV × AV)} {F : FW} (e : AV × AV) (a : Nat), EntF H es F → e.1 = sA a → inE es e = inO F a
  | [], [], e, a, _, _ => rfl
  | x :: es, p :: F, e, a, h, he => by
    have ih := inE_F e a h.2.2 he
    unfold inE inO at ih ⊢
    rw [List.any_cons, List.any_cons, ih, he, h.1]
    congr 1
    show (decide (a ≠ p.1) && decide (sdiff a p.1 = 0)) = _
    rw [Bool.eq_iff_iff]
    simp
  | [], _ :: _, _, _, h, _ => h.elim
  | _ :: _, [], _, _, h, _ => h.elim
theorem EntF.filter {H : AHeap} {es : List (AV × AV)} {F : FW} (hE : EntF H es F) : ∀ {r : List (AV × AV)} {G : FW}, EntF H r G → EntF H (r.filter fun e => !inE es e) (G.filter fun p => !inO F p.1)
  | [], [], _ => trivial
  | x :: r, p :: G, h => by
    have := EntF.filter hE h.2.2
    rw [List.filter_cons, List.filter_cons, inE_F x p.1 hE h.1]
    split
    · exact ⟨h.1, h.2.1, this⟩
    · exact this
  | [], _ :: _, h => h.elim
  | _ :: _, [], h => h.elim
theorem EntF.mem {H : AHeap} : ∀ {es : List (AV × AV)} {F : FW} {e : AV × AV}, EntF H es F → e ∈ es → ∃ p ∈ F, e.1 = sA p.1 ∧ RRw H e.2 p.2
  | x :: es, p :: F, e, h, he => by
    rcases List.mem_cons.1 he with rfl | he
    · exact ⟨p, by simp, h.1, h.2.1⟩
    · obtain ⟨q, q1, q2⟩ := EntF.mem h.2.2 he
      exact ⟨q, by simp [q1], q2⟩
  | [], _ :: _, _, h, _ => h.elim
  | _ :: _, [], _, h, _ => h.elim
theorem findE_none {K : KT} {a : Nat} (hK : K = K16) : ∀ (es : List (AV × AV)) (i : Nat), (∀ e ∈ es, ∃ b, e.1 = sA b ∧ b < 1024 ∧ b ≠ a) → findE K [Lit.int .u16 (a : Int)] es i = some none
  | [], i, _ => rfl
  | (k, v) :: es, i, h => by
    obtain ⟨b, h1, h2, h3⟩ := h (k, v) (by simp)
    dsimp only at h1
    subst h1 hK
    have ih := findE_none (a := a) rfl es (i + 1) (fun e he => h e (by simp [he]))
    simp only [findE, key16 h2, ih, lits16]
    rw [if_neg (by simp; omega)]
end Go.Proofs.Ytpbighinamljbaa.PA
namespace Go.Proofs.Ytpbighinamljbaa.PA
open Go Go.Eng Go.Proofs
theorem _root_.Go.Eng.HF.re {H0 H : AHeap} {mod : List Nat} {T : Nat} {fs gs : List (Nat × AObj)} (h : HF H0 mod T fs H) (hs : ∀ p ∈ gs, p ∈ fs) (nd : (gs.map (·.1)).Nodup) : HF H0 mod T gs H :=
  ⟨fun p hp => h.obj p (hs p hp), fun p hp => h.lt p (hs p hp), nd, h.base, h.le, h.fr⟩
theorem _root_.Go.Eng.HF.top {H0 H : AHeap} {mod : List Nat} {T : Nat} {fs : List (Nat × AObj)} (h : HF H0 mod T fs H) : HF H0 mod H.next fs H :=
  ⟨h.obj, fun p hp => Nat.lt_of_lt_of_le (h.lt p hp) h.le, h.nd, Nat.le_trans h.base h.le, Nat.le_refl _, h.fr⟩
theorem _root_.Go.Eng.HF.addK {H0 H H' : AHeap} {mod : List Nat} {T : Nat} {fs : List (Nat × AObj)} (h : HF H0 mod T fs H) (hk : Kp H H') {i : Nat} {o : AObj} (hi : H.next ≤ i) (hl : i < H'.next) (hg : H'.get i = some o) : HF H0 mod H'.next ((i, o) :: fs) H' :=
  ((h.callK hk).top).add hg hl (fun w => by
    obtain ⟨p, hp, e⟩ := List.mem_map.1 w
    have := h.lt p hp
    have := h.le
    omega)
theorem _root_.Go.Eng.HF.rebase {H H1 H' : AHeap} {mod mod1 : List Nat} {T T1 : Nat} {fs fs1 : List (Nat × AObj)} (h : HF H1 mod1 T fs H') (h0 : HF H mod T1 fs1 H1) (hm : ∀ j ∈ mod1, H.next ≤ j ∨ j ∈ mod) : HF H mod T fs H' :=
  ⟨h.obj, h.lt, h.nd, Nat.le_trans h0.base (Nat.le_trans h0.le h.base), h.le, fun k h1 h2 => (h.fr k (Nat.lt_of_lt_of_le h1 (Nat.le_trans h0.base h0.le)) (fun w => by
    rcases hm k w with w | w
    · omega
    · exact h2 w)).trans (h0.fr k h1 h2)⟩
theorem _root_.Go.Eng.HF.here {H H0 : AHeap} {mod : List Nat} {T : Nat} {fs : List (Nat × AObj)} (h : HF H0 mod T fs H) (mod' : List Nat) : HF H mod' H.next fs H :=
  ⟨h.obj, fun p hp => Nat.lt_of_lt_of_le (h.lt p hp) h.le, h.nd, Nat.le_refl _, Nat.le_refl _, fun _ _ _ => rfl⟩
theorem _root_.Go.Eng.HF.rows {H H' : AHeap} {J T : Nat} {fs : List (Nat × AObj)} {o : AObj} (h : HF H [J] T fs H') (hJ : H.get J = some o) (ho : ∀ f z, o ≠ .cells f (some z)) : Kr H H' :=
  Kr.but (Nat.le_trans h.base h.le) hJ ho fun k hk hne => h.fr k hk (by simpa using hne)
structure SchI (H0 : AHeap) (m : Nat) (N : List Nat) (s b5 k : Nat) (W : FW) (H : AHeap) : Prop where
  w : WInv N s k W
  lo : ∀ j, j < k → ¬ Rcs N j (2 ^ s) (2 ^ m - 1)
  hf : ∃ I T es, H0.next ≤ I ∧ HF H0 [] T [(b5, .cells [.map I] none), (I, .map es)] H ∧ EntF H es W
  cl : Go.Eng.Clean H
def SchR (H0 : AHeap) (N : List Nat) (s : Nat) (u : AV) (H' : AHeap) : Prop :=
  ∃ k ls, IsT N s k ∧ ls.length = k ∧ RRw H' u ls ∧ vR N ls (2 ^ s) = some (2 ^ N.length - 1) ∧ (∀ l ∈ ls, l.length ≤ N.length ∧ ∀ c ∈ l, c.1 < N.length ∧ c.2 < N.length) ∧ Kp H0 H'
def body47 : XCode := match L47.code with
  | .seq _ (.seq _ (.block _ (.loop c))) => c
  | _ => .skip
set_option maxHeartbeats 2000000 in
theorem body47_ok {kk fuel G M m s b5 k : Nat} {N : List Nat} {W : FW} {H0 H : AHeap} (hNl : N.length = m) (hm : m ≤ 10) (hNt : ∀ c ∈ N, c < 1024) (hN2 : ∀ c ∈ N, c < 2 ^ N.length) (hfu : 1030 < fuel) (hs : s < m)
    (hg : GrH H0 G M m N) (hI : SchI H0 m N s b5 k W H) (hb5 : H0.next ≤ b5) {T : Nat} (hT : IsT N s T) (hT10 : T ≤ 10)
    (h70 : ∀ b8 b10 J I inf W, inf < 1024 → (∀ p ∈ W, p.1 < 1024) → (lookW W inf).length < 1000 → K70 (cfG kk) N m G M b8 b5 b10 J I inf W 0)
    (h69 : ∀ I H, ∃ u H', cfG kk 69 [.map I] H = some (u, H') ∧ ∃ p, u = .fn 81 [.ptr p 0] ∧ H.next ≤ p ∧ p < H'.next ∧ H'.get p = some (.cells [.map I] none) ∧ Kp H H') :
    WK (cfG kk) fuel body47 [(0, .ptr G 0), (1, nA s), (4, .nils), (5, .ptr b5 0)] H fun e l' H' =>
      (e = .normal → ∃ W', Eng.Sub l' [(0, .ptr G 0), (1, nA s), (4, .nils), (5, .ptr b5 0)] ∧ SchI H0 m N s b5 (k + 1) W' H' ∧ k < T) ∧
      (e ≠ .normal → e = .ret ∧ ∃ u, Eng.look l' 4 = some u ∧ SchR H0 N s u H') := by
  obtain ⟨hw, hlo, ⟨I, T0, es, hIn, hF, hE⟩, hcl⟩ := hI
  have hcc := cfG_clean kk
  have hpw := pow_le10 hm
  have hW1 : ∀ p ∈ W, p.1 < 1024 := fun p hp => Nat.lt_of_lt_of_le (hw.ok p hp).1 (by rw [hNl]; exact hpw)
  have hfull : 2 ^ m - 1 < 1024 := by have := Nat.one_le_two_pow (n := m); omega
  have hTl := hF.le
  have hTb := hF.base
  have g5 : H.get b5 = some (.cells [.map I] none) := hF.obj _ (.head _)
  have gI : H.get I = some (.map es) := hF.obj _ (.tail _ (.head _))
  have gG : H.get G = some (.cells [nA m, .sl M 0 m m] none) := (hF.fr G hg.lg (by simp)).trans hg.g
  have l5 : b5 < H.next := Nat.lt_of_lt_of_le (hF.lt _ (.head _)) hTl
  have lI : I < H.next := Nat.lt_of_lt_of_le (hF.lt _ (.tail _ (.head _))) hTl
  have lG := hg.lg
  have ne5 : b5 ≠ I := fun e => by rw [e, gI] at g5; cases g5
  have hgH : GrH H G M m N := hg.up hF.kp
  have hFb : HF H [b5] H.next [(b5, .cells [.map I] none), (I, .map es), (G, .cells [nA m, .sl M 0 m m] none)] H := {
    obj := by simp only [List.mem_cons, List.not_mem_nil, or_false, forall_eq_or_imp, forall_eq]; exact ⟨g5, gI, gG⟩
    lt := by simp only [List.mem_cons, List.not_mem_nil, or_false, forall_eq_or_imp, forall_eq]; exact ⟨l5, lI, by omega⟩
    nd := by simp only [List.map_cons, List.map_nil, List.nodup_cons, List.mem_cons, List.not_mem_nil, or_false, not_or, not_false_eq_true, List.nodup_nil, and_true]; exact ⟨⟨ne5, by omega⟩, by omega⟩
    base := Nat.le_refl _
    le := Nat.le_refl _
    fr := fun _ _ _ => rfl }
  have hrows : ∀ {H' : AHeap} {T' : Nat} {fs : List (Nat × AObj)}, HF H [b5] T' fs H' → Kr H H' := fun h => h.rows g5 (fun _ _ => nofun)
  refine WK.cl hcc ?_
  unfold body47 L47
  dsimp only
  rcases find16 (a := 2 ^ m - 1) 0 hE hW1 with ⟨f1, f2, _⟩ | ⟨f1, j, v, f2, f3⟩
  · have hnot : ¬ Rcs N k (2 ^ s) (2 ^ m - 1) := fun q => by
      rw [← hNl, ← winv_full hw] at q
      rw [hNl, ← hasF_iff, f1] at q
      cases q
    have hkT : k < T := by
      rcases Nat.lt_or_ge k T with q | q
      · exact q
      · exact absurd ((hNl ▸ hT.1).le q) hnot
    repeat' (first | refine WK.seqC (by assumption) ?_ | intro (_ : CleanTo _ _) | refine WK.skip ?_ | refine WK.block ?_ | (apply WK.reg; (· exact lnn)) | (apply WK.regC; (· rfl); (· exact lnn); (· decide)) | (apply WKO.alO; (· assumption); (· rfl); (· exact nxx); (· exact nxx); (· exact nxx); intro _ _ _) | (apply WKO.mapO; (· assumption); (· rfl); (· exact nxx); (· exact nxx); (· exact nxx); intro _ _ _) | (apply WKO.stO0; (· rfl); (· rfl); (· assumption); (· rfl); (· exact nxx); (· first | exact .inr nxx); (· rfl); (· rfl); (· first | decide); intro _ _ _) | refine WKC.nil ?_ | refine WKO.nil ?_ | ((first | apply WKC.op | apply WKO.op); (· first | exact k_mv rfl | exact k_shl16 rfl rfl (by omega) | exact k_sub16 rfl rfl Nat.one_le_two_pow (by omega) | (apply k_lookX; (· rfl); (· rfl); (· exact gI); (· exact key16 hfull); (· exact f2); (· rfl)) | (apply k_ldO; (· rfl); (· assumption); (· rfl); (· exact mmb); (· rfl)) | exact k_faddr rfl | exact k_nilc rfl | exact opA); (· rfl)) | refine pN ?_ | (apply WK.condF; (· rfl); (· exact dcd)) | fail)
    rename_i c1 c2 c3 Ha _ na Hb _ nb H1 hF1 n1 cl1
    have hC1 : Go.Eng.Clean H1 := cl1.1 (c3.1 hcl)
    have hn1 : H1.next = H.next + 17 := by simp only [next_bump] at na; omega
    have hb8 : ((H.bump 13).bump 1).next = H.next + 14 := by simp only [next_bump]
    rw [hb8] at hF1 ⊢
    clear hb8 na nb n1 c1 c2 c3 cl1 hFb
    rename_i hx1 hx2
    clear hx1 hx2 Ha Hb
    generalize hJ : H.next + 14 = J at hF1 ⊢
    have hT1 := hF1.le
    refine WKO.callV rfl rfl rfl (h69 I (H1.bump 5)) ?_
    rintro _ H2 ⟨p, rfl, p1, p2, p3, hk2⟩
    have hF2 := (hF1.up (H' := H1.bump 5) rfl (by simp only [next_bump]; omega)).addK hk2 p1 p2 p3
    have hW0 : W ≠ [] := fun e => by
      obtain ⟨q, hq, _⟩ := hw.cp _ ((show Rcs N 0 (2 ^ s) (2 ^ s) from rfl).le (Nat.zero_le k))
      rw [e] at hq
      cases hq
    refine WKO.callV rfl rfl rfl (g_68 (hF2.obj _ (.head _)) (hF2.obj (I, .map es) (by simp)) (hE.kr (hrows hF2)) hW1 hW0 (winv_len (by omega) hw)) ?_
    rintro _ H3 ⟨S, ks, rfl, s0, s1, s2, s3, s4, hk3⟩
    have hF3 := hF2.addK hk3 s2 s3 s4
    have hS : H1.next ≤ S := by have := hk2.1; simp only [next_bump] at this; omega
    have hF4 := hF3.re (gs := [(J, .map []), (S, .cells (ks.map sA) (some 1)), (J + 1, .cells [.map J] none), (b5, .cells [.map I] none), (I, .map es), (G, .cells [nA m, .sl M 0 m m] none)]) (by
      intro q hq
      simp only [List.mem_cons, List.not_mem_nil, or_false] at hq ⊢
      rcases hq with rfl | rfl | rfl | rfl | rfl | rfl
      · exact .inr (.inr (.inr (.inl rfl)))
      · exact .inl rfl
      · exact .inr (.inr (.inl rfl))
      · exact .inr (.inr (.inr (.inr (.inl rfl))))
      · exact .inr (.inr (.inr (.inr (.inr (.inl rfl)))))
      · exact .inr (.inr (.inr (.inr (.inr (.inr rfl)))))) (by
      simp only [List.map_cons, List.map_nil, List.nodup_cons, List.mem_cons, List.not_mem_nil, or_false, not_or, not_false_eq_true, List.nodup_nil, and_true]
      refine ⟨⟨?_, ?_, ?_, ?_, ?_⟩, ⟨?_, ?_, ?_, ?_⟩, ⟨?_, ?_, ?_⟩, ⟨?_, ?_⟩, ?_⟩ <;> omega)
    clear hF2 hF3 p3
    have hT3 := hF4.le
    repeat' (first | intro (_ : CleanTo _ _) | refine WK.block ?_ | refine WKO.nil ?_ | ((first | apply WKO.op); (· first | exact k_mv rfl | exact opA); (· rfl)) | refine pN ?_ | fail)
    rename_i cl3
    have hC3 : Go.Eng.Clean H3 := cl3.1 hC1
    clear cl3
    refine WK.loop (α := Nat × FW) (fun q => [(0, .ptr G 0), (1, nA s), (4, .nils), (5, .ptr b5 0), (8, .ptr (J + 1) 0), (35, .sl S 0 ks.length openCap), (36, nA ks.length), (37, nA q.1)])
      (fun q H' => q.1 ≤ ks.length ∧ q.2 = (ks.take q.1).foldl (fun F a => (outs N a N.length 0 a []).foldl (addF (lookW W a)) F) [] ∧ (∃ T' esJ, HF H [b5] T' [(J, .map esJ), (S, .cells (ks.map sA) (some 1)), (J + 1, .cells [.map J] none), (b5, .cells [.map I] none), (I, .map es), (G, .cells [nA m, .sl M 0 m m] none)] H' ∧ EntF H' esJ q.2) ∧ Go.Eng.Clean H')
      (fun q => ks.length - q.1) (0, []) (.cons rfl <| .cons rfl <| .cons rfl <| .cons rfl <| .cons rfl <| .cons rfl <| .cons rfl <| .cons rfl <| .nil _) ⟨Nat.zero_le _, rfl, ⟨_, [], hF4.up rfl (by first | exact Nat.le_refl _ | (simp only [next_bump]; omega)), trivial⟩, clean_eqm hC3 rfl (by first | exact Nat.le_refl _ | (simp only [next_bump]; omega))⟩ (by dsimp only; omega) ?_
    clear hF4 hC3 hT3
    rintro ⟨i, F'⟩ H4 ⟨a1, a2, ⟨T4, esJ, hF4, hEJ⟩, hC4⟩
    dsimp only at a1 a2 hF4 hEJ ⊢
    have hT4 := hF4.le
    have hB4 := hF4.base
    by_cases hi : i < ks.length
    · have gJ4 : H4.get J = some (.map esJ) := hF4.obj _ (.head _)
      have lJ4 : J < H4.next := Nat.lt_of_lt_of_le (hF4.lt _ (.head _)) hT4
      have hR := hF4.here [J]
      refine WK.cl hcc ?_
      repeat' (first | refine WK.seqC (by assumption) ?_ | intro (_ : CleanTo _ _) | refine WK.skip ?_ | refine WK.block ?_ | (apply WK.reg; (· exact lnn)) | (apply WKO.alO; (· assumption); (· rfl); (· exact nxx); (· exact nxx); (· exact nxx); intro _ _ _) | (apply WKO.stO0; (· rfl); (· rfl); (· assumption); (· rfl); (· exact nxx); (· first | exact .inr nxx); (· rfl); (· rfl); (· first | decide); intro _ _ _) | refine WKO.nil ?_ | ((first | apply WKO.op); (· first | exact k_mv rfl | exact k_ia1s rfl rfl (by omega) | (apply k_ldO; (· rfl); (· assumption); (· rfl); (· exact mmb); (· exact map_at (by omega))) | exact k_mkfn rfl | (apply k_ldO; (· rfl); (· assumption); (· rfl); (· exact mmb); (· rfl)) | exact opA); (· rfl)) | refine pN ?_ | (apply WK.condT; (· rfl); (· exact dcd)) | fail)
      rename_i c1 c2 Ha _ na H5 hF5 n5 cl5
      have hC5 : Go.Eng.Clean H5 := cl5.1 (c2.1 (c1.1 hC4))
      have hkr := hF5.rows gJ4 (fun _ _ => nofun)
      generalize (H4.bump 1).next + 1 + 1 = b10 at hF5 ⊢
      have hT5 := hF5.le
      have hB5 := hF5.base
      have hF6 := hF5.up (H' := H5.bump 5) rfl (by simp only [next_bump]; omega)
      have hkr6 : Kr H4 (H5.bump 5) := hkr.trans (Kp.bump 5).kr
      have hT6 := hF6.le
      have hmem : ks.getD i 0 ∈ ks := by
        rw [List.getD_eq_getElem?_getD, List.getElem?_eq_getElem hi]
        exact List.getElem_mem _
      obtain ⟨pw, hpw1, hpw2⟩ := List.mem_map.1 ((s1 _).1 hmem)
      have inf10 : ks.getD i 0 < 1024 := by rw [← hpw2]; exact hW1 pw hpw1
      have hlk : (lookW W (ks.getD i 0)).length < 1000 := by
        rw [lookW_mem hw.nd (l := pw.2) (by rw [← hpw2]; exact hpw1), (hw.ok pw hpw1).2.1]
        omega
      have hF1024 : ∀ q ∈ F', q.1 < 1024 := fun q hq => by
        rw [a2] at hq
        rcases nextG_mem _ _ q hq with h | ⟨c, hc, r, hr, rfl⟩
        · cases h
        · obtain ⟨pc, hpc, rfl⟩ := List.mem_map.1 ((s1 _).1 (List.mem_of_mem_take hc))
          exact outs_lt (by omega) _ _ _ _ (hW1 pc hpc) r hr
      have hA : AddC (H5.bump 5) (J + 1) b5 b10 J I (ks.getD i 0) F' W := {
        g8 := hF6.obj (J + 1, _) (by simp)
        g5 := hF6.obj (b5, _) (by simp)
        g10 := hF6.obj _ (.head _)
        l8 := Nat.lt_of_lt_of_le (hF6.lt (J + 1, .cells [.map J] none) (by simp)) hT6
        l5 := Nat.lt_of_lt_of_le (hF6.lt (b5, .cells [.map I] none) (by simp)) hT6
        l10 := Nat.lt_of_lt_of_le (hF6.lt _ (.head _)) hT6
        lJ := Nat.lt_of_lt_of_le (hF6.lt (J, .map esJ) (by simp)) hT6
        lI := Nat.lt_of_lt_of_le (hF6.lt (I, .map es) (by simp)) hT6
        eJ := ⟨esJ, hF6.obj (J, _) (by simp), hEJ.kr hkr6⟩
        eI := ⟨es, hF6.obj (I, _) (by simp), hE.kr ((hrows hF4).trans hkr6)⟩
        ne := by omega }
      have hgr : GrH (H5.bump 5) G M m N := ⟨hF6.obj (G, _) (by simp), (hF6.fr M (by have := hg.ls; omega) (by have := hg.ls; simp only [List.mem_singleton]; omega)).trans ((hF4.fr M (by have := hg.ls; omega) (by have := hg.ls; simp only [List.mem_singleton]; omega)).trans hgH.s), by omega, by have := hg.ls; omega⟩
      have hC6 : Go.Eng.Clean (H5.bump 5) := clean_eqm hC5 rfl (by simp only [next_bump]; omega)
      have c70 := h70 (J + 1) b10 J I (ks.getD i 0) W inf10 hW1 hlk (H5.bump 5) (ks.getD i 0) [] .nils F' hC6 hA hgr (Row.nil 2 _) inf10 hF1024 (Nat.le_refl _)
      refine WKO.callV rfl rfl rfl c70 ?_
      rintro _ H7 ⟨rfl, hr⟩
      repeat' (first | intro (_ : CleanTo _ _) | (apply WK.reg; (· exact lnn)) | refine WKO.nil ?_ | ((first | apply WKO.op); (· first | exact k_mv rfl | exact opA); (· rfl)) | refine pN ?_ | refine bN ?_ | fail)
      rename_i cl7 cl8
      obtain ⟨es', e1, e2⟩ := hr.e
      have hn7 := hr.nx
      have hF7 := ((((hF6.sub (gs := [(S, .cells (ks.map sA) (some 1)), (J + 1, .cells [.map J] none), (b5, .cells [.map I] none), (I, .map es), (G, .cells [nA m, .sl M 0 m m] none)]) (.cons _ (.cons _ (.refl _))) (Nat.le_refl _) hT6).call (H' := H7) (mod' := [J]) (fun k hk hm => hr.fr k hk (by simpa using hm)) hn7 (fun k hk => .inl hk) (by
        simp only [List.mem_cons, List.not_mem_nil, or_false, forall_eq_or_imp, forall_eq, List.mem_singleton]
        refine ⟨?_, ?_, ?_, ?_, ?_⟩ <;> omega)).top).add e1 (by omega) (by
        simp only [List.map_cons, List.map_nil, List.mem_cons, List.not_mem_nil, or_false, not_or]
        refine ⟨?_, ?_, ?_, ?_, ?_⟩ <;> omega)).rebase hF4 (fun j hj => by
        have : j = J := by simpa using hj
        subst this
        exact .inl (by omega))
      refine ⟨(i + 1, _), (.cons rfl <| .cons rfl <| .cons rfl <| .cons rfl <| .cons rfl <| .cons rfl <| .cons rfl <| .cons rfl <| .nil _), ⟨hi, ?_, ⟨_, es', hF7.up rfl (by simp only [next_bump]; omega), EntF.kr (Kp.kr (Kp.bump 2)) e2⟩, cl8.1 hC4⟩, by dsimp only; omega⟩
      have htk : ks.take (i + 1) = ks.take i ++ [ks.getD i 0] := by
        rw [List.take_add_one, List.getD_eq_getElem?_getD, List.getElem?_eq_getElem hi]
        rfl
      dsimp only
      rw [htk, List.foldl_append, ← a2, hNl]
      rfl
    · have hF5 := (hF4.re (gs := [(b5, .cells [.map I] none), (J, .map esJ), (J + 1, .cells [.map J] none)]) (by
        intro q hq
        simp only [List.mem_cons, List.not_mem_nil, or_false] at hq ⊢
        rcases hq with rfl | rfl | rfl <;> simp) (by simp; omega)).here [b5]
      have gJ4 : H4.get J = some (.map esJ) := hF4.obj _ (.head _)
      have g54 : H4.get b5 = some (.cells [.map I] none) := hF4.obj (b5, _) (by simp)
      have lJ4 : J < H4.next := Nat.lt_of_lt_of_le (hF4.lt _ (.head _)) hT4
      have hjn : H.next ≤ J := by omega
      have heq : F' = nextF N W ks := by rw [a2, List.take_of_length_le (by omega)]; rfl
      have hFk : ∀ q ∈ F', q.1 < 1024 := fun q hq => by
        rw [heq] at hq
        exact Nat.lt_of_lt_of_le (next_ok hN2 hw s1 hq).1 (by rw [hNl]; exact hpw)
      have hFn : (F'.map (·.1)).Nodup := by rw [heq]; exact nextG_nd ks [] (by simp)
      repeat' (first | refine WK.seqC (by assumption) ?_ | intro (_ : CleanTo _ _) | refine WK.exit ?_ | (apply WK.reg; (· exact lnn)) | (apply WKO.mapO; (· assumption); (· rfl); (· exact nxx); (· exact nxx); (· exact nxx); intro _ _ _) | (apply WKO.stO1; (· rfl); (· rfl); (· assumption); (· rfl); (· exact nxx); (· first | exact .inl (by simp)); (· rfl); (· rfl); (· first | (simp; done)); intro _ _ _) | refine WKO.nil ?_ | ((first | apply WKO.op); (· first | exact opA); (· rfl)) | refine pN ?_ | refine pX ?_ | refine bX ?_ | (apply WK.condF; (· rfl); (· exact dcd)) | fail)
      rename_i c1 c2 c3 Ha _ na H8 hF8 n8 cl8
      generalize hI2 : (H4.bump 1).next = I2 at hF8 ⊢
      have hn8 : H4.next + 3 ≤ H8.next := by simp only [next_bump] at na; omega
      have hI2n : I2 = H4.next + 1 := by rw [← hI2]; rfl
      have gI8 : H8.get I2 = some (.map []) := hF8.obj _ (.head _)
      have g58 : H8.get b5 = some (.cells [.map I2] none) := hF8.obj _ (.tail _ (.head _))
      have gJ8 : H8.get J = some (.map esJ) := hF8.obj (J, _) (by simp)
      have g88 : H8.get (J + 1) = some (.cells [.map J] none) := hF8.obj (J + 1, _) (by simp)
      have hE8 : EntF H8 esJ F' := hEJ.kr (hF8.rows g54 (fun _ _ => nofun))
      have fr8 : ∀ j, j < H4.next → j ≠ b5 → H8.get j = H4.get j := fun j h1 h2 => hF8.fr j h1 (by simpa using h2)
      have l8J : J + 1 < H4.next := Nat.lt_of_lt_of_le (hF4.lt (J + 1, .cells [.map J] none) (by simp)) hT4
      clear hF8 na n8 hI2 c1 c2 c3 cl8
      rename_i hx1 hx2
      clear hx1 hx2 Ha
      refine WK.mrange (k := 2) (k' := 5) rfl rfl ?_
      repeat' (first | refine WKO.nil ?_ | ((first | apply WKO.op); (· first | (apply k_ldX; (· rfl); (· exact g88); (· rfl))); (· rfl)) | fail)
      refine ⟨J, esJ, fun _ => [(49, .ptr (H8.bump 2).next 0), (0, .ptr G 0), (1, nA s), (4, .nils), (5, .ptr b5 0), (8, .ptr (J + 1) 0)],
        fun done H2 => (∀ j, H2.get j = if j = J then some (.lmap esJ (H8.bump 2).next) else if j = I2 then some (.map (done.filter fun e => !inE esJ e)) else H8.get j) ∧ H8.next ≤ H2.next,
        [(0, .ptr G 0), (1, nA s), (4, .nils), (5, .ptr b5 0)], rfl, gJ8, (.cons rfl <| .cons rfl <| .cons rfl <| .cons rfl <| .cons rfl <| .cons rfl <| .nil _), ⟨fun j => ?_, ?_⟩, fun done H2 h2 => by rw [h2.1, if_pos rfl], fun _ => rfl, fun _ => rfl, fun done e todo hp H2 h2 => ?_, fun r r' H2 H3 hr hr' h2 h3 j => ?_, fun _ _ => (.cons rfl <| .cons rfl <| .cons rfl <| .cons rfl <| .nil _), fun r H2 H3 hr h2 hg3 hn3 => ?_⟩
      · show ((H8.m.set J _).get j) = _
        rw [Tr.get_set]
        split
        · rfl
        · split
          · rename_i e; rw [e]; exact gI8
          · rfl
      · show H8.next ≤ H8.next + 2 + 1
        omega
      · obtain ⟨pe, hpe, he1, _⟩ := EntF.mem hE8 (hp.mem_iff.1 (by simp : e ∈ done ++ e :: todo))
        have ha := hFk pe hpe
        obtain ⟨ek, ev⟩ := e
        dsimp only at he1
        subst he1
        generalize pe.1 = a at ha hp ⊢
        have g82 : H2.get (J + 1) = some (.cells [.map J] none) := by rw [h2.1, if_neg (by omega), if_neg (by omega)]; exact g88
        have gJ2 : H2.get J = some (.lmap esJ (H8.bump 2).next) := by rw [h2.1, if_pos rfl]
        have g52 : H2.get b5 = some (.cells [.map I2] none) := by rw [h2.1, if_neg (by omega), if_neg (by omega)]; exact g58
        have gI2 : H2.get I2 = some (.map (done.filter fun e => !inE esJ e)) := by rw [h2.1, if_neg (by omega), if_pos rfl]
        dsimp only
        repeat' (first | refine WK.seq ?_ | (apply WK.reg; (· exact lnn)) | refine WKO.nil ?_ | ((first | apply WKO.op); (· first | exact k_mv rfl | exact opA); (· rfl)) | refine pN ?_ | fail)
        refine WK.mrangeL (k := 2) (k' := 3) rfl rfl ?_
        repeat' (first | refine WKO.nil ?_ | ((first | apply WKO.op); (· first | (apply k_ldX; (· rfl); (· exact g82); (· rfl))); (· rfl)) | fail)
        refine ⟨J, (H8.bump 2).next, esJ, fun d => [(56, .ptr _ 0), (13, .bool (d.any fun q => decide (a ≠ keyN q.1) && decide (sdiff a (keyN q.1) = 0))), (0, .ptr G 0), (1, nA s), (4, .nils), (5, .ptr b5 0), (8, .ptr (J + 1) 0), (49, .ptr (H8.bump 2).next 0), (11, sA a), (12, ev)],
          [(13, .bool (inE esJ (sA a, ev))), (0, .ptr G 0), (1, nA s), (4, .nils), (5, .ptr b5 0), (8, .ptr (J + 1) 0), (49, .ptr (H8.bump 2).next 0), (11, sA a), (12, ev)], rfl, gJ2, (.cons rfl <| .cons rfl <| .cons rfl <| .cons rfl <| .cons rfl <| .cons rfl <| .cons rfl <| .cons rfl <| .cons rfl <| .cons rfl <| .nil _), fun _ => rfl, fun _ => rfl, fun d e' todo' hp' H5 hm5 hn5 => ?_, fun r hr => ?_, fun H5 hm5 hn5 => ?_⟩
        · obtain ⟨pe', hpe', he1', _⟩ := EntF.mem hE8 (hp'.mem_iff.1 (by simp : e' ∈ d ++ e' :: todo'))
          have hb := hFk pe' hpe'
          obtain ⟨ek', ev'⟩ := e'
          dsimp only at he1'
          subst he1'
          generalize pe'.1 = b at hb hp' ⊢
          have hany : ((d ++ [(sA b, ev')]).any fun q => decide (a ≠ keyN q.1) && decide (sdiff a (keyN q.1) = 0)) = ((d.any fun q => decide (a ≠ keyN q.1) && decide (sdiff a (keyN q.1) = 0)) || (decide (a ≠ b) && decide (sdiff a b = 0))) := by
            rw [List.any_append]
            simp only [List.any_cons, List.any_nil, Bool.or_false]
            rfl
          dsimp only
          rw [hany]
          generalize (d.any fun q => decide (a ≠ keyN q.1) && decide (sdiff a (keyN q.1) = 0)) = X
          repeat' (first | (apply WK.reg; (· exact lnn)) | refine WKO.nil ?_ | ((first | apply WKO.op | ((first | apply WKO.gop); (· rfl); (· exact dcd))); (· first | exact k_mv rfl | exact k_neq16 rfl rfl | exact k_dif16 rfl rfl ha hb | exact k_eql16 rfl rfl | exact opA); (· rfl)) | ((first | apply WKO.gnoT | apply WKO.gnoF); (· rfl); (· exact dcd)) | ((first | apply WKO.gnu); (· rfl)) | ((first | apply WKO.gsp); (· rfl); all_goals ((fail_if_success (refine known ?_ ?_; (· assumption))); intro _)) | ((first | apply WKO.gspB); (· rfl); all_goals ((fail_if_success (refine known ?_ ?_; (· assumption))); intro _)) | fail)
          · rename_i hX
            exact ⟨.inl rfl, (.cons rfl <| .cons (by rw [hX]; rfl) <| .cons rfl <| .cons rfl <| .cons rfl <| .cons rfl <| .cons rfl <| .cons rfl <| .cons rfl <| .cons rfl <| .nil _), hm5, by simp only [next_bump] at *; omega⟩
          · rename_i hX hab
            exact ⟨.inl rfl, (.cons rfl <| .cons (by rw [hX, decide_eq_true hab]; rfl) <| .cons rfl <| .cons rfl <| .cons rfl <| .cons rfl <| .cons rfl <| .cons rfl <| .cons rfl <| .cons rfl <| .nil _), hm5, by simp only [next_bump] at *; omega⟩
          · rename_i hX hab
            exact ⟨.inl rfl, (.cons rfl <| .cons (by rw [hX, decide_eq_false hab]; rfl) <| .cons rfl <| .cons rfl <| .cons rfl <| .cons rfl <| .cons rfl <| .cons rfl <| .cons rfl <| .cons rfl <| .nil _), hm5, by simp only [next_bump] at *; omega⟩
        · have e : (r.any fun q => decide (a ≠ keyN q.1) && decide (sdiff a (keyN q.1) = 0)) = inE esJ (sA a, ev) := by rw [hr.any_eq]; rfl
          dsimp only
          rw [e]
          exact (.cons rfl <| .cons rfl <| .cons rfl <| .cons rfl <| .cons rfl <| .cons rfl <| .cons rfl <| .cons rfl <| .cons rfl <| .nil _)
        · have hg5 : ∀ j, H5.get j = H2.get j := fun j => (show H5.m.get j = _ by rw [hm5]; rfl)
          have hn5' : H2.next ≤ H5.next := by simp only [next_bump] at hn5; omega
          have hnd : (((done ++ (sA a, ev) :: todo).map (·.1))).Nodup := by
            refine (hp.map _).nodup_iff.2 ?_
            rw [hE8.keys]
            rw [List.nodup_iff_pairwise_ne, List.pairwise_map] at hFn ⊢
            exact hFn.imp fun {p q} hne e => hne (by
              have : ((p.1 : Nat) : Int) = q.1 := by injection e
              omega)
          have hup : updE K16 [Lit.int .u16 (a : Int)] (sA a) ev (done.filter fun e => !inE esJ e) = some ((done.filter fun e => !inE esJ e) ++ [(sA a, ev)]) := by
            have := findE_none (a := a) rfl (done.filter fun e => !inE esJ e) 0 (fun e he => by
              have he := (List.mem_filter.1 he).1
              obtain ⟨q, hq, hq1, _⟩ := EntF.mem hE8 (hp.mem_iff.1 (by simp [he] : e ∈ done ++ (sA a, ev) :: todo))
              refine ⟨q.1, hq1, hFk q hq, fun e2 => ?_⟩
              rw [List.map_append, List.nodup_append] at hnd
              exact hnd.2.2 e.1 (List.mem_map_of_mem he) (sA a) (by simp) (by rw [hq1, e2]))
            simp only [updE, this]
          repeat' (first | refine WK.seq ?_ | refine WK.skip ?_ | (apply WK.reg; (· exact lnn)) | refine WKO.nil ?_ | ((first | apply WKO.op); (· first | exact k_mv rfl | (apply k_ldX; (· rfl); (· exact (hg5 _).trans g52); (· rfl)) | exact opA); (· rfl)) | refine pN ?_ | (apply WK.condN; (· rfl); all_goals intro _) | fail)
          · rename_i hk
            refine WKO.opn (k_updX rfl rfl rfl ((hg5 _).trans gI2) (key16 ha) hup) rfl (WKO.nil ⟨.inl rfl, (.cons rfl <| .cons rfl <| .cons rfl <| .cons rfl <| .cons rfl <| .cons rfl <| .nil _), fun j => ?_, ?_⟩)
            · rw [AHeap.get_set]
              by_cases e : j = I2
              · subst e
                rw [if_pos rfl, if_neg (by omega), if_pos rfl, List.filter_append, List.filter_cons, hk]
                rfl
              · rw [if_neg e]
                refine (hg5 j).trans ?_
                rw [h2.1, if_neg e, if_neg e]
            · rw [next_set]
              simp only [next_bump]
              have := h2.2
              omega
          · rename_i hk
            refine ⟨.inl rfl, (.cons rfl <| .cons rfl <| .cons rfl <| .cons rfl <| .cons rfl <| .cons rfl <| .nil _), fun j => (hg5 j).trans ?_, ?_⟩
            · rw [h2.1, List.filter_append, List.filter_cons, hk]
              simp only [Bool.not_true, Bool.false_eq_true, if_false, List.filter_nil, List.append_nil]
            · simp only [next_bump]
              have := h2.2
              omega
      · rw [h2.1, h3.1]
        split
        · exact objEq_refl _
        · split
          · exact permEq_of ((hr.trans hr'.symm).filter _)
          · exact objEq_refl _
      · refine ⟨nofun, fun _ hcl3 => ⟨fun _ => ?_, fun q => absurd rfl q⟩⟩
        have hne : I2 ≠ J := by omega
        have gI3 : H3.get I2 = some (.map (r.filter fun e => !inE esJ e)) := by rw [hg3, if_neg hne, h2.1, if_neg hne, if_pos rfl]
        have g3 : ∀ j, j ≠ I2 → H3.get j = H8.get j := fun j hj => by
          rw [hg3]
          split
          · rename_i e; rw [e, gJ8]
          · rename_i e; rw [h2.1, if_neg e, if_neg hj]
        have hkr3 : Kr H8 H3 := Kr.but (Nat.le_trans h2.2 hn3) gI8 (fun _ _ => nofun) fun k _ hk => g3 k hk
        obtain ⟨F2, hp2, hE2⟩ := EntF.perm hr.symm hE8
        have hEf := (EntF.filter hE8 hE2).kr hkr3
        have hwp : (F2.filter fun p => !inO F' p.1).Perm (maxF (nextF N W ks)) := by
          rw [← heq]
          exact hp2.filter _
        have h3n : H8.next ≤ H3.next := Nat.le_trans h2.2 hn3
        refine ⟨F2.filter fun p => !inO F' p.1, (.cons rfl <| .cons rfl <| .cons rfl <| .cons rfl <| .nil _), ⟨winv_next (by omega) hN2 hw s1 hwp, fun j hj => ?_, ⟨I2, H3.next, _, by omega, ?_, hEf⟩, hcl3.1 hcl⟩, hkT⟩
        · rcases Nat.lt_or_ge j k with q | q
          · exact hlo j q
          · obtain rfl : j = k := by omega
            exact hnot
        · exact {
            obj := by simp only [List.mem_cons, List.not_mem_nil, or_false, forall_eq_or_imp, forall_eq]; exact ⟨(g3 b5 (by omega)).trans g58, gI3⟩
            lt := by simp only [List.mem_cons, List.not_mem_nil, or_false, forall_eq_or_imp, forall_eq]; exact ⟨by omega, by omega⟩
            nd := by simp; omega
            base := by omega
            le := Nat.le_refl _
            fr := fun j hj _ => by rw [g3 j (by omega), fr8 j (by omega) (by omega), hF4.fr j (by omega) (by simp only [List.mem_singleton]; omega), hF.fr j hj (by simp)] }
  · repeat' (first | refine WK.seq ?_ | refine WK.ret ?_ | refine WK.block ?_ | (apply WK.reg; (· exact lnn)) | (apply WK.regC; (· rfl); (· exact lnn); (· decide)) | refine WKC.nil ?_ | refine WKO.nil ?_ | ((first | apply WKC.op | apply WKO.op); (· first | exact k_mv rfl | exact k_shl16 rfl rfl (by omega) | exact k_sub16 rfl rfl Nat.one_le_two_pow (by omega) | (apply k_lookX; (· rfl); (· rfl); (· exact gI); (· exact key16 hfull); (· exact f2); (· rfl)) | (apply k_ldO; (· rfl); (· assumption); (· rfl); (· exact mmb); (· rfl)) | exact k_faddr rfl | exact k_nilc rfl | exact opA); (· rfl)) | refine pN ?_ | refine pR ?_ | refine bR ?_ | (apply WK.condT; (· rfl); (· exact dcd)) | fail)
    intro _
    refine ⟨nofun, fun _ => ⟨rfl, _, rfl, ?_⟩⟩
    obtain ⟨p, hp, hpe⟩ := List.mem_map.1 (hasF_iff.1 f1)
    have hlk : lookW W (2 ^ m - 1) = p.2 := lookW_mem hw.nd (by rw [← hpe]; exact hp)
    obtain ⟨o1, o2, o3, o4⟩ := hw.ok p hp
    rw [hlk] at f3
    have hkp : Kp H ((((H.bump 13).bump 1).bump 2)) := Kp.eqm rfl (by simp only [next_bump]; omega)
    refine ⟨k, p.2, ?_, o2, f3.kr hkp.kr, by rw [o3, hpe, hNl], o4, hF.kp.trans hkp⟩
    refine ⟨?_, fun j hj => by rw [hNl]; exact hlo j hj⟩
    rw [← winv_full hw, ← hasF_iff, hNl]
    exact f1
end Go.Proofs.Ytpbighinamljbaa.PA
namespace Go.Proofs.Ytpbighinamljbaa.PA
open Go Go.Eng Go.Proofs
set_option maxHeartbeats 1000000 in
theorem x47 {kk fuel G M m s : Nat} {N : List Nat} {H0 : AHeap} (hNl : N.length = m) (hm : m ≤ 10) (hN2 : ∀ c ∈ N, c < 2 ^ N.length) (hfu : 1030 < fuel) (hs : s < m) (hg : GrH H0 G M m N) (hcl : Go.Eng.Clean H0) (hS : Sym N) (hc : connN N = true)
    (h70 : ∀ b8 b5 b10 J I inf W, inf < 1024 → (∀ p ∈ W, p.1 < 1024) → (lookW W inf).length < 1000 → K70 (cfG kk) N m G M b8 b5 b10 J I inf W 0)
    (h69 : ∀ I H, ∃ u H', cfG kk 69 [.map I] H = some (u, H') ∧ ∃ p, u = .fn 81 [.ptr p 0] ∧ H.next ≤ p ∧ p < H'.next ∧ H'.get p = some (.cells [.map I] none) ∧ Kp H H') :
    ∃ u H', xfunc (cfG kk) fuel L47 [.ptr G 0, nA s] H0 = some (u, H') ∧ SchR H0 N s u H' := by
  refine xfunc_ofK rfl (by show 2 ≤ 78; omega) ?_
  obtain ⟨T, hT1, hT⟩ := isT_ex hS (by omega) hN2 hc (by omega : s < N.length)
  have hF0 := hf0 H0
  have hp := pow_le10 hm
  have hNt : ∀ c ∈ N, c < 1024 := fun c hc => Nat.lt_of_lt_of_le (hN2 c hc) (by rw [hNl]; exact hp)
  have hps : 2 ^ s < 1024 := pow10 (by omega)
  have hcc := cfG_clean kk
  have hb := @body47_ok kk fuel G M m s
  unfold body47 at hb
  unfold L47 at hb ⊢
  dsimp only at hb ⊢
  repeat' (first | refine WK.seqC (by assumption) ?_ | intro (_ : CleanTo _ _) | refine WK.block ?_ | (apply WK.reg; (· exact lnn)) | (apply WKO.updO0; (· rfl); (· rfl); (· rfl); (· assumption); (· rfl); (· first | omega); (· exact .inr (by first | omega | (simp only [next_bump] at *; omega))); (· exact key16 hps); (· rfl); intro _ _ _) | (apply WKO.alO; (· assumption); (· rfl); (· exact nxx); (· exact nxx); (· exact nxx); intro _ _ _) | (apply WKO.mapO; (· assumption); (· rfl); (· exact nxx); (· exact nxx); (· exact nxx); intro _ _ _) | (apply WKO.stO0; (· rfl); (· rfl); (· assumption); (· rfl); (· exact nxx); (· first | exact .inr nxx); (· rfl); (· rfl); (· first | decide); intro _ _ _) | refine WKO.nil ?_ | ((first | apply WKO.op); (· first | exact k_mv rfl | exact k_shl16 rfl rfl (by omega)); (· rfl)) | refine pN ?_ | fail)
  rename_i c1 Ha _ na Hb _ nb Hc _ nc H1 hF1 n1 cl1
  have hC1 : Go.Eng.Clean H1 := cl1.1 (c1.1 hcl)
  have hT1' := hF1.le
  have hm1 : (H0.bump 1).next = H0.next + 1 := rfl
  rw [hm1] at hF1 hT1' ⊢
  have hw0 : WInv N s 0 [(2 ^ s, [])] := winv0 (by omega)
  refine WK.loop (α := Nat × FW) (fun _ => [(0, .ptr G 0), (1, nA s), (4, .nils), (5, .ptr (H0.next + 1 + 1 + 1 + 1 + 1 + 1) 0)]) (fun p H => SchI H0 m N s (H0.next + 1 + 1 + 1 + 1 + 1 + 1) p.1 p.2 H) (fun p => T + 1 - p.1) (0, [(2 ^ s, [])]) (.cons rfl <| .cons rfl <| .cons rfl <| .cons rfl <| .nil _)
    ⟨hw0, fun j hj => absurd hj (Nat.not_lt_zero _), ⟨H0.next + 1, _, [(sA (2 ^ s), .nils)], by omega, hF1, rfl, RRw.nil _, trivial⟩, hC1⟩ (by dsimp only; omega) ?_
  rintro ⟨k, W⟩ H hI
  refine (hb (b5 := H0.next + 1 + 1 + 1 + 1 + 1 + 1) hNl hm hNt hN2 hfu hs hg hI (by omega) hT (by omega) (fun b8 b10 J I inf W => h70 b8 _ b10 J I inf W) h69).mono ?_
  rintro e l' H' ⟨q1, q2⟩
  refine ⟨fun he => ?_, fun he => ?_⟩
  · obtain ⟨W', r1, r2, r3⟩ := q1 he
    exact ⟨(k + 1, W'), r1, r2, by dsimp only; omega⟩
  · obtain ⟨rfl, u, r1, r2⟩ := q2 he
    refine ⟨nofun, fun _ => ⟨nofun, [u], ?_, r2⟩⟩
    simp only [resK, resK1, r1, Option.bind_some]
section
variable {k : Nat}
theorem g_82 {H : AHeap} {v : AV} {m : Nat} {cs : List AV} (h : Row 2 H v m cs) (hm : m < 1048576) : ∃ u H', cfG (k + 1) 82 [v] H = some (u, H') ∧ ClipR 2 H m cs u H' := cfG_run rfl rfl (x82 h hm)
theorem g_72 {H : AHeap} {v : AV} {m : Nat} {cs : List AV} (h : Row 1 H v m cs) (hm : m < 1048576) : ∃ u H', cfG (k + 1) 72 [v] H = some (u, H') ∧ ClipR 1 H m cs u H' := cfG_run rfl rfl (x72 h hm)
theorem g_69 (I : Nat) (H : AHeap) : ∃ u H', cfG (k + 1) 69 [.map I] H = some (u, H') ∧ ∃ p, u = .fn 81 [.ptr p 0] ∧ H.next ≤ p ∧ p < H'.next ∧ H'.get p = some (.cells [.map I] none) ∧ Kp H H' := cfG_run rfl rfl x69
theorem g_70 {N : List Nat} {m G M b8 b5 b10 J I inf : Nat} {W : FW} (hNl : N.length = m) (hm : m ≤ 10) (hNt : ∀ c ∈ N, c < 1024) (hi : inf < 1024) (hW : ∀ p ∈ W, p.1 < 1024) (hlk : (lookW W inf).length < 1000) : ∀ (d k v : Nat), v + d = m → K70 (cfG (k + 3 + d)) N m G M b8 b5 b10 J I inf W v := by
  intro d
  induction d using Nat.strongRecOn with
  | ind d ih =>
    intro k v hv H now cs CS F hcl hA hg hC hnow hF hcs
    have e : k + 3 + d = (k + 2 + d) + 1 := by omega
    rw [e]
    refine cfG_run rfl rfl (x70 hNl hm hNt (by omega) (cfG_clean _) hcl hA hg hC hnow hF hcs (by omega) hi (fun H m i h1 h2 => g_64 h1 h2) (fun H v m cs h1 h2 => ?_) (fun H now cs CS F q1 q2 q3 q4 q5 => ?_) (fun v' h1 h2 => ?_))
    · rw [show k + 2 + d = (k + 1 + d) + 1 by omega]
      exact g_82 h1 h2
    · rw [show k + 2 + d = (k + 1 + d) + 1 by omega]
      refine cfG_run rfl rfl (x71 q1 q2 q3 hW q4 hi q5 hlk fun H v m cs h1 h2 => ?_)
      rw [show k + 1 + d = (k + d) + 1 by omega]
      exact g_72 h1 h2
    · have := ih (m - v') (by omega) (k + (d - 1 - (m - v'))) v' (by omega)
      rwa [show k + (d - 1 - (m - v')) + 3 + (m - v') = k + 2 + d by omega] at this
theorem g_47 {G M m s : Nat} {N : List Nat} {H0 : AHeap} (hNl : N.length = m) (hm : m ≤ 10) (hN2 : ∀ c ∈ N, c < 2 ^ N.length) (hs : s < m) (hg : GrH H0 G M m N) (hcl : Go.Eng.Clean H0) (hS : Sym N) (hc : connN N = true) :
    ∃ u H', cfG (k + 14) 47 [.ptr G 0, nA s] H0 = some (u, H') ∧ SchR H0 N s u H' := by
  have hp := pow_le10 hm
  have hNt : ∀ c ∈ N, c < 1024 := fun c hc => Nat.lt_of_lt_of_le (hN2 c hc) (by rw [hNl]; exact hp)
  refine cfG_run rfl rfl (x47 hNl hm hN2 (by omega) hs hg hcl hS hc (fun b8 b5 b10 J I inf W h1 h2 h3 => ?_) (fun I H => g_69 I H))
  have := g_70 (G := G) (M := M) (b8 := b8) (b5 := b5) (b10 := b10) (J := J) (I := I) hNl hm hNt h1 h2 h3 m (k + 10 - m) 0 (by omega)
  rwa [show k + 10 - m + 3 + m = k + 13 by omega] at this
end
end Go.Proofs.Ytpbighinamljbaa.PA
namespace Go.Proofs.Ytpbighinamljbaa.PA
open Go Go.Eng Go.Proofs
def NZ (n : Int) (l : ZPrs) : List Nat := nearN n.toNat (l.map nE)
def cgZ (n : Int) (l : ZPrs) : Bool := grZ n l && connN (NZ n l)
theorem zc_inj : ∀ {l l' : ZPrs}, zc l = zc l' → l = l'
  | [], [], _ => rfl
  | [], _ :: _, h => by cases h
  | _ :: _, [], h => by cases h
  | (a, b) :: l, (c, d) :: l', h => by
    have h' : AV.int .i64 a :: .int .i64 b :: zc l = .int .i64 c :: .int .i64 d :: zc l' := h
    simp only [List.cons.injEq, AV.int.injEq, true_and] at h'
    obtain ⟨h1, h2, h3⟩ := h'
    rw [h1, h2, zc_inj h3]
theorem nE_of {l : ZPrs} {q : Prs} (h : zc l = prsC q) : l.map nE = q := by
  rw [← zc_prs] at h
  rw [zc_inj h, List.map_map]
  conv => rhs; rw [← List.map_id q]
  exact List.map_congr_left fun c _ => rfl
theorem gr_of {n : Int} {l : ZPrs} (h : grZ n l = true) : ∃ m : Nat, n = m ∧ 1 ≤ m ∧ m ≤ 10 ∧ l.length ≤ 60 ∧ Egs m (l.map nE) ∧ zc l = prsC (l.map nE) ∧ NZ n l = nearN m (l.map nE) := by
  simp only [grZ, Bool.and_eq_true, decide_eq_true_eq] at h
  obtain ⟨⟨⟨h1, h2⟩, h3⟩, h4⟩ := h
  obtain ⟨m, rfl⟩ : ∃ m : Nat, n = m := ⟨n.toNat, by omega⟩
  have hall := List.all_eq_true.1 h4
  refine ⟨m, rfl, by omega, by omega, h3, fun c hc => ?_, ?_, rfl⟩
  · obtain ⟨p, hp, rfl⟩ := List.mem_map.1 hc
    obtain ⟨a, b, rfl, h⟩ := okE_nat (hall p hp)
    exact h
  · rw [← zc_prs, List.map_map]
    congr 1
    conv => lhs; rw [← List.map_id l]
    refine List.map_congr_left fun p hp => ?_
    obtain ⟨a, b, rfl, _⟩ := okE_nat (hall p hp)
    rfl
structure NOk (N : List Nat) : Prop where
  l1 : 1 ≤ N.length
  l10 : N.length ≤ 10
  lt : ∀ c ∈ N, c < 2 ^ N.length
  sym : Sym N
  con : connN N = true
theorem NOk.t {N : List Nat} (h : NOk N) : ∀ c ∈ N, c < 1024 := fun c hc => Nat.lt_of_lt_of_le (h.lt c hc) (pow_le10 h.l10)
theorem cg_ok {n : Int} {l : ZPrs} (h : cgZ n l = true) : NOk (NZ n l) ∧ n = ((NZ n l).length : Nat) := by
  simp only [cgZ, Bool.and_eq_true] at h
  obtain ⟨h1, h2⟩ := h
  obtain ⟨m, rfl, m1, m2, _, hq, _, hN⟩ := gr_of h1
  have hl : (NZ (m : Int) l).length = m := by rw [hN, nearN_len]
  exact ⟨⟨by omega, by omega, by rw [hl, hN]; exact nearN_lt2 hq, by rw [hN]; exact nearN_sym hq, h2⟩, by rw [hl]⟩
theorem RRw.len {H : AHeap} {u : AV} {ls : List Prs} (h : RRw H u ls) : lenN u = some ls.length := by
  obtain ⟨cs, h1, _⟩ := h
  exact (RdR.of (.inl h1)).len
section
variable {kk fuel : Nat} {H0 : AHeap} {n s : Int} {l : ZPrs} {X : AV}
end
section
variable {k : Nat} {H : AHeap} {n s : Int} {l : ZPrs} {X : AV}
theorem g_47' {k : Nat} : ∀ H G M s N, GrH H G M N.length N → NOk N → s < N.length → Go.Eng.Clean H → ∃ u H', cfG (k + 14) 47 [.ptr G 0, nA s] H = some (u, H') ∧ SchR H N s u H' :=
  fun H G M s N hg hN hs hc => g_47 rfl hN.l10 hN.lt hs hg hc hN.sym hN.con
end
end Go.Proofs.Ytpbighinamljbaa.PA
namespace Go.Proofs.Ytpbighinamljbaa.PA
open Go Go.Eng Go.Proofs
def bA (a : Nat) : AV := .int .u8 (a : Int)
section
variable {cf : CF} {n a b : Nat} {H : AHeap} {l : KL0} {x y : XO}
theorem k_rem4 (hx : evK l x = some (bA a)) (hy : evK l y = some (.int .u8 (.ofNat 4))) : XV cf l H n (.bin .rem x y) = some (bA (a % 4), H) :=
  k_bin hx hy (by
    show (if (4 : Int) = 0 then none else some (AV.int .u8 ((a : Int).tmod (4 : Int)))) = _
    rw [if_neg (by decide)]
    show some (AV.int .u8 ((a : Int).tmod ((4 : Nat) : Int))) = _
    rw [← Int.ofNat_tmod]
    rfl)
theorem k_gtr8 (hx : evK l x = some (bA a)) (hy : evK l y = some (.int .u8 (.ofNat 0))) : XV cf l H n (.bin .gtr x y) = some (.bool (decide (0 < a)), H) :=
  k_bin hx hy (by
    show some (AV.bool (decide ((a : Int) > 0))) = _
    congr 2
    rw [decide_eq_decide]
    omega)
theorem k_conv8 (hx : evK l x = some (bA a)) (ha : a < 256) : XV cf l H n (.conv .i64 x) = some (nA a, H) :=
  k_any (by
    simp only [xval, xop, hx, bA]
    show some (AV.int .i64 (wrapA .i64 (a : Int)), H) = _
    rw [wrapI _ (by omega) (by omega)]
    rfl)
theorem k_aaM {len o : Nat} {cs : List AV} (hx : evK l x = some (.iptr cs o)) (hy : evK l y = some (nA a)) (h : a < len) : XV cf l H n (.aaddr len 1 x y) = some (.iptr cs (o + a), H) :=
  k_any (by
    have : aaddrA len 1 (.iptr cs o) (.int .i64 (a : Int)) = some (.iptr cs (o + a)) := by
      simp only [aaddrA, idxOk_lt h, if_true, Int.toNat_natCast, Nat.mul_one]
    have hy' : evK l y = some (.int .i64 (a : Int)) := hy
    simp only [xval, xop, hx, hy', this, AR.ofV])
end
theorem WKO.appendP {cf : CF} {n d1 d2 a b : Nat} {H0 H : AHeap} {K : KL0} {x y : XO} {r : List XOper} {R : KL0 → AHeap → Prop} {L : AV} {p : Prs} {m : Nat} {z0 z1 : AV} (hR : RowE 2 H L m (prsC p)) (hm : p.length = m) (hx : evK K x = some (.agg [nA a, nA b])) (hy : evK ((d1, .sl n 0 1 1) :: K) y = some L) (hl : m < 1000) (hn : n < H.next) (hn0 : H0.next ≤ n) (hf : L.own ≠ some n) (ho : ∀ j, L.own = some j → H0.next ≤ j) (hk : Kp H0 H)
    (k : ∀ L' H1, RowE 2 H1 L' (m + 1) (prsC (p ++ [(a, b)])) → (∀ j, L'.own = some j → H0.next ≤ j) → Kp H0 H1 → H.next ≤ H1.next → (∀ j, j < H.next → j ≠ n → L.own ≠ some j → H1.get j = H.get j) → WKO cf r (n + 1 + 1) ((d2, L') :: (d1, .sl n 0 1 1) :: K) H1 R) :
    WKO cf (⟨some d1, .bslice [z0, z1] [(0, 2, x)] 1, none⟩ :: ⟨some d2, .app 2 16 y (.t d1), none⟩ :: r) n K H R := by
  refine WKO.append1E (new := [nA a, nA b]) hR hy ?_ (by simp [allSm, XOp.opnds, hx]) (by omega) (by omega) (by omega) rfl rfl hn hf fun L' H1 r1 r2 r3 r4 => k L' H1 ?_ (fun j hj => ?_) ⟨Nat.le_trans hk.1 r2, fun j hj => ?_⟩ r2 r3
  · simp [evParts, hx, fillA, AV.cells]
  · rw [prsC_app]; exact .inl r1
  · have := hk.1
    rcases r4 j hj with h | h
    · exact ho j h
    · omega
  · have := hk.1
    rw [r3 j (by omega) (by omega) (fun w => by have := ho j w; omega)]
    exact hk.2 j hj
structure MadeR (n : Nat) (l : Prs) : Prop where
  n1 : 1 ≤ n
  n10 : n ≤ 10
  len : l.length ≤ 30
  nl : n ≤ l.length + 1
  tree : ∀ j, j + 1 < n → ∃ a, l[j]? = some (a, j + 1) ∧ a ≤ j
  egs : Egs n l
theorem mod_ne {a d n : Nat} (ha : a < n) (h1 : 1 ≤ d) (h2 : d < n) : a ≠ (a + d) % n := by
  rcases Nat.lt_or_ge (a + d) n with h | h
  · rw [Nat.mod_eq_of_lt h]; omega
  · rw [Nat.mod_eq_sub_mod h, Nat.mod_eq_of_lt (by omega)]; omega
set_option maxHeartbeats 1000000 in
theorem x22 {cf : CF} {fuel : Nat} {H0 : AHeap} {x : Prs} (hx : ∀ p ∈ x, p.1 < 256 ∧ p.2 < 256) (hf : 100 < fuel) :
    ∃ u H', xfunc cf fuel L22 [.imm (arrC x) x.length false] H0 = some (u, H') ∧ ∃ n l L, u = .tup [nA n, L] ∧ MadeR n l ∧ RowE 2 H' L l.length (prsC l) ∧ (∀ j, L.own = some j → H0.next ≤ j) ∧ Kp H0 H' := by
  refine xfunc_ofK rfl (by show 1 ≤ 90; omega) ?_
  have hF0 := hf0 H0
  unfold L22
  dsimp only
  repeat' (first | refine WK.stop2 ?_ | refine WK.seq ?_ | (apply WK.reg; (· exact lnn)) | (apply WKO.bsO; (· rfl); (· rfl); (· assumption); (· rfl); (· exact nxx); (· exact nxx); (· exact nxx); intro _ _ _) | refine WKO.nil ?_ | ((first | apply WKO.op); (· first | exact k_mv rfl); (· rfl)) | refine pN ?_ | fail)
  rename_i H1 hF1 n1
  refine Stop.mk (WK.cut (α := Nat × Prs × AV) (fun p => [(0, .imm (arrC x) x.length false), (4, nA (p.1 + 1)), (5, p.2.2)]) (fun p H => p.1 ≤ x.length ∧ p.1 + 1 ≤ 10 ∧ p.2.1.length = p.1 ∧ (∀ j, j < p.1 → ∃ a, p.2.1[j]? = some (a, j + 1) ∧ a ≤ j) ∧ RowE 2 H p.2.2 p.1 (prsC p.2.1) ∧ (∀ j, p.2.2.own = some j → H0.next ≤ j) ∧ Kp H0 H) ?_ ?_)
  · repeat' (first | refine WK.seq ?_ | refine WK.block ?_ | (apply WK.reg; (· exact lnn)) | refine WKO.nil ?_ | ((first | apply WKO.op); (· first | exact k_mv rfl); (· rfl)) | refine pN ?_ | fail)
    refine WK.loop (α := Nat × Prs × AV) (fun p => [(0, .imm (arrC x) x.length false), (4, nA (p.1 + 1)), (5, p.2.2), (6, nA p.1)]) (fun p H => p.1 ≤ x.length ∧ p.1 + 1 ≤ 10 ∧ p.2.1.length = p.1 ∧ (∀ j, j < p.1 → ∃ a, p.2.1[j]? = some (a, j + 1) ∧ a ≤ j) ∧ RowE 2 H p.2.2 p.1 (prsC p.2.1) ∧ (∀ j, p.2.2.own = some j → H0.next ≤ j) ∧ Kp H0 H) (fun p => 10 - p.1) (0, [], .sl (H0.bump 2).next 0 0 0) (.cons rfl <| .cons rfl <| .cons rfl <| .cons rfl <| .nil _) ⟨Nat.zero_le _, by omega, rfl, fun j hj => absurd hj (Nat.not_lt_zero _), .inr ⟨rfl, rfl, _, rfl, ?_, hF1.obj _ (.head _)⟩, fun j hj => ?_, hF1.kp.up rfl (by simp only [next_bump]; omega)⟩ (by dsimp only; omega) ?_
    · have h1 := hF1.lt _ (.head _)
      have h2 := hF1.le
      simp only [next_bump] at *
      omega
    · have : (H0.bump 2).next = j := by simpa [AV.own] using hj
      simp only [next_bump] at this
      omega
    rintro ⟨i, l, L⟩ H ⟨a1, a2, a3, a4, a5, a6, a7⟩
    dsimp only at a1 a2 a3 a4 a5 a6 a7 ⊢
    by_cases hi : i < x.length
    · obtain ⟨⟨p1, p2⟩, hp⟩ : ∃ p, x[i]? = some p := ⟨_, List.getElem?_eq_getElem hi⟩
      obtain ⟨q0, q1⟩ := arrC_at hp
      obtain ⟨w0, w1⟩ := hx _ (List.mem_of_getElem? hp)
      dsimp only at q0 q1 w0 w1
      repeat' (first | refine WK.seq ?_ | refine WK.skip ?_ | refine WK.exit ?_ | refine WK.block ?_ | (apply WK.reg; (· exact lnn)) | refine WKO.nil ?_ | ((first | apply WKO.op | ((first | apply WKO.gop); (· rfl); (· exact dcd))); (· first | exact k_mv rfl | exact k_iaM rfl rfl hi | exact k_aaM rfl rfl (by omega) | exact k_ldM rfl q0 | exact k_ldM rfl q1 | exact k_rem4 rfl rfl | exact k_gtr8 rfl rfl | exact k_conv8 rfl (by omega) | exact opA); (· rfl)) | ((first | apply WKO.gnoT); (· rfl); (· exact dcd)) | ((first | apply WKO.gsp); (· rfl); all_goals ((fail_if_success (refine known ?_ ?_; (· assumption))); intro _)) | refine pN ?_ | refine pX ?_ | refine bX ?_ | (apply WK.condF; (· rfl); (· exact dcd)) | (apply WK.condD; (· rfl); all_goals intro _) | fail)
      · have hown := fun j (q : L.own = some j) => a5.own_lt q
        have hH0 := a7.1
        refine WKO.appendP (H0 := H0) (p := l) (a := p1 % (i + 1)) (b := i + 1) (a5.frame (by simp only [next_bump]; omega) (fun _ _ => rfl)) a3 rfl rfl (by omega) (by simp only [next_bump]; omega) (by simp only [next_bump]; omega) (fun q => by have := hown _ q; simp only [next_bump] at this; omega) a6 (a7.up rfl (by simp only [next_bump]; omega)) ?_
        intro L' H2 r1 r2 r3 _ _
        repeat' (first | (apply WK.reg; (· exact lnn)) | refine WKO.nil ?_ | ((first | apply WKO.op); (· first | exact k_mv rfl | exact opA); (· rfl)) | refine pN ?_ | refine bN ?_ | fail)
        have hlt : p1 % (i + 1) < i + 1 := Nat.mod_lt _ (by omega)
        refine ⟨(i + 1, l ++ [(p1 % (i + 1), i + 1)], L'), (.cons rfl <| .cons rfl <| .cons rfl <| .cons rfl <| .nil _), ⟨by dsimp only; omega, by dsimp only; omega, by simp [a3], fun j hj => ?_, r1.frame (by simp only [next_bump]; omega) (fun _ _ => rfl), r2, r3.up rfl (by simp only [next_bump]; omega)⟩, by dsimp only; omega⟩
        dsimp only at hj ⊢
        by_cases e : j < i
        · rw [List.getElem?_append_left (by omega)]
          exact a4 j e
        · obtain rfl : j = i := by omega
          refine ⟨p1 % (j + 1), ?_, by omega⟩
          rw [List.getElem?_append_right (by omega), a3, Nat.sub_self]
          rfl
      all_goals exact ⟨(i, l, L), (.cons rfl <| .cons rfl <| .cons rfl <| .nil _), a1, a2, a3, a4, a5.frame (by simp only [next_bump]; omega) (fun _ _ => rfl), a6, a7.up rfl (by simp only [next_bump]; omega)⟩
    · repeat' (first | refine WK.seq ?_ | refine WK.exit ?_ | (apply WK.reg; (· exact lnn)) | refine WKO.nil ?_ | ((first | apply WKO.op); (· first | exact k_mv rfl | exact opA); (· rfl)) | ((first | apply WKO.gnoT); (· rfl); (· exact dcd)) | refine pN ?_ | refine pX ?_ | refine bX ?_ | (apply WK.condF; (· rfl); (· exact dcd)) | fail)
      exact ⟨(i, l, L), (.cons rfl <| .cons rfl <| .cons rfl <| .nil _), a1, a2, a3, a4, a5.frame (by simp only [next_bump]; omega) (fun _ _ => rfl), a6, a7.up rfl (by simp only [next_bump]; omega)⟩
  · rintro ⟨i, l, L⟩ H ⟨a1, a2, a3, a4, a5, a6, a7⟩
    dsimp only at a1 a2 a3 a4 a5 a6 a7 ⊢
    repeat' (first | refine WK.seq ?_ | refine WK.block ?_ | (apply WK.reg; (· exact lnn)) | refine WKO.nil ?_ | ((first | apply WKO.op); (· first | exact k_mv rfl | exact opA); (· rfl)) | refine pN ?_ | fail)
    have heg : Egs (i + 1) l := fun c hc => by
      obtain ⟨j, hj⟩ := List.getElem?_of_mem hc
      have hjl : j < l.length := (List.getElem?_eq_some_iff.1 hj).1
      obtain ⟨a, h1, h2⟩ := a4 j (by omega)
      rw [hj] at h1
      cases h1
      exact ⟨by dsimp only; omega, by dsimp only; omega, by dsimp only; omega⟩
    refine WK.loop (α := Nat × Prs × AV) (fun p => [(0, .imm (arrC x) x.length false), (4, nA (i + 1)), (5, p.2.2), (7, nA p.1)]) (fun p H => i ≤ p.2.1.length ∧ p.2.1.length ≤ 30 ∧ p.1 = p.2.1.length ∧ (∀ j, j < i → ∃ a, p.2.1[j]? = some (a, j + 1) ∧ a ≤ j) ∧ Egs (i + 1) p.2.1 ∧ RowE 2 H p.2.2 p.2.1.length (prsC p.2.1) ∧ (∀ j, p.2.2.own = some j → H0.next ≤ j) ∧ Kp H0 H) (fun p => 30 - p.1) (i, l, L) (.cons rfl <| .cons rfl <| .cons rfl <| .cons rfl <| .nil _) ⟨by dsimp only; omega, by dsimp only; omega, a3.symm, a4, heg, by dsimp only; rw [a3]; exact a5.frame (by simp only [next_bump]; omega) (fun _ _ => rfl), a6, a7.up rfl (by simp only [next_bump]; omega)⟩ (by dsimp only; omega) ?_
    clear heg a3 a4 a5 a6 a7 a1
    rintro ⟨i', l, L⟩ H ⟨a1, a3, a4, a8, a9, a5, a6, a7⟩
    dsimp only at a1 a3 a4 a5 a6 a7 a8 a9 ⊢
    subst a4
    have hlen : lenN L = some l.length := (RdR.of a5).len
    by_cases hi : l.length < x.length
    · obtain ⟨⟨p1, p2⟩, hp⟩ : ∃ p, x[l.length]? = some p := ⟨_, List.getElem?_eq_getElem hi⟩
      obtain ⟨q0, q1⟩ := arrC_at hp
      obtain ⟨w0, w1⟩ := hx _ (List.mem_of_getElem? hp)
      dsimp only at q0 q1 w0 w1
      have hm1 : p1 % (i + 1) < i + 1 := Nat.mod_lt _ (by omega)
      have hm2 : p2 % (i + 1 - 1) ≤ p2 := Nat.mod_le _ _
      repeat' (first | refine WK.seq ?_ | refine WK.skip ?_ | refine WK.ret ?_ | refine WK.exit ?_ | refine WK.block ?_ | (apply WK.reg; (· exact lnn)) | refine WKO.nil ?_ | ((first | apply WKO.op | ((first | apply WKO.gop); (· rfl); (· exact dcd))); (· first | exact k_mv rfl | exact k_iaM rfl rfl hi | exact k_aaM rfl rfl (by omega) | exact k_ldM rfl q0 | exact k_ldM rfl q1 | exact k_conv8 rfl (by omega) | exact k_lenL rfl hlen | exact opA); (· rfl)) | ((first | apply WKO.gnoT); (· rfl); (· exact dcd)) | ((first | apply WKO.gsp); (· rfl); all_goals ((fail_if_success (refine known ?_ ?_; (· assumption))); intro _)) | refine pN ?_ | refine pX ?_ | refine bX ?_ | (apply WK.condF; (· rfl); (· exact dcd)) | (apply WK.condD; (· rfl); all_goals intro _) | fail)
      · rename_i hi1 hl30
        have hown := fun j (q : L.own = some j) => a5.own_lt q
        have hH0 := a7.1
        have hm3 : p2 % (i + 1 - 1) < i := Nat.mod_lt _ (by omega)
        have hm4 : (p1 % (i + 1) + 1 + p2 % (i + 1 - 1)) % (i + 1) < i + 1 := Nat.mod_lt _ (by omega)
        have hne : p1 % (i + 1) ≠ (p1 % (i + 1) + 1 + p2 % (i + 1 - 1)) % (i + 1) := by
          rw [Nat.add_assoc]
          exact mod_ne hm1 (by omega) (by omega)
        refine WKO.appendP (H0 := H0) (p := l) (a := p1 % (i + 1)) (b := (p1 % (i + 1) + 1 + p2 % (i + 1 - 1)) % (i + 1)) (a5.frame (by simp only [next_bump]; omega) (fun _ _ => rfl)) rfl rfl rfl (by omega) (by simp only [next_bump]; omega) (by simp only [next_bump]; omega) (fun q => by have := hown _ q; simp only [next_bump] at this; omega) a6 (a7.up rfl (by simp only [next_bump]; omega)) ?_
        intro L' H2 r1 r2 r3 _ _
        repeat' (first | (apply WK.reg; (· exact lnn)) | refine WKO.nil ?_ | ((first | apply WKO.op); (· first | exact k_mv rfl | exact opA); (· rfl)) | refine pN ?_ | refine bN ?_ | fail)
        generalize (p1 % (i + 1) + 1 + p2 % (i + 1 - 1)) % (i + 1) = b at *
        refine ⟨(l.length + 1, l ++ [(p1 % (i + 1), b)], L'), (.cons rfl <| .cons rfl <| .cons rfl <| .cons rfl <| .nil _), ⟨by simp; omega, by simp; omega, by simp, fun j hj => ?_, fun c hc => ?_, ?_, r2, r3.up rfl (by simp only [next_bump]; omega)⟩, by dsimp only; omega⟩
        · dsimp only
          rw [List.getElem?_append_left (by omega)]
          exact a8 j hj
        · rcases List.mem_append.1 hc with hc | hc
          · exact a9 c hc
          · have : c = (p1 % (i + 1), b) := by simpa using hc
            subst this
            exact ⟨hm1, hm4, hne⟩
        · dsimp only
          rw [List.length_append]
          exact r1.frame (by simp only [next_bump]; omega) (fun _ _ => rfl)
      all_goals exact ⟨nofun, _, rfl, i + 1, l, L, rfl, ⟨by omega, a2, a3, by omega, fun j hj => a8 j (by omega), a9⟩, a5.frame (by simp only [next_bump]; omega) (fun _ _ => rfl), a6, a7.up rfl (by simp only [next_bump]; omega)⟩
    · repeat' (first | refine WK.seq ?_ | refine WK.ret ?_ | refine WK.exit ?_ | (apply WK.reg; (· exact lnn)) | refine WKO.nil ?_ | ((first | apply WKO.op); (· first | exact k_mv rfl | exact opA); (· rfl)) | ((first | apply WKO.gnoT); (· rfl); (· exact dcd)) | refine pN ?_ | refine pX ?_ | refine bX ?_ | (apply WK.condF; (· rfl); (· exact dcd)) | fail)
      all_goals exact ⟨nofun, _, rfl, i + 1, l, L, rfl, ⟨by omega, a2, a3, by omega, fun j hj => a8 j (by omega), a9⟩, a5.frame (by simp only [next_bump]; omega) (fun _ _ => rfl), a6, a7.up rfl (by simp only [next_bump]; omega)⟩
end Go.Proofs.Ytpbighinamljbaa.PA
namespace Go.Proofs.Ytpbighinamljbaa.PA
open Go Go.Eng Go.Proofs
structure Gph (n : Nat) (l : Prs) : Prop where
  n1 : 1 ≤ n
  n10 : n ≤ 10
  len : l.length ≤ 60
  egs : Egs n l
  con : connN (nearN n l) = true
theorem con_tree {n : Nat} {l : Prs} (h1 : 1 ≤ n) (h2 : n ≤ 10) (hq : Egs n l) (ht : ∀ j, j + 1 < n → ∃ a, (a, j + 1) ∈ l ∧ a ≤ j) : connN (nearN n l) = true := by
  have hl := nearN_len n l
  have hlt := nearN_lt2 hq
  have hb : ∀ k, k < n → ∀ i, i ≤ k → (ballN (nearN n l) k 1).testBit i = true := by
    intro k
    induction k with
    | zero =>
      intro _ i hi
      obtain rfl : i = 0 := by omega
      rw [ballN]
      decide
    | succ k ih =>
      intro hk i hi
      rw [ballN_step, Nat.testBit_or]
      by_cases e : i ≤ k
      · rw [ih (by omega) i e]; rfl
      · obtain rfl : i = k + 1 := by omega
        obtain ⟨a, ha, hak⟩ := ht k hk
        have h3 := ih (by omega) a hak
        have h4 := around_in (N := nearN n l) (set := ballN (nearN n l) k 1) (i := a) (by omega) (by rw [bt_eq]; exact h3) (k + 1) ((nearN_bit hq a (k + 1)).2 ⟨_, ha, .inl ⟨rfl, rfl⟩⟩)
        rw [h4]
        simp
  have hfull : ClN (nearN n l) (2 ^ n - 1) := fun i _ _ => inn_full (getD_lt2 hlt i)
  have h1f : Inn 1 (2 ^ n - 1) := inn_full (by
    have : 2 ^ 1 ≤ 2 ^ n := Nat.pow_le_pow_right (by omega) h1
    omega)
  rw [connN, decide_eq_true_iff, hl]
  refine Inn.eq (ball_cl hfull h1f) fun i hi => ?_
  rw [Nat.testBit_two_pow_sub_one, decide_eq_true_iff] at hi
  have h5 := hb (n - 1) (by omega) i (by omega)
  have : ballN (nearN n l) n 1 = ballN (nearN n l) (n - 1 + 1) 1 := by rw [Nat.sub_add_cancel h1]
  rw [this, ballN_step, Nat.testBit_or, h5]
  rfl
def zP (l : Prs) : ZPrs := l.map fun c => ((c.1 : Int), (c.2 : Int))
theorem zP_nE (l : Prs) : (zP l).map nE = l := by
  rw [zP, List.map_map]
  conv => rhs; rw [← List.map_id l]
  exact List.map_congr_left fun c _ => rfl
theorem zP_len (l : Prs) : (zP l).length = l.length := by simp [zP]
theorem zP_zc (l : Prs) : zc (zP l) = prsC l := zc_prs l
theorem gph_N (n : Nat) (l : Prs) : NZ (n : Int) (zP l) = nearN n l := by rw [NZ, zP_nE]; rfl
theorem gph_gr {n : Nat} {l : Prs} (h1 : 1 ≤ n) (h2 : n ≤ 10) (h3 : l.length ≤ 60) (h4 : Egs n l) : grZ (n : Int) (zP l) = true := by
  simp only [grZ, Bool.and_eq_true, decide_eq_true_eq, zP_len]
  refine ⟨⟨by omega, h3⟩, List.all_eq_true.2 fun p hp => ?_⟩
  obtain ⟨c, hc, rfl⟩ := List.mem_map.1 hp
  have := h4 c hc
  simp only [okE, decide_eq_true_eq]
  omega
theorem Gph.cg {n : Nat} {l : Prs} (h : Gph n l) : cgZ (n : Int) (zP l) = true := by
  rw [cgZ, gph_N, h.con, gph_gr h.n1 h.n10 h.len h.egs]
  rfl
theorem Gph.nok {n : Nat} {l : Prs} (h : Gph n l) : NOk (nearN n l) := by
  have := (cg_ok h.cg).1
  rwa [gph_N] at this
theorem RdR.zP {H : AHeap} {X : AV} {l : Prs} (h : RdR 2 H X l.length (prsC l)) : RdR 2 H X (zP l).length (zc (PA.zP l)) := by
  rw [zP_len, zP_zc]
  exact h
section
variable {cf : CF} {n : Nat} {H : AHeap} {l : KL0} {x y : XO}
end
end Go.Proofs.Ytpbighinamljbaa.PA
namespace Go.Proofs.Ytpbighinamljbaa.PA
open Go Go.Eng Go.Proofs
theorem g_22 {k : Nat} {H : AHeap} {x : Prs} (hx : ∀ p ∈ x, p.1 < 256 ∧ p.2 < 256) :
    ∃ u H', cfG (k + 1) 22 [.imm (arrC x) x.length false] H = some (u, H') ∧ ∃ n l L, u = .tup [nA n, L] ∧ MadeR n l ∧ RowE 2 H' L l.length (prsC l) ∧ (∀ j, L.own = some j → H.next ≤ j) ∧ Kp H H' :=
  cfG_run rfl rfl (x22 hx (by omega))
end Go.Proofs.Ytpbighinamljbaa.PA
namespace Go.Proofs.Ytpbighinamljbaa.PA
open Go Go.Eng Go.Proofs
section
variable {cf : CF} {n : Nat} {H : AHeap} {l : KL0} {x y : XO}
theorem k_app {z bytes : Nat} {u v w : AV} {H1 : AHeap} (hx : evK l x = some u) (hy : evK l y = some v) (h : appA H z bytes u v = .eff w H1) : XV cf l H n (.app z bytes x y) = some (w, H1) := k_any (by simp only [xval, xop, hx, hy, h])
end
end Go.Proofs.Ytpbighinamljbaa.PA
namespace Go.Proofs.Ytpbighinamljbaa.PA
open Go Go.Eng Go.Proofs
def OutR (H : AHeap) (v : AV) (cs : List Nat) : Prop := Row 1 H v cs.length (cs.map nA) ∨ ∃ i a, v = .sl i 0 1 1 ∧ cs = [a] ∧ H.get i = some (.cells [nA a] none) ∧ i < H.next
theorem OutR.rd {H : AHeap} {v : AV} {cs : List Nat} (h : OutR H v cs) : RdR 1 H v cs.length (cs.map nA) := by
  rcases h with h | ⟨i, a, rfl, rfl, h1, h2⟩
  · exact RdR.of (.inl h)
  · exact ⟨rfl, .inr (.inr ⟨i, 1, _, _, rfl, h2, h1, rfl, by simp⟩)⟩
theorem OutR.frame {H H' : AHeap} {v : AV} {cs : List Nat} (h : OutR H v cs) (hn : H.next ≤ H'.next) (hg : ∀ i, v.own = some i → H'.get i = H.get i) : OutR H' v cs := by
  rcases h with h | ⟨i, a, rfl, rfl, h1, h2⟩
  · exact .inl (h.frame hn hg)
  · exact .inr ⟨i, a, rfl, rfl, (hg i rfl).trans h1, by omega⟩
theorem OutR.own_lt {H : AHeap} {v : AV} {cs : List Nat} (h : OutR H v cs) {i : Nat} (hi : v.own = some i) : i < H.next := by
  rcases h with h | ⟨i, a, rfl, rfl, h1, h2⟩
  · exact h.own_lt hi
  · cases hi; exact h2
theorem OutR.app {H : AHeap} {v : AV} {cs : List Nat} {j a : Nat} (h : OutR H v cs) (hl : cs.length < 5000) (hj : H.get j = some (.cells [nA a] none)) :
    ∃ v' H', appA H 1 8 v (.sl j 0 1 1) = .eff v' H' ∧ OutR H' v' (cs ++ [a]) ∧ H.next ≤ H'.next ∧ (∀ k, k < H.next → v.own ≠ some k → H'.get k = H.get k) ∧ (∀ i, v'.own = some i → v.own = some i ∨ H.next ≤ i) := by
  have hs : srcA H 1 1 (.sl j 0 1 1) = some [nA a] := by simp [srcA, hj]
  rcases h with h | ⟨i, b, rfl, rfl, h1, h2⟩
  · obtain ⟨v', H', q1, q2, q3, q4, q5⟩ := h.app (bytes := 8) (n := 1) (y := .sl j 0 1 1) (new := [nA a]) (by omega) (by omega) (by omega) (by omega) rfl hs rfl rfl
    refine ⟨v', H', q1, .inl ?_, q3, q4, q5⟩
    rw [List.length_append, List.map_append]
    exact q2
  · have hc : Clp 1 H (.sl i 0 1 1) 1 [nA b] := ⟨by omega, .inr ⟨i, [nA b], none, rfl, h1, rfl, by simp⟩⟩
    refine ⟨_, _, hc.app (by omega) hj rfl rfl, .inl ?_, Nat.le_succ _, fun k hk _ => by rw [AHeap.get_add, if_neg (by omega)], fun i hi => ?_⟩
    · exact Row.one (z := 1) (by rw [AHeap.get_add, if_pos rfl]; rfl) (Nat.lt_succ_self _) rfl
    · have : H.next = i := by simpa [AV.own] using hi
      omega
def CenA (N : List Nat) (cs : List Nat) (best : Nat) : Prop :=
  ∃ T : Nat → Nat, (∀ s, s < N.length → IsT N s (T s)) ∧ cs = (List.range N.length).filter (fun s => T s == best) ∧ (∀ s, s < N.length → best ≤ T s) ∧ ∃ s, s < N.length ∧ T s = best
def CenR (H0 : AHeap) (n : Int) (l : ZPrs) (v : AV) (H' : AHeap) : Prop :=
  (cgZ n l = false ∧ v = .tup [.nils, nA 0, nA 1] ∧ Kp H0 H') ∨ (cgZ n l = true ∧ ∃ C cs best, v = .tup [C, nA best, nA 0] ∧ CenA (NZ n l) cs best ∧ OutR H' C cs ∧ (∀ i, C.own = some i → H0.next ≤ i) ∧ Kp H0 H')
theorem read_cases {H0 H' : AHeap} {n : Int} {l : ZPrs} {v : AV} (h : ReadR H0 n l v H') :
    (cgZ n l = false ∧ (∃ p, v = .tup [p, .bool false]) ∧ Kp H0 H') ∨ (cgZ n l = true ∧ ∃ G M, v = .tup [.ptr G 0, .bool true] ∧ GrH H' G M (NZ n l).length (NZ n l) ∧ Kp H0 H' ∧ NOk (NZ n l) ∧ n = (NZ n l).length) := by
  rcases h with ⟨hg, rfl, hk, hn⟩ | ⟨hg, m, q, G, M, rfl, m1, m2, hz, hql, hqE, rfl, T, hF⟩
  · exact .inl ⟨by simp [cgZ, hg], ⟨_, rfl⟩, hn, hk⟩
  · have hq := nE_of hz
    have hN : NZ (m : Int) l = nearN m q := by rw [NZ, hq]; rfl
    have hcs := conS_near m1 m2 hqE
    have hl : (NZ (m : Int) l).length = m := by rw [hN, nearN_len]
    have hb : conS (nearN m q) = cgZ (m : Int) l := by rw [cgZ, hg, hN, hcs, Bool.true_and]
    rw [hb]
    cases hc : cgZ (m : Int) l with
    | false => exact .inl ⟨rfl, ⟨_, rfl⟩, hF.kp⟩
    | true =>
      refine .inr ⟨rfl, G, M, rfl, ?_, hF.kp, (cg_ok hc).1, by rw [hl]⟩
      rw [hl, hN]
      exact ⟨hF.obj _ (.head _), hF.obj _ (.tail _ (.head _)), Nat.lt_of_lt_of_le (hF.lt _ (.head _)) hF.le, Nat.lt_of_lt_of_le (hF.lt _ (.tail _ (.head _))) hF.le⟩
theorem filter_succ (p : Nat → Bool) (n : Nat) : (List.range (n + 1)).filter p = (List.range n).filter p ++ if p n = true then [n] else [] := by
  rw [List.range_succ, List.filter_append]
  congr 1
  rw [List.filter_cons, List.filter_nil]
set_option maxHeartbeats 1000000 in
theorem x18 {kk fuel : Nat} {H0 : AHeap} {n : Int} {l : ZPrs} {X : AV} (hX : RdR 2 H0 X l.length (zc l)) (hcl : Go.Eng.Clean H0) (hfu : 20 < fuel)
    (h46 : ∀ H, RdR 2 H X l.length (zc l) → ∃ v H', cfG kk 46 [.int .i64 n, X] H = some (v, H') ∧ ReadR H n l v H')
    (h47 : ∀ H G M s N, GrH H G M N.length N → NOk N → s < N.length → Go.Eng.Clean H → ∃ u H', cfG kk 47 [.ptr G 0, nA s] H = some (u, H') ∧ SchR H N s u H') :
    ∃ u H', xfunc (cfG kk) fuel L18 [.int .i64 n, X] H0 = some (u, H') ∧ CenR H0 n l u H' := by
  refine xfunc_ofK rfl (by show 2 ≤ 48; omega) ?_
  have hcc := cfG_clean kk
  unfold L18
  dsimp only
  have hk0 : Kp H0 ((H0.bump 3).bump 8) := (Kp.bump _).trans (Kp.bump _)
  repeat' (first | refine WK.seqC (by assumption) ?_ | intro (_ : CleanTo _ _) | (apply WK.reg; (· exact lnn)) | (refine WKO.callV rfl rfl rfl (h46 _ (hX.kp (by apply Kp.eqm; (· rfl); (· simp only [next_bump]; omega)))) ?_; rintro v1 H1 hv1) | refine WKO.nil ?_ | ((first | apply WKO.op); (· first | exact k_mv rfl); (· rfl)) | refine pN ?_ | fail)
  rename_i c1
  rcases read_cases hv1 with ⟨hb, ⟨p, rfl⟩, hk⟩ | ⟨hb, G, M, rfl, hg, hk, hN, hn⟩
  · repeat' (first | refine WK.seqC (by assumption) ?_ | intro (_ : CleanTo _ _) | refine WK.ret ?_ | (apply WK.reg; (· exact lnn)) | refine WKO.nil ?_ | ((first | apply WKO.op); (· first | exact k_mv rfl | exact opA); (· rfl)) | refine pN ?_ | refine pR ?_ | (apply WK.condT; (· rfl); (· exact dcd)) | fail)
    exact ⟨nofun, _, rfl, .inl ⟨hb, rfl, (hk0.trans hk).up rfl (by simp only [next_bump]; omega)⟩⟩
  · have hTex : ∀ s, ∃ k, s < (NZ n l).length → k + 1 ≤ (NZ n l).length ∧ IsT (NZ n l) s k := fun s => by
      by_cases h : s < (NZ n l).length
      · obtain ⟨k, h1, h2⟩ := isT_ex hN.sym hN.l10 hN.lt hN.con h
        exact ⟨k, fun _ => ⟨h1, h2⟩⟩
      · exact ⟨0, fun q => absurd q h⟩
    obtain ⟨T, hT⟩ := Classical.axiomOfChoice hTex
    generalize hNN : NZ n l = N at *
    subst hn
    have hl10 := hN.l10
    repeat' (first | refine WK.seqC (by assumption) ?_ | intro (_ : CleanTo _ _) | refine WK.skip ?_ | refine WK.block ?_ | (apply WK.reg; (· exact lnn)) | refine WKO.nil ?_ | ((first | apply WKO.op); (· first | exact k_mv rfl | exact opA); (· rfl)) | refine pN ?_ | (apply WK.condF; (· rfl); (· exact dcd)) | fail)
    rename_i c2 _ _ _ _ _
    have hC1 : Go.Eng.Clean H1 := c2.1 (c1.1 hcl)
    refine WK.loop (α := Nat × Nat × List Nat × AV) (fun p => [(0, nA N.length), (7, .ptr G 0), (9, p.2.2.2), (10, nA p.2.1), (22, nA N.length), (23, nA p.1)])
      (fun p H => p.1 ≤ N.length ∧ p.2.2.1 = (List.range p.1).filter (fun j => T j == p.2.1) ∧ (∀ j, j < p.1 → p.2.1 ≤ T j) ∧ (p.1 = 0 → p.2.1 = N.length) ∧ (0 < p.1 → ∃ j, j < p.1 ∧ T j = p.2.1) ∧ p.2.1 ≤ N.length ∧ OutR H p.2.2.2 p.2.2.1 ∧ (∀ i, p.2.2.2.own = some i → H1.next ≤ i) ∧ Kp H1 H ∧ Go.Eng.Clean H)
      (fun p => N.length - p.1) (0, N.length, [], .nils) (.cons rfl <| .cons rfl <| .cons rfl <| .cons rfl <| .cons rfl <| .cons rfl <| .nil _) ⟨Nat.zero_le _, rfl, fun j hj => absurd hj (Nat.not_lt_zero _), fun _ => rfl, fun h => absurd h (Nat.lt_irrefl _), Nat.le_refl _, .inl (Row.nil 1 _), nofun, Kp.eqm rfl (by simp only [next_bump]; omega), clean_eqm hC1 rfl (by simp only [next_bump]; omega)⟩ (by dsimp only; omega) ?_
    rintro ⟨s, best, cs, out⟩ H ⟨a1, a2, a3, a4, a5, a6, a7, a8, a9, a10⟩
    dsimp only at a1 a2 a3 a4 a5 a6 a7 a8 a9 a10 ⊢
    have h01 : Kp H0 H1 := hk0.trans hk
    have h9n := a9.1
    have h1n := h01.1
    by_cases hs : s < N.length
    · refine WK.cl hcc ?_
      obtain ⟨hTs, hIs⟩ := hT s hs
      have hfs := filter_succ (fun j => T j == best) s
      repeat' (first | refine WK.seqC (by assumption) ?_ | intro (_ : CleanTo _ _) | refine WK.skip ?_ | refine WK.block ?_ | (apply WK.reg; (· exact lnn)) | refine WKO.nil ?_ | ((first | apply WKO.op); (· first | exact k_mv rfl | exact opA); (· rfl)) | refine pN ?_ | (apply WK.condT; (· rfl); (· exact dcd)) | fail)
      refine WKO.callV rfl rfl rfl (h47 _ G M s N (hg.up ?_) hN hs (clean_eqm a10 ?_ ?_)) ?_
      · exact a9.trans (Kp.eqm rfl (by simp only [next_bump]; omega))
      · rfl
      · simp only [next_bump]; omega
      rintro u H3 ⟨k, ls, r1, r2, r3, r4, r5, r6⟩
      have hkT : ls.length = T s := by rw [r2]; exact r1.uniq hIs
      have hk3 : Kp H H3 := Kp.trans (Kp.eqm (H' := (((H.bump 1).bump 2).bump 5)) rfl (by simp only [next_bump]; omega)) r6
      have hO3 : OutR H3 out cs := a7.frame hk3.1 (fun i q => hk3.2 i (a7.own_lt q))
      have hk13 := a9.trans hk3
      have h3n := hk3.1
      have hlen : lenN u = some (T s) := by rw [r3.len, hkT]
      repeat' (first | refine WK.seqC (by assumption) ?_ | intro (_ : CleanTo _ _) | refine WK.skip ?_ | refine WK.block ?_ | (apply WK.reg; (· exact lnn)) | refine WKO.nil ?_ | ((first | apply WKO.op); (· first | exact k_mv rfl | exact k_lenL rfl hlen | exact opA); (· rfl)) | refine pN ?_ | refine bN ?_ | (apply WK.condD; (· rfl); all_goals intro _) | fail)
      · rename_i hlt
        obtain ⟨H4, hH4⟩ : ∃ H4, ((H3.bump 4).bump 5).set ((H3.bump 4).next + 1 + 1) (some (.cells [nA s] none)) = H4 := ⟨_, rfl⟩
        have hn4 : H4.next = H3.next + 9 := by rw [← hH4]; rfl
        have hN4 : H4.get ((H3.bump 4).next + 1 + 1) = some (.cells [nA s] none) := by rw [← hH4, AHeap.get_set, if_pos rfl]
        have hg4 : ∀ k, k < H3.next → H4.get k = H3.get k := fun k hk => by
          rw [← hH4, AHeap.get_set, if_neg (by simp only [next_bump]; omega)]
          rfl
        refine WKO.op (k_bs1 rfl rfl) rfl ?_
        rw [hH4]
        repeat' (first | intro (_ : CleanTo _ _) | (apply WK.reg; (· exact lnn)) | refine WKO.nil ?_ | ((first | apply WKO.op); (· first | exact k_mv rfl | exact opA); (· rfl)) | refine pN ?_ | refine bN ?_ | fail)
        rename_i c9
        refine ⟨(s + 1, T s, [s], .sl ((H3.bump 4).next + 1 + 1) 0 1 1), (.cons rfl <| .cons rfl <| .cons rfl <| .cons rfl <| .cons rfl <| .cons rfl <| .nil _), ⟨hs, ?_, fun j hj => ?_, fun q => absurd q (by dsimp only; omega), fun _ => ⟨s, by dsimp only; omega, rfl⟩, by dsimp only; omega, .inr ⟨_, s, rfl, rfl, hN4, by simp only [next_bump]; omega⟩, fun i hi => ?_, ⟨by simp only [next_bump]; omega, fun j hj => (hg4 j (by omega)).trans (hk13.2 j hj)⟩, c9.1 a10⟩, by dsimp only; omega⟩
        · dsimp only
          rw [filter_succ, if_pos (by simp)]
          have : (List.range s).filter (fun j => T j == T s) = [] := by
            rw [List.filter_eq_nil_iff]
            intro j hj hjT
            have h1 := a3 j (List.mem_range.1 hj)
            have h2 : T j = T s := by simpa using hjT
            omega
          rw [this]
          rfl
        · dsimp only at hj ⊢
          by_cases e : j < s
          · have := a3 j e; omega
          · obtain rfl : j = s := by omega
            exact Nat.le_refl _
        · have : (H3.bump 4).next + 1 + 1 = i := by simpa [AV.own] using hi
          simp only [next_bump] at this
          omega
      · rename_i hlt _ heq
        obtain ⟨H4, hH4⟩ : ∃ H4, (((H3.bump 4).bump 4).bump 5).set (((H3.bump 4).bump 4).next + 1 + 1) (some (.cells [nA s] none)) = H4 := ⟨_, rfl⟩
        have hn4 : H4.next = H3.next + 13 := by rw [← hH4]; rfl
        have hN4 : H4.get (((H3.bump 4).bump 4).next + 1 + 1) = some (.cells [nA s] none) := by rw [← hH4, AHeap.get_set, if_pos rfl]
        have hg4 : ∀ k, k < H3.next → H4.get k = H3.get k := fun k hk => by
          rw [← hH4, AHeap.get_set, if_neg (by simp only [next_bump]; omega)]
          rfl
        have hcl : cs.length < 5000 := by
          rw [a2]
          exact Nat.lt_of_le_of_lt (List.length_filter_le ..) (by simp; omega)
        have hO4 : OutR H4 out cs := hO3.frame (by omega) (fun i q => hg4 i (hO3.own_lt q))
        obtain ⟨v', H5, e5, O5, hn5, hg5, ho5⟩ := hO4.app hcl hN4
        refine WKO.op (k_bs1 rfl rfl) rfl ?_
        rw [hH4]
        refine WKO.op (k_app rfl rfl e5) rfl ?_
        repeat' (first | intro (_ : CleanTo _ _) | (apply WK.reg; (· exact lnn)) | refine WKO.nil ?_ | ((first | apply WKO.op); (· first | exact k_mv rfl | exact opA); (· rfl)) | refine pN ?_ | refine bN ?_ | fail)
        rename_i c9
        refine ⟨(s + 1, best, cs ++ [s], v'), (.cons rfl <| .cons rfl <| .cons rfl <| .cons rfl <| .cons rfl <| .cons rfl <| .nil _), ⟨hs, ?_, fun j hj => ?_, fun q => absurd q (by dsimp only; omega), fun _ => ⟨s, by dsimp only; omega, heq⟩, a6, O5.frame (by simp only [next_bump]; omega) (fun _ _ => rfl), fun i hi => ?_, ⟨by simp only [next_bump]; omega, fun j hj => ?_⟩, c9.1 a10⟩, by dsimp only; omega⟩
        · dsimp only
          rw [filter_succ, if_pos (by simpa using heq), ← a2]
        · dsimp only at hj ⊢
          by_cases e : j < s
          · exact a3 j e
          · obtain rfl : j = s := by omega
            omega
        · rcases ho5 i hi with h | h
          · exact a8 i h
          · omega
        · show H5.get j = _
          rw [hg5 j (by omega) (fun q => by have := a8 j q; omega), hg4 j (by omega)]
          exact hk13.2 j hj
      · rename_i hlt _ heq _ c9
        refine ⟨(s + 1, best, cs, out), (.cons rfl <| .cons rfl <| .cons rfl <| .cons rfl <| .cons rfl <| .cons rfl <| .nil _), ⟨hs, ?_, fun j hj => ?_, fun q => absurd q (by dsimp only; omega), fun _ => ?_, a6, hO3.frame (by simp only [next_bump]; omega) (fun _ _ => rfl), a8, hk13.trans (Kp.eqm rfl (by simp only [next_bump]; omega)), c9.1 a10⟩, by dsimp only; omega⟩
        · dsimp only
          rw [filter_succ, if_neg (by simpa using heq), List.append_nil, ← a2]
        · dsimp only at hj ⊢
          by_cases e : j < s
          · exact a3 j e
          · obtain rfl : j = s := by omega
            omega
        · rcases Nat.eq_zero_or_pos s with e | e
          · have := a4 e
            omega
          · obtain ⟨j, h1, h2⟩ := a5 e
            exact ⟨j, by dsimp only; omega, h2⟩
    · repeat' (first | refine WK.seqC (by assumption) ?_ | intro (_ : CleanTo _ _) | refine WK.ret ?_ | refine WK.exit ?_ | (apply WK.reg; (· exact lnn)) | refine WKO.nil ?_ | ((first | apply WKO.op); (· first | exact k_mv rfl | exact opA); (· rfl)) | refine pN ?_ | refine pX ?_ | refine bX ?_ | (apply WK.condF; (· rfl); (· exact dcd)) | fail)
      have hsN : s = N.length := by omega
      have hcen : CenA N cs best := ⟨T, fun j hj => (hT j hj).2, by rw [a2, hsN], fun j hj => a3 j (by omega), by
        obtain ⟨j, h1, h2⟩ := a5 (by have := hN.l1; omega)
        exact ⟨j, by omega, h2⟩⟩
      exact ⟨nofun, _, rfl, .inr ⟨hb, out, cs, best, rfl, by rw [hNN]; exact hcen, a7.frame (by simp only [next_bump]; omega) (fun _ _ => rfl), fun i hi => Nat.le_trans h1n (a8 i hi), (h01.trans a9).trans (Kp.eqm rfl (by simp only [next_bump]; omega))⟩⟩
section
variable {k : Nat} {H : AHeap} {n : Int} {l : ZPrs} {X : AV}
theorem g_46 {k : Nat} {l : ZPrs} {X : AV} (hX : RdR 2 H X l.length (zc l)) : ∃ u H', cfG (k + 1) 46 [.int .i64 n, X] H = some (u, H') ∧ ReadR H n l u H' :=
  cfG_run rfl rfl (x46 hX (by omega) (fun H m i h1 h2 => g_64 h1 h2) (fun H m h => g_67 h))
theorem g_18 (hX : RdR 2 H X l.length (zc l)) (hcl : Go.Eng.Clean H) : ∃ u H', cfG (k + 15) 18 [.int .i64 n, X] H = some (u, H') ∧ CenR H n l u H' :=
  cfG_run rfl rfl (x18 hX hcl (by omega) (fun H h => g_46 h) g_47')
end
end Go.Proofs.Ytpbighinamljbaa.PA
namespace Go.Proofs.Ytpbighinamljbaa.PA
open Go Go.Eng Go.Proofs
structure Ren (n : Nat) (σ τ : Nat → Nat) : Prop where
  s : ∀ i, i < n → σ i < n
  t : ∀ i, i < n → τ i < n
  ts : ∀ i, i < n → τ (σ i) = i
  st : ∀ i, i < n → σ (τ i) = i
theorem Ren.symm {n : Nat} {σ τ : Nat → Nat} (h : Ren n σ τ) : Ren n τ σ := ⟨h.t, h.s, h.st, h.ts⟩
structure RenG (n : Nat) (σ τ : Nat → Nat) (N N' : List Nat) : Prop where
  r : Ren n σ τ
  l : N.length = n
  l' : N'.length = n
  b : ∀ m ∈ N, m < 2 ^ n
  b' : ∀ m ∈ N', m < 2 ^ n
  e : ∀ i j, i < n → j < n → (N.getD i 0).testBit j = (N'.getD (σ i) 0).testBit (σ j)
theorem RenG.symm {n : Nat} {σ τ : Nat → Nat} {N N' : List Nat} (h : RenG n σ τ N N') : RenG n τ σ N' N :=
  ⟨h.r.symm, h.l', h.l, h.b', h.b, fun i j hi hj => by rw [h.e _ _ (h.r.t i hi) (h.r.t j hj), h.r.st i hi, h.r.st j hj]⟩
theorem range_filter_pw (p : Nat → Bool) (n : Nat) : ((List.range n).filter p).Pairwise (· < ·) := List.pairwise_lt_range.sublist List.filter_sublist
theorem ris_filter (p : Nat → Bool) (n : Nat) : risB n ((List.range n).filter p) = true := by
  rw [risB, List.all_eq_true]
  intro i hi
  have hi := List.mem_range.1 hi
  have h1 : ((List.range n).filter p).getD i 0 < n := by
    rw [List.getD_eq_getElem?_getD, List.getElem?_eq_getElem hi]
    exact List.mem_range.1 (List.mem_filter.1 (List.getElem_mem hi)).1
  rw [Bool.and_eq_true, Bool.or_eq_true, decide_eq_true_iff, decide_eq_true_iff, decide_eq_true_iff]
  refine ⟨h1, ?_⟩
  rcases Nat.eq_zero_or_pos i with e | e
  · exact .inl e
  · right
    have := List.pairwise_iff_getElem.1 (range_filter_pw p n) (i - 1) i (by omega) hi (by omega)
    rw [List.getD_eq_getElem?_getD, List.getD_eq_getElem?_getD, List.getElem?_eq_getElem hi, List.getElem?_eq_getElem (by omega : i - 1 < _)]
    exact this
theorem fold_bits : ∀ (N : List Nat) (acc j : Nat), (N.foldl (fun a v => a ||| 2 ^ v) acc).testBit j = true ↔ acc.testBit j = true ∨ j ∈ N
  | [], acc, j => by simp
  | v :: N, acc, j => by
    rw [List.foldl_cons, fold_bits N, Nat.testBit_or, Nat.testBit_two_pow, List.mem_cons, Bool.or_eq_true, decide_eq_true_iff, or_assoc]
    constructor
    · rintro (h | h | h)
      · exact .inl h
      · exact .inr (.inl h.symm)
      · exact .inr (.inr h)
    · rintro (h | h | h)
      · exact .inl h
      · exact .inr (.inl h.symm)
      · exact .inr (.inr h)
theorem bitsN_bit {N : List Nat} {j : Nat} : (bitsN N).testBit j = true ↔ j ∈ N := by
  rw [bitsN, fold_bits]
  simp
theorem cen_mem {N cs : List Nat} {best : Nat} (h : CenA N cs best) {j : Nat} : j ∈ cs ↔ j < N.length ∧ IsT N j best := by
  obtain ⟨T, h1, h2, h3, h4⟩ := h
  rw [h2, List.mem_filter, List.mem_range]
  constructor
  · rintro ⟨q1, q2⟩
    have q2 : T j = best := by simpa using q2
    exact ⟨q1, by rw [← q2]; exact h1 j q1⟩
  · rintro ⟨q1, q2⟩
    exact ⟨q1, by simpa using (h1 j q1).uniq q2⟩
theorem cen_ris {N cs : List Nat} {best : Nat} (h : CenA N cs best) : risB N.length cs = true := by
  obtain ⟨T, h1, h2, h3, h4⟩ := h
  rw [h2]
  exact ris_filter _ _
theorem cen_lt {N cs : List Nat} {best : Nat} (h : CenA N cs best) : ∀ v ∈ cs, v < N.length := fun v hv => ((cen_mem h).1 hv).1
theorem cen_len {N cs : List Nat} {best : Nat} (h : CenA N cs best) : cs.length ≤ N.length := by
  obtain ⟨T, h1, h2, h3, h4⟩ := h
  rw [h2]
  exact Nat.le_trans (List.length_filter_le ..) (by simp)
theorem cen_least {N cs : List Nat} {best : Nat} (h : CenA N cs best) {s k : Nat} (hs : s < N.length) (hk : IsT N s k) : best ≤ k := by
  obtain ⟨T, h1, h2, h3, h4⟩ := h
  rw [hk.uniq (h1 s hs)]
  exact h3 s hs
theorem cen_ex {N cs : List Nat} {best : Nat} (h : CenA N cs best) : ∃ s, s < N.length ∧ IsT N s best := by
  obtain ⟨T, h1, h2, h3, s, h4, h5⟩ := h
  exact ⟨s, h4, by rw [← h5]; exact h1 s h4⟩
theorem nodup_len {l m : List Nat} (h : l.Nodup) (g : ∀ a ∈ l, a ∈ m) : l.length ≤ m.length := by
  induction l generalizing m with
  | nil => exact Nat.zero_le _
  | cons a l ih =>
    rw [List.nodup_cons] at h
    have h1 := g a (by simp)
    have := ih (m := m.erase a) h.2 (fun b hb => (List.mem_erase_of_ne (fun e : b = a => h.1 (by rw [← e]; exact hb))).2 (g b (by simp [hb])))
    have h2 := List.length_erase_of_mem h1
    have h3 : 0 < m.length := List.length_pos_of_mem h1
    simp only [List.length_cons]
    omega
end Go.Proofs.Ytpbighinamljbaa.PA
namespace Go.Proofs.Ytpbighinamljbaa.PA
open Go Go.Eng Go.Proofs
theorem mask_ex (p : Nat → Prop) : ∀ n, ∃ C, C < 2 ^ n ∧ ∀ i, C.testBit i = true ↔ i < n ∧ p i
  | 0 => ⟨0, by simp, fun i => by simp⟩
  | n + 1 => by
    obtain ⟨C, h1, h2⟩ := mask_ex p n
    have hlt : C < 2 ^ (n + 1) := Nat.lt_of_lt_of_le h1 (Nat.pow_le_pow_right (by omega) (by omega))
    by_cases h : p n
    · refine ⟨C ||| 2 ^ n, Nat.or_lt_two_pow hlt (Nat.pow_lt_pow_right (by omega) (by omega)), fun i => ?_⟩
      rw [Nat.testBit_or, Nat.testBit_two_pow, Bool.or_eq_true, h2, decide_eq_true_iff]
      constructor
      · rintro (⟨q1, q2⟩ | rfl)
        · exact ⟨by omega, q2⟩
        · exact ⟨by omega, h⟩
      · rintro ⟨q1, q2⟩
        by_cases e : n = i
        · exact .inr e
        · exact .inl ⟨by omega, q2⟩
    · refine ⟨C, hlt, fun i => ?_⟩
      rw [h2]
      constructor
      · rintro ⟨q1, q2⟩; exact ⟨by omega, q2⟩
      · rintro ⟨q1, q2⟩
        refine ⟨?_, q2⟩
        by_cases e : i = n
        · subst e; exact absurd q2 h
        · omega
theorem closed_empty {N : List Nat} (hN : NOk N) (p : Nat → Prop) (hp : ∀ a b, a < N.length → p a → (N.getD a 0).testBit b = true → p b) {u w : Nat} (hu : u < N.length) (hnu : ¬ p u) (hw : w < N.length) : ¬ p w := fun h => by
  obtain ⟨C, h1, h2⟩ := mask_ex p N.length
  have hc : ClN N C := fun i hi hb j hj => by
    rw [bt_eq] at hb
    exact (h2 j).2 ⟨bit_lt (getD_lt2 hN.lt i) hj, hp i j hi ((h2 i).1 hb).2 hj⟩
  have := cl_full hN.sym hN.lt hN.con hw ((h2 w).2 ⟨hw, h⟩) hc h1
  have hb : C.testBit u = true := by rw [this, Nat.testBit_two_pow_sub_one]; exact decide_eq_true hu
  exact hnu ((h2 u).1 hb).2
def Inf (N : List Nat) (k q S : Nat) : Prop := ∃ B, Rcs N k (2 ^ q) B ∧ Inn S B
theorem Inf.le {N : List Nat} {k j q S : Nat} (h : Inf N k q S) (hj : k ≤ j) : Inf N j q S := by
  obtain ⟨B, h1, h2⟩ := h
  exact ⟨B, h1.le hj, h2⟩
structure Sd (N : List Nat) (u q S : Nat) : Prop where
  lt : S < 2 ^ N.length
  hq : S.testBit q = true
  hu : S.testBit u = false
  e : ∀ a b, S.testBit a = true → S.testBit b = false → (N.getD a 0).testBit b = true → a = q ∧ b = u
theorem Rcs.unfront {N : List Nat} : ∀ {k A B : Nat}, Rcs N (k + 1) A B → ∃ C, St1 N A C ∧ Rcs N k C B
  | 0, A, B, ⟨C, h1, h2⟩ => by
    have : A = C := h1
    subst this
    exact ⟨B, h2, rfl⟩
  | k + 1, A, B, ⟨D, h1, h2⟩ => by
    obtain ⟨C, h3, h4⟩ := Rcs.unfront h1
    exact ⟨C, h3, D, h4, h2⟩
section
variable {N : List Nat} {u q S : Nat}
theorem gate (hY : Sym N) (hS : Sd N u q S) {X C : Nat} (hC : St1 N X C) (hX : ∀ i, S.testBit i = true → X.testBit i = false) {s : Nat} (hs : S.testBit s = true) (hc : C.testBit s = true) : s = q ∧ X.testBit u = true := by
  obtain ⟨_, f, h1, _⟩ := hC
  obtain ⟨g1, g2⟩ := h1 s hc (hX s hs)
  have hf : S.testBit (f s) = false := by
    cases w : S.testBit (f s) with
    | false => rfl
    | true => rw [hX _ w] at g1; cases g1
  obtain ⟨e1, e2⟩ := hS.e s (f s) hs hf (hY _ _ g2)
  exact ⟨e1, by rw [← e2]; exact g1⟩
theorem st_side (hY : Sym N) (hS : Sd N u q S) {A B : Nat} (hq : A.testBit q = true) (h : St1 N A B) : St1 N (A &&& S) (B &&& S) := by
  obtain ⟨h0, f, h1, h2⟩ := h
  have key : ∀ w, (B &&& S).testBit w = true → (A &&& S).testBit w = false → B.testBit w = true ∧ A.testBit w = false ∧ S.testBit w = true := fun w q1 q2 => by
    rw [Nat.testBit_and, Bool.and_eq_true] at q1
    rw [Nat.testBit_and, q1.2, Bool.and_true] at q2
    exact ⟨q1.1, q2, q1.2⟩
  refine ⟨fun i hi => ?_, f, fun w q1 q2 => ?_, fun w w' q1 q2 q3 q4 => ?_⟩
  · rw [Nat.testBit_and, Bool.and_eq_true] at hi ⊢
    exact ⟨h0 i hi.1, hi.2⟩
  · obtain ⟨r1, r2, r3⟩ := key w q1 q2
    obtain ⟨g1, g2⟩ := h1 w r1 r2
    refine ⟨?_, g2⟩
    rw [Nat.testBit_and, g1, Bool.true_and]
    cases x : S.testBit (f w) with
    | true => rfl
    | false =>
      obtain ⟨e1, _⟩ := hS.e w (f w) r3 x (hY _ _ g2)
      subst e1
      rw [hq] at r2; cases r2
  · obtain ⟨r1, r2, _⟩ := key w q1 q2
    obtain ⟨r3, r4, _⟩ := key w' q3 q4
    exact h2 w w' r1 r2 r3 r4
theorem rcs_side (hY : Sym N) (hS : Sd N u q S) : ∀ {k A B : Nat}, A.testBit q = true → Rcs N k A B → Rcs N k (A &&& S) (B &&& S)
  | 0, A, B, _, h => by
    have : A = B := h
    rw [this]; rfl
  | k + 1, A, B, hq, ⟨D, h1, h2⟩ => ⟨D &&& S, rcs_side hY hS hq h1, st_side hY hS (h1.inn q hq) h2⟩
theorem inf_out (hY : Sym N) (hS : Sd N u q S) : ∀ {k X B : Nat}, (∀ i, S.testBit i = true → X.testBit i = false) → Rcs N k X B → Inn S B → ∃ j, k = j + 1 ∧ Inf N j q S
  | 0, X, B, hX, h, hB => by
    have : X = B := h
    subst this
    have := hB q hS.hq
    rw [hX q hS.hq] at this
    cases this
  | k + 1, X, B, hX, h, hB => by
    obtain ⟨C, h1, h2⟩ := h.unfront
    by_cases hq : C.testBit q = true
    · have e : C &&& S = 2 ^ q := by
        apply Nat.eq_of_testBit_eq
        intro i
        rw [Nat.testBit_and, Nat.testBit_two_pow]
        by_cases ei : q = i
        · subst ei
          rw [hq, hS.hq, decide_eq_true rfl]; rfl
        · rw [decide_eq_false ei]
          cases x : C.testBit i with
          | false => rfl
          | true =>
            cases y : S.testBit i with
            | false => rfl
            | true => exact absurd (gate hY hS h1 hX y x).1.symm ei
      have := rcs_side hY hS hq h2
      rw [e] at this
      exact ⟨k, rfl, B &&& S, this, fun i hi => by rw [Nat.testBit_and, hB i hi, hi]; rfl⟩
    · obtain ⟨j, rfl, h3⟩ := inf_out hY hS (X := C) (fun i hi => by
        cases x : C.testBit i with
        | false => rfl
        | true =>
          have := (gate hY hS h1 hX hi x).1
          subst this
          exact absurd x hq) h2 hB
      exact ⟨j + 1, rfl, h3.le (by omega)⟩
theorem inf_far (hY : Sym N) (hS : Sd N u q S) {k X B : Nat} (hX : ∀ i, S.testBit i = true → X.testBit i = false) (hu : X.testBit u = false) (h : Rcs N k X B) (hB : Inn S B) : ∃ j, k = j + 2 ∧ Inf N j q S := by
  obtain ⟨k, rfl, _⟩ := inf_out hY hS hX h hB
  obtain ⟨C, h1, h2⟩ := h.unfront
  obtain ⟨j, rfl, h3⟩ := inf_out hY hS (X := C) (fun i hi => by
    cases x : C.testBit i with
    | false => rfl
    | true =>
      have := (gate hY hS h1 hX hi x).2
      rw [hu] at this; cases this) h2 hB
  exact ⟨j, rfl, h3⟩
end
section
variable {N : List Nat} {u q P Q : Nat}
theorem st_par (hY : Sym N) (hP : Sd N q u P) (hQ : Sd N u q Q) (hd : ∀ i, P.testBit i = true → Q.testBit i = false) {C B C' B' : Nat} (hu : C.testBit u = true) (hq : C'.testBit q = true) (h : St1 N C B) (h' : St1 N C' B') : St1 N ((C &&& P) ||| (C' &&& Q)) ((B &&& P) ||| (B' &&& Q)) := by
  obtain ⟨a0, f, a1, a2⟩ := st_side hY hP hu h
  obtain ⟨b0, g, b1, b2⟩ := st_side hY hQ hq h'
  have key : ∀ w, ((B &&& P) ||| (B' &&& Q)).testBit w = true → ((C &&& P) ||| (C' &&& Q)).testBit w = false → (Q.testBit w = true ∧ (B' &&& Q).testBit w = true ∧ (C' &&& Q).testBit w = false) ∨ (Q.testBit w = false ∧ (B &&& P).testBit w = true ∧ (C &&& P).testBit w = false) := fun w q1 q2 => by
    rw [Nat.testBit_or, Bool.or_eq_true] at q1
    rw [Nat.testBit_or, Bool.or_eq_false_iff] at q2
    rcases q1 with q1 | q1
    · have hp : P.testBit w = true := by rw [Nat.testBit_and, Bool.and_eq_true] at q1; exact q1.2
      exact .inr ⟨hd w hp, q1, q2.1⟩
    · have hp : Q.testBit w = true := by rw [Nat.testBit_and, Bool.and_eq_true] at q1; exact q1.2
      exact .inl ⟨hp, q1, q2.2⟩
  have hf : ∀ w, (B &&& P).testBit w = true → (C &&& P).testBit w = false → Q.testBit (f w) = false := fun w q1 q2 => by
    have := (a1 w q1 q2).1
    rw [Nat.testBit_and, Bool.and_eq_true] at this
    exact hd _ this.2
  have hg : ∀ w, (B' &&& Q).testBit w = true → (C' &&& Q).testBit w = false → Q.testBit (g w) = true := fun w q1 q2 => by
    have := (b1 w q1 q2).1
    rw [Nat.testBit_and, Bool.and_eq_true] at this
    exact this.2
  refine ⟨Inn.or (a0.trans (Inn.orl _ _)) (b0.trans (Inn.orr _ _)), fun w => if Q.testBit w = true then g w else f w, fun w q1 q2 => ?_, fun w w' q1 q2 q3 q4 e => ?_⟩
  · dsimp only
    rcases key w q1 q2 with ⟨r1, r2, r3⟩ | ⟨r1, r2, r3⟩
    · rw [if_pos r1]
      exact ⟨Inn.orr _ _ _ (b1 w r2 r3).1, (b1 w r2 r3).2⟩
    · rw [if_neg (by rw [r1]; simp)]
      exact ⟨Inn.orl _ _ _ (a1 w r2 r3).1, (a1 w r2 r3).2⟩
  · dsimp only at e
    rcases key w q1 q2 with ⟨r1, r2, r3⟩ | ⟨r1, r2, r3⟩ <;> rcases key w' q3 q4 with ⟨s1, s2, s3⟩ | ⟨s1, s2, s3⟩
    · rw [if_pos r1, if_pos s1] at e
      exact b2 w w' r2 r3 s2 s3 e
    · rw [if_pos r1, if_neg (by rw [s1]; simp)] at e
      have h1 := hg w r2 r3
      rw [e, hf w' s2 s3] at h1
      cases h1
    · rw [if_neg (by rw [r1]; simp), if_pos s1] at e
      have h1 := hg w' s2 s3
      rw [← e, hf w r2 r3] at h1
      cases h1
    · rw [if_neg (by rw [r1]; simp), if_neg (by rw [s1]; simp)] at e
      exact a2 w w' r2 r3 s2 s3 e
theorem rcs_par (hY : Sym N) (hP : Sd N q u P) (hQ : Sd N u q Q) (hd : ∀ i, P.testBit i = true → Q.testBit i = false) : ∀ {k C B C' B' : Nat}, C.testBit u = true → C'.testBit q = true → Rcs N k C B → Rcs N k C' B' → Rcs N k ((C &&& P) ||| (C' &&& Q)) ((B &&& P) ||| (B' &&& Q))
  | 0, C, B, C', B', _, _, h, h' => by
    have e : C = B := h
    have e' : C' = B' := h'
    rw [e, e']; rfl
  | k + 1, C, B, C', B', hu, hq, ⟨D, h1, h2⟩, ⟨D', h1', h2'⟩ => ⟨_, rcs_par hY hP hQ hd hu hq h1 h1', st_par hY hP hQ hd (h1.inn u hu) (h1'.inn q hq) h2 h2'⟩
theorem inf_both (hN : NOk N) (hu : u < N.length) (hP : Sd N q u P) (hQ : Sd N u q Q) (hd : ∀ i, i < N.length → (P.testBit i = true ↔ Q.testBit i = false)) (ha : (N.getD u 0).testBit q = true) {k : Nat} (h : Inf N k u P) (h' : Inf N k q Q) : Rcs N (k + 1) (2 ^ u) (2 ^ N.length - 1) := by
  obtain ⟨B, b1, b2⟩ := h
  obtain ⟨B', c1, c2⟩ := h'
  have hql := bit_lt (getD_lt2 hN.lt u) ha
  have hdd : ∀ i, P.testBit i = true → Q.testBit i = false := fun i hi => (hd i (bit_lt hP.lt hi)).1 hi
  have h2 : ∀ v, (2 ^ v).testBit v = true := fun v => by rw [Nat.testBit_two_pow]; exact decide_eq_true rfl
  have h3 := rcs_par hN.sym hP hQ hdd (h2 u) (h2 q) b1 c1
  have e1 : ∀ {v S : Nat}, S.testBit v = true → 2 ^ v &&& S = 2 ^ v := fun {v S} hv => by
    apply Nat.eq_of_testBit_eq
    intro i
    rw [Nat.testBit_and, Nat.testBit_two_pow]
    by_cases e : v = i
    · subst e; rw [hv]; simp
    · simp [e]
  rw [e1 hP.hq, e1 hQ.hq] at h3
  have hB : B < 2 ^ N.length := Rcs.lt hN.lt (Nat.pow_lt_pow_right (by omega) hu) b1
  have hB' : B' < 2 ^ N.length := Rcs.lt hN.lt (Nat.pow_lt_pow_right (by omega) hql) c1
  have e2 : (B &&& P) ||| (B' &&& Q) = 2 ^ N.length - 1 := by
    refine Inn.eq (inn_full (Nat.or_lt_two_pow (Nat.lt_of_le_of_lt Nat.and_le_left hB) (Nat.lt_of_le_of_lt Nat.and_le_left hB'))) fun i hi => ?_
    rw [Nat.testBit_two_pow_sub_one, decide_eq_true_iff] at hi
    rw [Nat.testBit_or, Nat.testBit_and, Nat.testBit_and]
    cases x : Q.testBit i with
    | true => rw [c2 i x]; simp
    | false =>
      have := (hd i hi).2 x
      rw [b2 i this, this]; rfl
  rw [e2] at h3
  exact Rcs.front (st_one (h2 u) ha) h3
end
end Go.Proofs.Ytpbighinamljbaa.PA
namespace Go.Proofs.Ytpbighinamljbaa.PA
open Go Go.Eng Go.Proofs
structure Brg (N : List Nat) (sd : Nat → Nat → Nat) : Prop where
  s : ∀ u q, (N.getD u 0).testBit q = true → Sd N u q (sd u q)
  c : ∀ u q, (N.getD u 0).testBit q = true → ∀ i, i < N.length → ((sd u q).testBit i = true ↔ (sd q u).testBit i = false)
section
variable {N : List Nat} {sd : Nat → Nat → Nat} {u v q w r : Nat}
theorem brg_some (hN : NOk N) (hB : Brg N sd) (hu : u < N.length) (hw : w < N.length) (hne : w ≠ u) : ∃ q, (N.getD u 0).testBit q = true ∧ (sd u q).testBit w = true := by
  have := closed_empty hN (fun w => w ≠ u ∧ ∀ q, (N.getD u 0).testBit q = true → (sd u q).testBit w = false) (fun a b ha ⟨p1, p2⟩ hab => by
    refine ⟨fun e => ?_, fun q hq => ?_⟩
    · subst e
      have h1 := hN.sym _ _ hab
      have := (hB.s _ _ h1).hq
      rw [p2 a h1] at this
      cases this
    · cases x : (sd u q).testBit b with
      | false => rfl
      | true => exact absurd ((hB.s _ _ hq).e b a x (p2 q hq) (hN.sym _ _ hab)).2 p1) hu (fun h => h.1 rfl) hw
  rcases Classical.em (∃ q, (N.getD u 0).testBit q = true ∧ (sd u q).testBit w = true) with h | h
  · exact h
  · refine absurd ⟨hne, fun q hq => ?_⟩ this
    cases x : (sd u q).testBit w with
    | false => rfl
    | true => exact absurd ⟨q, hq, x⟩ h
theorem brg_disj (hN : NOk N) (hB : Brg N sd) (hu : u < N.length) (hq : (N.getD u 0).testBit q = true) (hv : (N.getD u 0).testBit v = true) (hne : q ≠ v) (hw : (sd u q).testBit w = true) : (sd u v).testBit w = false := by
  have s1 := hB.s _ _ hq
  have s2 := hB.s _ _ hv
  have hwl := bit_lt s1.lt hw
  have := closed_empty hN (fun w => (sd u q).testBit w = true ∧ (sd u v).testBit w = true) (fun a b ha ⟨p1, p2⟩ hab => by
    refine ⟨?_, ?_⟩
    · cases x : (sd u q).testBit b with
      | true => rfl
      | false =>
        obtain ⟨e1, e2⟩ := s1.e a b p1 x hab
        have := (s2.e a b p2 (by rw [e2]; exact s2.hu) hab).1
        exact absurd (e1.symm.trans this) hne
    · cases x : (sd u v).testBit b with
      | true => rfl
      | false =>
        obtain ⟨e1, e2⟩ := s2.e a b p2 x hab
        have := (s1.e a b p1 (by rw [e2]; exact s1.hu) hab).1
        exact absurd (this.symm.trans e1) hne) hu (fun h => by rw [s1.hu] at h; cases h.1) hwl
  cases x : (sd u v).testBit w with
  | false => rfl
  | true => exact absurd ⟨hw, x⟩ this
theorem pow_bit {a i : Nat} (h : i ≠ a) : (2 ^ a).testBit i = false := by
  rw [Nat.testBit_two_pow]
  exact decide_eq_false (fun e => h e.symm)
theorem star_of (hN : NOk N) (hB : Brg N sd) (hu : u < N.length) (ha : (N.getD u 0).testBit v = true) (hTu : IsT N u r) (hTv : IsT N v r) (h : ∀ i, Inf N i u (sd v u) → Inf N i v (sd u v)) (hw : w < N.length) (hTw : IsT N w r) : w = u ∨ (N.getD u 0).testBit w = true := by
  by_cases e1 : w = u
  · exact .inl e1
  by_cases e2 : (N.getD u 0).testBit w = true
  · exact .inr e2
  exfalso
  obtain ⟨q, hq, hwq⟩ := brg_some hN hB hu hw e1
  have hq' := hN.sym _ _ hq
  have sQ := hB.s _ _ hq
  have sP := hB.s _ _ hq'
  have hql := bit_lt (getD_lt2 hN.lt u) hq
  have hfull : ∀ {S : Nat}, S < 2 ^ N.length → Inn S (2 ^ N.length - 1) := inn_full
  have hc := hB.c _ _ hq'
  obtain ⟨j, rfl, hj⟩ := inf_far hN.sym sP (X := 2 ^ w) (fun i hi => by
    by_cases e : i = w
    · subst e
      have := (hc i hw).1 hi
      rw [hwq] at this; cases this
    · exact pow_bit e) (by
    refine pow_bit fun e => ?_
    subst e
    exact e2 hq) hTw.1 (hfull sP.lt)
  have key : Inf N j q (sd u q) := by
    by_cases e : q = v
    · subst e
      exact h j hj
    · have ha' := hN.sym _ _ ha
      have sV := hB.s _ _ ha'
      obtain ⟨j', hj', B, b1, b2⟩ := inf_out hN.sym sV (X := 2 ^ v) (fun i hi => by
        refine pow_bit fun e => ?_
        subst e
        rw [sV.hu] at hi; cases hi) hTv.1 (hfull sV.lt)
      obtain ⟨j'', hj'', h2⟩ := inf_out hN.sym sQ (X := 2 ^ u) (fun i hi => by
        refine pow_bit fun e => ?_
        subst e
        rw [sQ.hu] at hi; cases hi) b1 (fun i hi => b2 i ((hB.c _ _ ha' i (bit_lt sQ.lt hi)).2 (brg_disj hN hB hu hq ha e hi)))
      obtain rfl : j = j'' := by omega
      exact h2
  have := inf_both hN hu sP sQ hc hq hj key
  exact hTu.2 (j + 1) (by omega) this
theorem star_main (hN : NOk N) (hB : Brg N sd) (h2 : 2 ≤ N.length) {cs : List Nat} {best : Nat} (hC : CenA N cs best) : 2 ≤ cs.length ∧ ∃ u, u ∈ cs ∧ ∀ w, w ∈ cs → w = u ∨ (N.getD u 0).testBit w = true := by
  obtain ⟨a, hal, hTa⟩ := cen_ex hC
  have hpb : ∀ v, (2 ^ v).testBit v = true := fun v => by rw [Nat.testBit_two_pow]; exact decide_eq_true rfl
  obtain ⟨r, rfl⟩ : ∃ r, best = r + 1 := by
    cases best with
    | succ r => exact ⟨r, rfl⟩
    | zero =>
      exfalso
      have e : 2 ^ a = 2 ^ N.length - 1 := hTa.1
      obtain ⟨i, i1, i2⟩ : ∃ i, i < N.length ∧ i ≠ a := by
        by_cases e0 : a = 0
        · exact ⟨1, by omega, by omega⟩
        · exact ⟨0, by omega, by omega⟩
      have h := pow_bit i2
      rw [e, Nat.testBit_two_pow_sub_one, decide_eq_true i1] at h
      cases h
  obtain ⟨C, ⟨c0, f, c1, c2⟩, hr⟩ := hTa.1.unfront
  have hCa : C ≠ 2 ^ a := fun e => hTa.2 r (by omega) (by rw [← e]; exact hr)
  have hCal : C.testBit a = true := c0 a (hpb a)
  have hfa : ∀ w, C.testBit w = true → w ≠ a → f w = a ∧ (N.getD a 0).testBit w = true := fun w q1 q2 => by
    obtain ⟨g1, g2⟩ := c1 w q1 (pow_bit q2)
    have : f w = a := by
      by_cases e : f w = a
      · exact e
      · rw [pow_bit e] at g1; cases g1
    rw [this] at g2
    exact ⟨this, g2⟩
  obtain ⟨b, hb, hba⟩ : ∃ b, C.testBit b = true ∧ b ≠ a := by
    rcases Classical.em (∃ b, C.testBit b = true ∧ b ≠ a) with h | h
    · exact h
    · refine absurd (Nat.eq_of_testBit_eq fun i => ?_) hCa
      by_cases e : i = a
      · subst e; rw [hCal, hpb]
      · rw [pow_bit e]
        cases x : C.testBit i with
        | false => rfl
        | true => exact absurd ⟨i, x, e⟩ h
  obtain ⟨fb, hab⟩ := hfa b hb hba
  have hbl := bit_lt (getD_lt2 hN.lt a) hab
  have hCe : C = 2 ^ b ||| 2 ^ a := by
    apply Nat.eq_of_testBit_eq
    intro i
    rw [Nat.testBit_or]
    by_cases e : i = a
    · subst e; rw [hCal, hpb]; simp
    · by_cases e' : i = b
      · subst e'; rw [hb, hpb]; simp
      · rw [pow_bit e, pow_bit e']
        cases x : C.testBit i with
        | false => rfl
        | true => exact absurd (c2 i b x (pow_bit e) hb (pow_bit hba) ((hfa i x e).1.trans fb.symm)) e'
  have hRb : Rcs N (r + 1) (2 ^ b) (2 ^ N.length - 1) := Rcs.front (st_one (hpb b) (hN.sym _ _ hab)) (by rw [← hCe]; exact hr)
  obtain ⟨j, hj, hTb⟩ := IsT.ex hRb
  have hle := cen_least hC hbl hTb
  obtain rfl : j = r + 1 := by omega
  have hac : a ∈ cs := (cen_mem hC).2 ⟨hal, hTa⟩
  have hbc : b ∈ cs := (cen_mem hC).2 ⟨hbl, hTb⟩
  refine ⟨nodup_len (l := [a, b]) (by simp [hba.symm]) (fun x hx => by
    rcases List.mem_cons.1 hx with rfl | hx
    · exact hac
    · rw [List.mem_singleton.1 hx]; exact hbc), ?_⟩
  by_cases h : ∀ i, Inf N i a (sd b a) → Inf N i b (sd a b)
  · exact ⟨a, hac, fun w hw => by
      obtain ⟨w1, w2⟩ := (cen_mem hC).1 hw
      exact star_of hN hB hal hab hTa hTb h w1 w2⟩
  · refine ⟨b, hbc, fun w hw => ?_⟩
    obtain ⟨w1, w2⟩ := (cen_mem hC).1 hw
    refine star_of hN hB hbl (hN.sym _ _ hab) hTb hTa (fun j hj => ?_) w1 w2
    rcases Classical.em (Inf N j a (sd b a)) with q | q
    · exact q
    · exfalso
      refine h fun i hi => ?_
      rcases Nat.lt_or_ge i j with p | p
      · exact absurd (hi.le (by omega)) q
      · exact hj.le p
end
end Go.Proofs.Ytpbighinamljbaa.PA
namespace Go.Proofs.Ytpbighinamljbaa.PA
open Go Go.Eng Go.Proofs
def up (p : Nat → Nat) : Nat → Nat → Nat
  | 0, i => i
  | k + 1, i => up p k (p i)
theorem up_le {p : Nat → Nat} (hp : ∀ i, p i ≤ i) : ∀ k i, up p k i ≤ i
  | 0, i => Nat.le_refl i
  | k + 1, i => Nat.le_trans (up_le hp k (p i)) (hp i)
theorem sd_compl {N : List Nat} (hN : NOk N) {u q S : Nat} (hu : u < N.length) (h : Sd N u q S) : Sd N q u (sdiff (2 ^ N.length - 1) S) := by
  have hb : ∀ i, (sdiff (2 ^ N.length - 1) S).testBit i = true ↔ i < N.length ∧ S.testBit i = false := fun i => by
    rw [sdiff_bit, Nat.testBit_two_pow_sub_one]
    simp
  refine ⟨Nat.lt_of_le_of_lt (sdiff_le _ _) (by have := Nat.one_le_two_pow (n := N.length); omega), (hb u).2 ⟨hu, h.hu⟩, ?_, fun a b ha hb' hab => ?_⟩
  · cases x : (sdiff (2 ^ N.length - 1) S).testBit q with
    | false => rfl
    | true =>
      have := ((hb q).1 x).2
      rw [h.hq] at this; cases this
  · have hbl := bit_lt (getD_lt2 hN.lt a) hab
    have hbS : S.testBit b = true := by
      cases x : S.testBit b with
      | true => rfl
      | false => rw [(hb b).2 ⟨hbl, x⟩] at hb'; cases hb'
    obtain ⟨e1, e2⟩ := h.e b a hbS ((hb a).1 ha).2 (hN.sym _ _ hab)
    exact ⟨e2, e1⟩
theorem tree_brg {N : List Nat} (hN : NOk N) {p : Nat → Nat} (hp0 : ∀ i, p i ≤ i) (hp : ∀ i, 1 ≤ i → i < N.length → p i < i) (ha : ∀ a b, (N.getD a 0).testBit b = true ↔ (a < N.length ∧ b < N.length ∧ ((1 ≤ b ∧ a = p b) ∨ (1 ≤ a ∧ b = p a)))) : ∃ sd, Brg N sd := by
  have hD : ∃ D : Nat → Nat, ∀ x, D x < 2 ^ N.length ∧ ∀ i, (D x).testBit i = true ↔ i < N.length ∧ ∃ k, up p k i = x := by
    obtain ⟨D, hD⟩ := Classical.axiomOfChoice (fun x => mask_ex (fun i => ∃ k, up p k i = x) N.length)
    exact ⟨D, hD⟩
  obtain ⟨D, hD⟩ := hD
  have hs : ∀ x, 1 ≤ x → x < N.length → Sd N (p x) x (D x) := fun x x1 x2 => by
    obtain ⟨d1, d2⟩ := hD x
    refine ⟨d1, (d2 x).2 ⟨x2, 0, rfl⟩, ?_, fun a b h1 h2 hab => ?_⟩
    · cases y : (D x).testBit (p x) with
      | false => rfl
      | true =>
        obtain ⟨_, k, hk⟩ := (d2 _).1 y
        have h1 := up_le hp0 k (p x)
        have h2 := hp x x1 x2
        omega
    · obtain ⟨_, k, hk⟩ := (d2 a).1 h1
      obtain ⟨hal, hbl, hab⟩ := (ha a b).1 hab
      have hnb : ¬ ∃ k, up p k b = x := fun q => by rw [(d2 b).2 ⟨hbl, q⟩] at h2; cases h2
      rcases hab with ⟨q1, q2⟩ | ⟨q1, q2⟩
      · exact absurd ⟨k + 1, by rw [up, ← q2]; exact hk⟩ hnb
      · cases k with
        | zero =>
          have e : a = x := hk
          rw [e] at q2
          exact ⟨e, q2⟩
        | succ k => exact absurd ⟨k, by rw [q2]; exact hk⟩ hnb
  refine ⟨fun u q => if u < q then D q else sdiff (2 ^ N.length - 1) (D u), fun u q h => ?_, fun u q h i hi => ?_⟩
  · obtain ⟨hul, hql, h⟩ := (ha u q).1 h
    rcases h with ⟨q1, q2⟩ | ⟨q1, q2⟩
    · have := hp q q1 hql
      rw [if_pos (by omega), q2]
      exact hs q q1 hql
    · have := hp u q1 hul
      rw [if_neg (by omega)]
      have h := sd_compl hN (by omega) (hs u q1 hul)
      rw [← q2] at h
      exact h
  · obtain ⟨hul, hql, h⟩ := (ha u q).1 h
    have key : ∀ S : Nat, (sdiff (2 ^ N.length - 1) S).testBit i = !S.testBit i := fun S => by
      rw [sdiff_bit, Nat.testBit_two_pow_sub_one, decide_eq_true hi, Bool.true_and]
    rcases h with ⟨q1, q2⟩ | ⟨q1, q2⟩
    · have := hp q q1 hql
      rw [if_pos (by omega), if_neg (by omega), key]
      cases (D q).testBit i <;> simp
    · have := hp u q1 hul
      rw [if_neg (by omega), if_pos (by omega), key]
      cases (D u).testBit i <;> simp
theorem made_tree {n : Nat} {l : Prs} (h : MadeR n l) : Egs n (l.take (n - 1)) ∧ (l.take (n - 1)).length = n - 1 ∧ (∀ j, j + 1 < n → ∃ a, (a, j + 1) ∈ l.take (n - 1) ∧ a ≤ j) ∧ (NOk (nearN n (l.take (n - 1))) → ∃ sd, Brg (nearN n (l.take (n - 1))) sd) := by
  have h1 := h.nl
  have he : Egs n (l.take (n - 1)) := fun c hc => h.egs c (List.mem_of_mem_take hc)
  have hl := nearN_len n (l.take (n - 1))
  obtain ⟨p, hp⟩ : ∃ p : Nat → Nat, ∀ i, (i = 0 ∨ n ≤ i → p i = 0) ∧ (1 ≤ i → i < n → l[i - 1]? = some (p i, i) ∧ p i ≤ i - 1) := by
    refine Classical.axiomOfChoice (r := fun i q => (i = 0 ∨ n ≤ i → q = 0) ∧ (1 ≤ i → i < n → l[i - 1]? = some (q, i) ∧ q ≤ i - 1)) fun i => ?_
    by_cases hi : 1 ≤ i ∧ i < n
    · obtain ⟨a, q1, q2⟩ := h.tree (i - 1) (by omega)
      exact ⟨a, fun q => by omega, fun _ _ => ⟨by rw [q1, show i - 1 + 1 = i by omega], q2⟩⟩
    · exact ⟨0, fun _ => rfl, fun q1 q2 => absurd ⟨q1, q2⟩ hi⟩
  have hmem : ∀ c, c ∈ l.take (n - 1) ↔ ∃ i, 1 ≤ i ∧ i < n ∧ c = (p i, i) := fun c => by
    constructor
    · intro hc
      obtain ⟨j, hj⟩ := List.getElem?_of_mem hc
      have hjn : j < n - 1 := by
        rcases Nat.lt_or_ge j (n - 1) with q | q
        · exact q
        · rw [List.getElem?_take, if_neg (by omega)] at hj; cases hj
      rw [List.getElem?_take_of_lt hjn] at hj
      have := ((hp (j + 1)).2 (by omega) (by omega)).1
      rw [Nat.add_sub_cancel, hj] at this
      exact ⟨j + 1, by omega, by omega, Option.some.inj this⟩
    · rintro ⟨i, i1, i2, rfl⟩
      have := ((hp i).2 i1 i2).1
      exact List.mem_of_getElem? (i := i - 1) (by rw [List.getElem?_take_of_lt (by omega)]; exact this)
  refine ⟨he, by rw [List.length_take]; omega, fun j hj => ⟨p (j + 1), (hmem _).2 ⟨j + 1, by omega, hj, rfl⟩, ((hp (j + 1)).2 (by omega) hj).2⟩, fun hN => ?_⟩
  have hp0 : ∀ i, p i ≤ i := fun i => by
    by_cases hi : 1 ≤ i ∧ i < n
    · have := ((hp i).2 hi.1 hi.2).2; omega
    · rw [(hp i).1 (by omega)]; omega
  refine tree_brg hN hp0 (fun i i1 i2 => by have := ((hp i).2 i1 (by omega)).2; omega) fun a b => ?_
  rw [nearN_bit he, hl]
  constructor
  · rintro ⟨c, hc, hab⟩
    obtain ⟨i, i1, i2, rfl⟩ := (hmem c).1 hc
    have := ((hp i).2 i1 i2).2
    dsimp only at hab
    rcases hab with ⟨rfl, rfl⟩ | ⟨rfl, rfl⟩
    · exact ⟨by omega, i2, .inl ⟨i1, rfl⟩⟩
    · exact ⟨i2, by omega, .inr ⟨i1, rfl⟩⟩
  · rintro ⟨a1, b1, ⟨q1, q2⟩ | ⟨q1, q2⟩⟩
    · exact ⟨_, (hmem _).2 ⟨b, q1, b1, rfl⟩, .inl ⟨q2, rfl⟩⟩
    · exact ⟨_, (hmem _).2 ⟨a, q1, a1, rfl⟩, .inr ⟨rfl, q2⟩⟩
end Go.Proofs.Ytpbighinamljbaa.PA
namespace Go.Proofs.Ytpbighinamljbaa.PA
open Go Go.Eng Go.Proofs
end Go.Proofs.Ytpbighinamljbaa.PA
namespace Go.Proofs.Ytpbighinamljbaa.PA
open Go Go.Eng Go.Proofs
theorem near_rd {H : AHeap} {i n : Nat} {N : List Nat} (hl : N.length = n) (hi : i < H.next) (hg : H.get i = some (.cells (N.map nA) none)) : RdR 1 H (.sl i 0 n n) N.length (N.map nA) :=
  ⟨by simp, .inr (.inr ⟨i, n, _, _, by rw [hl], hi, hg, by rw [List.take_of_length_le (by simp)], by simp⟩)⟩
end Go.Proofs.Ytpbighinamljbaa.PA
namespace Go.Eng
section
variable {cf : CF} {n : Nat} {l : KL0} {H : AHeap} {Q : List (KL0 × AHeap) → Prop}
theorem WKT.gop {d g : Nat} {b c : Bool} {op : XOp} {r : List XOper} {v : AV} {H1 : AHeap} (hg : look l g = some (.bool c)) (hc : c = b) (h : XV cf l H n op = some (v, H1)) (ha : allSm l op.opnds = true) (k : WKT cf r (n + 1) ((d, v) :: l) H1 fun ps => Q ((l, H) :: ps)) : WKT cf (⟨some d, op, some (g, b)⟩ :: r) n l H Q := fun tm ht => by
  obtain ⟨tr, ps, h1, h2, h3⟩ := k _ (ht.set d v)
  unfold XV at h
  have hw : wantedA tm ⟨some d, op, some (g, b)⟩ = some true := by simp only [wantedA, ht _ _ hg, hc]; simp
  exact ⟨_, _, by simp only [xtrace, xstep, hw, (xval_kw ht ha).trans h, putT, h1, Option.map_some], .cons ht h2, h3⟩
theorem WKT.gno {d g : Nat} {b c : Bool} {op : XOp} {r : List XOper} (hg : look l g = some (.bool c)) (hc : c = !b) (k : WKT cf r (n + 1) ((d, undefA) :: l) H fun ps => Q ((l, H) :: ps)) : WKT cf (⟨some d, op, some (g, b)⟩ :: r) n l H Q := fun tm ht => by
  obtain ⟨tr, ps, h1, h2, h3⟩ := k _ (ht.set d undefA)
  have hw : wantedA tm ⟨some d, op, some (g, b)⟩ = some false := by simp only [wantedA, ht _ _ hg, hc]; cases b <;> rfl
  exact ⟨_, _, by simp only [xtrace, xstep, hw, putT, undefA, h1, Option.map_some] <;> (simp only [undefA] at h1; rw [h1]; rfl), .cons ht h2, h3⟩
theorem WKT.gnoT {d g : Nat} {c : Bool} {op : XOp} {r : List XOper} (hg : look l g = some (.bool c)) (hc : c = false) (k : WKT cf r (n + 1) ((d, undefA) :: l) H fun ps => Q ((l, H) :: ps)) : WKT cf (⟨some d, op, some (g, true)⟩ :: r) n l H Q := WKT.gno hg hc k
theorem WKT.gnoF {d g : Nat} {c : Bool} {op : XOp} {r : List XOper} (hg : look l g = some (.bool c)) (hc : c = true) (k : WKT cf r (n + 1) ((d, undefA) :: l) H fun ps => Q ((l, H) :: ps)) : WKT cf (⟨some d, op, some (g, false)⟩ :: r) n l H Q := WKT.gno hg hc k
theorem WKT.gcallV {d f g : Nat} {b c : Bool} {x : XO} {xs : List XO} {cs av : List AV} {P : AV → AHeap → Prop} {r : List XOper} (hg : look l g = some (.bool c)) (hc : c = b) (hx : evK l x = some (.fn f cs)) (hl : evL (evK l) xs = some av) (ha : allSm l (x :: xs) = true) (h : ∃ v H', cf f (av ++ cs) H = some (v, H') ∧ P v H')
    (k : ∀ v H', P v H' → WKT cf r (n + 1) ((d, v) :: l) H' fun ps => Q ((l, H) :: ps)) : WKT cf (⟨some d, .call x xs, some (g, b)⟩ :: r) n l H Q := by
  obtain ⟨v, H', h1, h2⟩ := h
  exact WKT.gop (H1 := H') hg hc (k_any (op_call hx hl h1)) ha (k v H' h2)
end
end Go.Eng
namespace Go.Proofs.Ytpbighinamljbaa.PA
open Go Go.Eng Go.Proofs
end Go.Proofs.Ytpbighinamljbaa.PA
namespace Go.Proofs.Ytpbighinamljbaa.PA
open Go Go.Eng Go.Proofs
theorem xop_ldE {ev : XO → Option AV} {H0 H' : AHeap} {n z len p : Nat} {x : XO} {X v : AV} {cs : List AV} (hx : ev x = some (adE X p)) (hE : RdR z H0 X len cs) (hF : ∀ i, X.own = some i → H'.get i = H0.get i) (h : cs[p]? = some v) : xop ev H' n (.load none x) = .v v := by
  have hp : p < len * z := by
    obtain ⟨hh, _⟩ := List.getElem?_eq_some_iff.1 h
    rw [hE.1] at hh
    exact hh
  obtain ⟨c, h1, h2⟩ := hE.at (H' := H') hF hp
  have h3 : c[0]? = some v := by
    have : (c.take (len * z - p))[0]? = some v := by rw [h2, List.getElem?_drop, Nat.add_zero, h]
    rw [List.getElem?_take] at this
    split at this
    · exact this
    · cases this
  simp only [xop, hx, Option.bind_some, loadA, h1, h3, AR.ofV]
theorem k_ldY {cf : CF} {H0 H' : AHeap} {n z len p : Nat} {l : KL0} {x : XO} {X v : AV} {cs : List AV} (hx : evK l x = some (adE X p)) (hE : RdR z H0 X len cs) (hF : ∀ i, X.own = some i → H'.get i = H0.get i) (h : cs[p]? = some v) : XV cf l H' n (.load none x) = some (v, H') :=
  k_any (by simp only [xval, xop_ldE hx hE hF h])
end Go.Proofs.Ytpbighinamljbaa.PA
namespace Go.Eng
def LooseQ (ops : List XOper) (ps : List (KL0 × AHeap)) (base : Nat) (nn : List Nat) (q : Nat × List Nat × List Nat) : Prop :=
  (∃ d op g b l H, ops[q.1]? = some ⟨d, op, some (g, b)⟩ ∧ ps[q.1]? = some (l, H) ∧ look l g = some (.bool (!b))) ∨
  (∃ d op g b l H v, ops[q.1]? = some ⟨d, op, some (g, b)⟩ ∧ ps[q.1]? = some (l, H) ∧ look l g = some (.bool b) ∧ allSm l op.opnds = true ∧ xop (evK l) H 0 op = .v v ∧
    ∀ j ∈ q.1 :: (q.2.1 ++ q.2.1.map (· + 1)), ∃ p, ps[j]? = some p ∧ xop (evK l) ((p.2.less base q.2.2).less base (nn.filter fun k => Nat.ble j k)) 0 op = .v v)
theorem WK.regQ {cf : CF} {fuel : Nat} {l : KL0} {H : AHeap} {ops : List XOper} {lo : List (Nat × List Nat × List Nat)} {k : Nat} {R : XE → KL0 → AHeap → Prop} (hk : ops.length = k)
    (h : WKT cf ops H.next l (H.bump k) fun ps => (∀ q ∈ lo, LooseQ ops ps H.next [] q) ∧ ∃ p, ps.getLast? = some p ∧ R .normal p.1 p.2) : WK cf fuel (.regd ops lo []) l H R := by
  unfold WK
  intro tm ht
  obtain ⟨tr, ps, h1, h2, h3, p, h5, h6⟩ := h tm ht
  obtain ⟨tm', g1, g2⟩ := h2.last h5
  refine W.regd k hk ⟨tr, h1, ?_, rfl, _, g1, p.1, g2, h6⟩
  rw [List.all_eq_true]
  intro q hq
  rcases h3 q hq with ⟨d, op, g, b, l1, H1, q1, q2, q3⟩ | ⟨d, op, g, b, l1, H1, v, q1, q2, q0, q3, q4, q5⟩
  · obtain ⟨t1, r1, r2⟩ := h2.at q2
    unfold looseOk
    rw [q1, r1]
    have hw : wantedA t1 ⟨d, op, some (g, b)⟩ = some false := by simp only [wantedA, r2 _ _ q3]; cases b <;> rfl
    simp only [hw]
  · obtain ⟨t1, r1, r2⟩ := h2.at q2
    have hev : ∀ (H' : AHeap), xop (St.ev t1) H' 0 op = xop (evK l1) H' 0 op := fun H' => xop_congr fun x hx => by
      have := List.all_eq_true.1 q3 x hx
      cases e : evK l1 x with
      | none => rw [e] at this; cases this
      | some u => exact r2.ev e
    unfold looseOk
    rw [q1, r1]
    have hw : wantedA t1 ⟨d, op, some (g, b)⟩ = some true := by simp only [wantedA, r2 _ _ q0]; simp
    simp only [hw]
    rw [hev, q4]
    simp only
    rw [List.all_eq_true]
    intro j hj
    obtain ⟨pj, s1, s2⟩ := q5 j hj
    obtain ⟨tj, s3, _⟩ := h2.at s1
    rw [s3]
    simp only
    rw [hev, s2]
    exact AV.beq_refl v
end Go.Eng
namespace Go.Proofs.Ytpbighinamljbaa.PA
open Go Go.Eng Go.Proofs
theorem frontE {z : Nat} {H : AHeap} {v : AV} {l m : Nat} {cs : List AV} (h : RowE z H v l cs) (hm : m ≤ l) (ev : XO → Option AV) (x : XO) (k : IntKind) (hx : ev x = some (.int k (m : Int))) :
    ∃ v', cutA ev z v none (some x) none = some v' ∧ RowE z H v' m (cs.take (m * z)) ∧ v'.own = v.own := by
  by_cases h0 : 0 < l
  · rcases h with h | ⟨q, _⟩
    · obtain ⟨v', h1, h2, h3⟩ := h.front hm h0 ev x k hx
      exact ⟨v', h1, .inl h2, h3⟩
    · omega
  · have hm0 : m = 0 := by omega
    have hl0 : l = 0 := by omega
    subst hm0
    subst hl0
    have hcs : cs = [] := List.eq_nil_of_length_eq_zero (by have := h.csl; omega)
    subst hcs
    refine ⟨v, ?_, by simpa using h, rfl⟩
    rcases h with ⟨_, ⟨rfl, _⟩ | ⟨i, full, rfl, _⟩⟩ | ⟨_, _, i, rfl, _⟩
    · unfold cutA
      simp only [bounds, obnd, hiBnd, hx, Option.bind_some, bndA_nat (Nat.le_refl 0)]
    · unfold cutA
      simp only
      rw [if_neg (by decide)]
      simp only [bounds, obnd, hiBnd, hx, Option.bind_some, bndA_nat (Nat.le_refl 0)]
      rw [Nat.sub_zero, if_pos (by decide)]
      simp
    · unfold cutA
      simp only
      rw [if_pos (by decide), if_pos (by omega)]
      simp only [bounds, obnd, hiBnd, hx, Option.bind_some, bndA_nat (Nat.le_refl 0)]
      simp
theorem prsC_takeT (l : Prs) (m : Nat) : (prsC l).take (m * 2) = prsC (l.take m) := by
  induction l generalizing m with
  | nil => simp [prsC]
  | cons c l ih =>
    cases m with
    | zero => simp [prsC]
    | succ m =>
      have e : ∀ (c : Nat × Nat) (l : Prs), prsC (c :: l) = nA c.1 :: nA c.2 :: prsC l := fun _ _ => rfl
      rw [show (m + 1) * 2 = m * 2 + 2 by omega, e, List.take_succ_cons, List.take_succ_cons, List.take_succ_cons, e, ih]
end Go.Proofs.Ytpbighinamljbaa.PA
namespace Go.Proofs.Ytpbighinamljbaa.PA
open Go Go.Eng Go.Proofs
theorem WKO.cutE {cf : CF} {n m d len : Nat} {H H0 : AHeap} {K : KL0} {x y : XO} {L : AV} {cs : List AV} {r : List XOper} {R : KL0 → AHeap → Prop} (hR : RowE 2 H0 L len cs) (hm : m ≤ len) (hx : evK K x = some L) (hy : evK K y = some (.int .i64 (m : Int))) (ha : allSm K (XOp.cut 2 x none (some y) none).opnds = true)
    (k : ∀ M, RowE 2 H0 M m (cs.take (m * 2)) → M.own = L.own → WKO cf r (n + 1) ((d, M) :: K) H R) : WKO cf (⟨some d, .cut 2 x none (some y) none, none⟩ :: r) n K H R := by
  obtain ⟨M, m1, m2, m3⟩ := frontE hR hm (evK K) y .i64 hy
  exact WKO.op (v := M) (k_any (op_cut hx m1)) ha (k M m2 m3)
set_option maxHeartbeats 2000000 in
theorem x6 {k fuel : Nat} {H0 : AHeap} {x : Prs} (hx : ∀ p ∈ x, p.1 < 256 ∧ p.2 < 256) (hcl : Go.Eng.Clean H0) (hfu : 100 < fuel) :
    ∃ u H', xfunc (cfG (k + 15)) fuel L6 [.imm (arrC x) x.length false] H0 = some (u, H') ∧ u = .bool true ∧ True := by
  refine xfunc_ofK rfl (by show 1 ≤ 92; omega) ?_
  have hcc := cfG_clean (k + 15)
  unfold L6
  dsimp only
  repeat' (first | refine WK.seqC (by assumption) ?_ | intro (_ : CleanTo _ _) | (apply WK.reg; (· exact lnn)) | (refine WKO.callV rfl rfl rfl (g_22 hx) ?_; rintro _ H1 ⟨n, l, L, rfl, hM, hR, ho, hk1⟩) | refine WKO.nil ?_ | ((first | apply WKO.op); (· first | exact k_mv rfl | exact opA); (· rfl)) | refine pN ?_ | fail)
  rename_i cc c0
  have hC1 : Go.Eng.Clean H1 := c0.1 (cc.1 hcl)
  obtain ⟨heg, htl, htr, hbr⟩ := made_tree hM
  have hn1 := hM.n1
  have hn10 := hM.n10
  have hl30 := hM.len
  generalize ht : l.take (n - 1) = t at *
  have hG : Gph n t := ⟨hn1, hn10, by omega, heg, con_tree hn1 hn10 heg htr⟩
  have hN := hG.nok
  obtain ⟨sd, hsd⟩ := hbr hN
  have hNl := nearN_len n t
  repeat' (first | fail)
  have hw : wrapA .i64 ((n : Int) - Int.ofNat 1) = ((n - 1 : Nat) : Int) := by
    rw [show (n : Int) - Int.ofNat 1 = ((n - 1 : Nat) : Int) by simp; omega]
    exact wrapI _ (by omega) (by omega)
  rw [hw]
  refine WKO.cutE (m := n - 1) hR (by have := hM.nl; omega) rfl rfl rfl fun M m2 m3 => ?_
  rw [prsC_takeT, ht, ← htl] at m2
  have hXt : RdR 2 H1 M t.length (prsC t) := RdR.of m2
  repeat' (first | refine WK.seqC (by assumption) ?_ | intro (_ : CleanTo _ _) | (apply WK.reg; (· exact lnn)) | refine WKO.nil ?_ | ((first | apply WKO.op); (· first | exact k_mv rfl); (· rfl)) | refine pN ?_ | fail)
  rename_i c2
  have hXt1 : RdR 2 ((H1.bump 5).bump 10) M t.length (prsC t) := hXt.kp ((Kp.bump 5).trans (Kp.bump 10))
  have hCb : Go.Eng.Clean (H1.bump 5) := c2.1 hC1
  refine WKO.callV rfl rfl rfl (g_18 (n := (n : Int)) hXt1.zP (clean_eqm hCb rfl (by simp only [next_bump]; omega))) ?_
  rintro _ H5 (⟨hbad, _⟩ | ⟨_, C, cs, best, rfl, hcen, hO, hOo, hk5⟩)
  · rw [hG.cg] at hbad; cases hbad
  rw [gph_N] at hcen
  have hk15 : Kp H1 H5 := ((Kp.bump 5).trans (Kp.bump 10)).trans hk5
  have hXt5 := hXt.kp hk15
  have hrc := cen_ris hcen
  have hlc := cen_len hcen
  have hltc := cen_lt hcen
  rw [hNl] at hrc hlc hltc
  have hlenC := hO.rd.len
  obtain ⟨a, hal, hTa⟩ := cen_ex hcen
  have hac : a ∈ cs := (cen_mem hcen).2 ⟨hal, hTa⟩
  have hcl0 : 0 < cs.length := List.length_pos_of_mem hac
  have hC6 : ∀ {H' : AHeap}, H'.m = H5.m → H5.next ≤ H'.next → RdR 1 H' C cs.length (cs.map nA) := fun q1 q2 => hO.rd.kp (Kp.eqm q1 q2)
  have c24 : ∀ {H' : AHeap}, H'.m = H5.m → H5.next ≤ H'.next → cfG (k + 15) 24 [nA n, C] H' = some (.bool true, H') := fun q1 q2 => by
    rw [g_24 (cellsA_rd (hC6 q1 q2)) hn1 (by omega) (by omega), hrc]
  repeat' (first | refine WK.seqC (by assumption) ?_ | intro (_ : CleanTo _ _) | refine WK.skip ?_ | refine WK.ret ?_ | (apply WK.reg; (· exact lnn)) | refine WKO.nil ?_ | ((first | apply WKO.op | ((first | apply WKO.gop); (· rfl); (· exact dcd))); (· first | exact k_mv rfl | exact k_lenL rfl hlenC | (apply k_call; (· rfl); (· rfl); (· exact c24 (by rfl) (by simp only [next_bump]; omega))) | exact k_call rfl rfl g_17 | exact opA); (· rfl)) | refine pN ?_ | refine pR ?_ | (apply WK.condF; (· rfl); (· exact dcd)) | (apply WK.condD; (· rfl); all_goals intro _) | fail)
  all_goals (first | (rename_i q _ _ _; exact absurd rfl q) | (rename_i q _ _ _; exact absurd q (by decide)) | skip)
  · rename_i h1 _ _
    have hb0 : best = 0 := by
      have hl1 : (nearN n t).length = 1 := by rw [hNl, h1]
      have ha0 : a = 0 := by omega
      subst ha0
      have := hTa.le (j := 0) (by show 2 ^ 0 = 2 ^ (nearN n t).length - 1; rw [hl1])
      omega
    refine ⟨nofun, _, rfl, ?_, trivial⟩
    show AV.bool _ = _
    rw [hb0, decide_eq_true rfl]
  · rename_i hne1 c9
    have hXq : ∀ {H' : AHeap}, H'.m = H5.m → H5.next ≤ H'.next → RdR 2 H' M t.length (prsC t) := fun q1 q2 => hXt5.kp (Kp.eqm q1 q2)
    refine WKO.callV rfl rfl rfl (g_19 (k := k + 14) hn10 heg (hXq (by rfl) (by simp only [next_bump]; omega)) (by omega)) ?_
    rintro _ H6 ⟨i, rfl, i1, i2, i3, i4⟩
    have hNR := near_rd hNl i2 i3
    have hk56 : Kp H5 H6 := ((Kp.bump 21).trans ((Kp.bump 2).trans (Kp.bump 5))).trans ⟨by omega, i4⟩
    have hC7 : ∀ {H' : AHeap}, H'.m = H6.m → H6.next ≤ H'.next → RdR 1 H' C cs.length (cs.map nA) := fun q1 q2 => (hO.rd.kp hk56).kp (Kp.eqm q1 q2)
    have hN7 : ∀ {H' : AHeap}, H'.m = H6.m → H6.next ≤ H'.next → RdR 1 H' (.sl i 0 n n) (nearN n t).length ((nearN n t).map nA) := fun q1 q2 => hNR.kp (Kp.eqm q1 q2)
    obtain ⟨hc2, z, hz, hzs⟩ := star_main hN hsd (by rw [hNl]; omega) hcen
    have hbit : bitsN cs < 1024 := bitsN_lt (n := 10) _ 0 (by omega) fun v hv => by have := hltc v hv; omega
    repeat' (first | refine WK.seqC (by assumption) ?_ | intro (_ : CleanTo _ _) | refine WK.block ?_ | (apply WK.reg; (· exact lnn)) | refine WKO.nil ?_ | ((first | apply WKO.op); (· first | exact k_mv rfl); (· rfl)) | refine pN ?_ | fail)
    generalize hNN : nearN n t = N at *
    have hNt := hN.t
    obtain ⟨ok, hok⟩ : ∃ ok : Nat → Bool, ok = fun v => decide (sdiff (bitsN cs) (N.getD v 0 ||| 2 ^ v) = 0) := ⟨_, rfl⟩
    have hall : cs.any ok = true := by
      rw [List.any_eq_true]
      refine ⟨z, hz, ?_⟩
      rw [hok]
      refine decide_eq_true (Nat.eq_of_testBit_eq fun w => ?_)
      rw [sdiff_bit, Nat.zero_testBit]
      cases e : (bitsN cs).testBit w with
      | false => rfl
      | true =>
        rw [Bool.true_and, Nat.testBit_or, Nat.testBit_two_pow]
        rcases hzs w (bitsN_bit.1 e) with q | q
        · rw [q]; simp
        · rw [q]; simp
    refine WK.loop (α := Nat × Bool) (fun p => [(5, C), (8, .sl i 0 n n), (9, .bool p.2), (10, nA p.1)]) (fun p H => p.1 ≤ cs.length ∧ p.2 = (cs.take p.1).any ok ∧ H.m = H6.m ∧ H6.next ≤ H.next) (fun p => cs.length - p.1) (0, false) (.cons rfl <| .cons rfl <| .cons rfl <| .cons rfl <| .nil _) ⟨Nat.zero_le _, rfl, rfl, by simp only [next_bump]; omega⟩ (by dsimp only; omega) ?_
    rintro ⟨j, st⟩ H7 ⟨d1, d2, d3, d4⟩
    dsimp only at d1 d2 d3 d4 ⊢
    by_cases hj : j < cs.length
    · have hgj : (cs.map nA)[j * 1]? = some (nA (cs.getD j 0)) := by rw [Nat.mul_one]; exact map_at hj
      have hvn : cs.getD j 0 < n := by
        rw [List.getD_eq_getElem?_getD, List.getElem?_eq_getElem hj]
        exact hltc _ (List.getElem_mem hj)
      have htk : (cs.take (j + 1)).any ok = ((cs.take j).any ok || ok (cs.getD j 0)) := by
        rw [List.take_add_one, List.getD_eq_getElem?_getD, List.getElem?_eq_getElem hj, List.any_append]
        simp
      generalize hv : cs.getD j 0 = v at *
      have hgN : (N.map nA)[v * 1]? = some (nA (N.getD v 0)) := by rw [Nat.mul_one]; exact map_at (by omega)
      have hNv := getD_lt10 hNt v
      have hpv := pow10 (b := v) (by omega)
      have hor : N.getD v 0 ||| 2 ^ v < 1024 := or10 hNv hpv
      repeat' (first | refine WK.seqC (by assumption) ?_ | intro (_ : CleanTo _ _) | refine WK.skip ?_ | refine WK.block ?_ | (apply WK.reg; (· exact lnn)) | refine WKO.nil ?_ | ((first | apply WKO.op); (· first | exact k_mv rfl | exact k_lenL rfl hlenC | exact opA); (· rfl)) | refine pN ?_ | (apply WK.condT; (· rfl); (· exact dcd)) | fail)
      refine WK.regQ (k := 21) rfl ?_
      generalize hB : AHeap.bump _ 4 = HB
      have hBm : HB.m = H6.m := by rw [← hB]; exact d3
      have hBn : H6.next ≤ HB.next := by rw [← hB]; simp only [next_bump]; omega
      have hCB : RdR 1 (HB.bump 21) C cs.length (cs.map nA) := hC7 hBm (by simp only [next_bump]; omega)
      have hNB : RdR 1 (HB.bump 21) (.sl i 0 n n) N.length (N.map nA) := hN7 hBm (by simp only [next_bump]; omega)
      cases st with
      | true =>
        repeat' (first | refine WKT.nil ?_ | ((first | apply WKT.op); (· first | exact k_mv rfl | exact opA); (· rfl)) | ((first | apply WKT.gnoF); (· rfl); (· exact dcd)) | fail)
        refine ⟨fun q hq => ?_, (_, HB.bump 21), rfl, ?_⟩
        · have hq' : q = (8, [3], []) ∨ q = (10, [3], []) ∨ q = (14, [3], []) := by simpa using hq
          rcases hq' with rfl | rfl | rfl <;> exact .inl ⟨_, _, _, _, _, _, rfl, rfl, rfl⟩
        · dsimp only
          repeat' (first | intro (_ : CleanTo _ _) | (apply WK.reg; (· exact lnn)) | refine WKO.nil ?_ | ((first | apply WKO.op); (· first | exact k_mv rfl | exact opA); (· rfl)) | refine pN ?_ | refine bN ?_ | fail)
          exact ⟨(j + 1, true), (.cons rfl <| .cons rfl <| .cons rfl <| .cons rfl <| .nil _), ⟨hj, by dsimp only; rw [htk, ← d2]; rfl, hBm, by simp only [next_bump]; omega⟩, by dsimp only; omega⟩
      | false =>
        have c25 : cfG (k + 15) 25 [C] (HB.bump 21) = some (nA (bitsN cs), HB.bump 21) := g_25 (cellsA_rd hCB) (by omega) (fun v hv => by have := hltc v hv; omega)
        repeat' (first | refine WKT.nil ?_ | ((first | apply WKT.op | ((first | apply WKT.gop); (· rfl); (· exact dcd))); (· first | exact k_mv rfl | exact k_iaE rfl rfl hCB hj | (apply k_ldY; (· rfl); (· exact hCB); (· exact fun _ _ => rfl); (· exact hgj)) | exact k_iaE rfl rfl hNB (by omega) | (apply k_ldY; (· rfl); (· exact hNB); (· exact fun _ _ => rfl); (· exact hgN)) | exact k_call rfl rfl c25 | exact k_shl1 rfl rfl (by omega) | exact k_orN rfl rfl (by omega) (by omega) | exact k_difN rfl rfl (by omega) (by omega) | exact opA); (· rfl)) | fail)
        refine ⟨fun q hq => ?_, (_, HB.bump 21), rfl, ?_⟩
        · have hq' : q = (8, [3], []) ∨ q = (10, [3], []) ∨ q = (14, [3], []) := by simpa using hq
          rcases hq' with rfl | rfl | rfl
          · refine .inr ⟨_, _, _, _, _, _, nA v, rfl, rfl, rfl, rfl, xop_ldE rfl hCB (fun _ _ => rfl) hgj, fun j hj => ?_⟩
            have hj' : j = 8 ∨ j = 3 ∨ j = 4 := by simpa using hj
            rcases hj' with rfl | rfl | rfl <;> exact ⟨_, rfl, xop_ldE rfl hCB (fun _ _ => rfl) hgj⟩
          · refine .inr ⟨_, _, _, _, _, _, nA (N.getD v 0), rfl, rfl, rfl, rfl, xop_ldE rfl hNB (fun _ _ => rfl) hgN, fun j hj => ?_⟩
            have hj' : j = 10 ∨ j = 3 ∨ j = 4 := by simpa using hj
            rcases hj' with rfl | rfl | rfl <;> exact ⟨_, rfl, xop_ldE rfl hNB (fun _ _ => rfl) hgN⟩
          · refine .inr ⟨_, _, _, _, _, _, nA v, rfl, rfl, rfl, rfl, xop_ldE rfl hCB (fun _ _ => rfl) hgj, fun j hj => ?_⟩
            have hj' : j = 14 ∨ j = 3 ∨ j = 4 := by simpa using hj
            rcases hj' with rfl | rfl | rfl <;> exact ⟨_, rfl, xop_ldE rfl hCB (fun _ _ => rfl) hgj⟩
        · dsimp only
          repeat' (first | intro (_ : CleanTo _ _) | (apply WK.reg; (· exact lnn)) | refine WKO.nil ?_ | ((first | apply WKO.op); (· first | exact k_mv rfl | exact opA); (· rfl)) | refine pN ?_ | refine bN ?_ | fail)
          exact ⟨(j + 1, ok v), (.cons rfl <| .cons rfl <| .cons (by rw [hok]; rfl) <| .cons rfl <| .nil _), ⟨hj, by dsimp only; rw [htk, ← d2]; rfl, hBm, by simp only [next_bump]; omega⟩, by dsimp only; omega⟩
    · have hjl : j = cs.length := by omega
      subst hjl
      rw [List.take_length, hall] at d2
      subst d2
      repeat' (first | refine WK.seqC (by assumption) ?_ | intro (_ : CleanTo _ _) | refine WK.ret ?_ | refine WK.exit ?_ | (apply WK.reg; (· exact lnn)) | refine WKO.nil ?_ | ((first | apply WKO.op | ((first | apply WKO.gop); (· rfl); (· exact dcd))); (· first | exact k_mv rfl | exact k_lenL rfl hlenC | exact opA); (· rfl)) | refine pN ?_ | refine pX ?_ | refine bX ?_ | (apply WK.condF; (· rfl); (· exact dcd)) | fail)
      exact ⟨nofun, _, rfl, rfl, trivial⟩
end Go.Proofs.Ytpbighinamljbaa.PA
namespace Go.Proofs.Ytpbighinamljbaa.PA
open Go Go.Eng Go.Proofs Go.RowKit Go.ChangeShapes Go.Deep
instance : Inhabited (Nat × Nat) := ⟨(0, 0)⟩
theorem u8_nat {n : Int} (h : (Lit.int .u8 n).wf = true) : ∃ m : Nat, n = (m : Int) ∧ m < 256 := by
  simp [Lit.wf, IntKind.min, IntKind.max, IntKind.signed, IntKind.bits] at h
  exact ⟨n.toNat, by omega, by omega⟩
theorem relL_arr {E : Env} {w : World} : ∀ x : Prs, AVRelL E w (arrC x) (x.flatMap fun p => [Value.int .u8 (p.1 : Int), Value.int .u8 (p.2 : Int)])
  | [] => by simp [arrC, AVRelL]
  | p :: x => by
    have := relL_arr (E := E) (w := w) x
    simp only [arrC, List.flatMap_cons, List.cons_append, List.nil_append, AVRelL, AVRel] at this ⊢
    exact ⟨_, _, rfl, rfl, _, _, rfl, rfl, this⟩
theorem arr_vals : ∀ (x : Prs) (j : Nat) (u : Value), (x.flatMap fun p => [Value.int .u8 (p.1 : Int), Value.int .u8 (p.2 : Int)])[j]? = some u →
    ∃ i p, x[i]? = some p ∧ ((j = i * 2 ∧ u = .int .u8 (p.1 : Int)) ∨ (j = i * 2 + 1 ∧ u = .int .u8 (p.2 : Int)))
  | [], j, u, h => by simp at h
  | p :: x, 0, u, h => by simp at h; exact ⟨0, p, rfl, .inl ⟨rfl, h.symm⟩⟩
  | p :: x, 1, u, h => by simp at h; exact ⟨0, p, rfl, .inr ⟨rfl, h.symm⟩⟩
  | p :: x, j + 2, u, h => by
    have h' : (x.flatMap fun p => [Value.int .u8 (p.1 : Int), Value.int .u8 (p.2 : Int)])[j]? = some u := by simpa using h
    obtain ⟨i, q, h1, h2⟩ := arr_vals x j u h'
    refine ⟨i + 1, q, by simpa using h1, ?_⟩
    rcases h2 with ⟨rfl, h2⟩ | ⟨rfl, h2⟩
    · exact .inl ⟨by omega, h2⟩
    · exact .inr ⟨by omega, h2⟩
section
variable {H : Type} {enc : TypeId × Value → H} {P : Program} {w : World} {base : Nat} {held : Bool}
theorem open_arr2 {spare : Nat → Bool} {t e : TypeId} {fuel : Nat} {cs : List Value} {x : DataW H × List MemPlace} (ht : P.underlying t = some (.array 2 e)) (he : P.underlying e = some (.int .u8)) (ct : P.cellsOf t = 2) (ce : P.cellsOf e = 1)
    (h : DataW.trod enc P w base spare held fuel t cs = some x) : ∃ p : Nat × Nat, cs = [.int .u8 (p.1 : Int), .int .u8 (p.2 : Int)] ∧ p.1 < 256 ∧ p.2 < 256 := by
  obtain ⟨xs, m, _, _, hlen, hl, hel⟩ := DataW.trod_array ht h
  rw [ct] at hlen
  have h0 := hel 0 (by omega)
  have h1 := hel 1 (by omega)
  rw [List.getElem?_eq_getElem (by omega)] at h0 h1
  rw [ce] at h0 h1
  obtain ⟨n0, e0, _, w0⟩ := DataW.trod_int he h0
  obtain ⟨n1, e1, _, w1⟩ := DataW.trod_int he h1
  match cs, hlen with
  | [a, b], _ =>
    simp at e0 e1
    obtain ⟨m0, rfl, l0⟩ := u8_nat w0
    obtain ⟨m1, rfl, l1⟩ := u8_nat w1
    exact ⟨(m0, m1), by rw [e0, e1], l0, l1⟩
theorem read_input {t te e : TypeId} {v : Value} {d : DataW H} {ps : List MemPlace} (ht : P.underlying t = some (.slice te)) (hte : P.underlying te = some (.array 2 e)) (he : P.underlying e = some (.int .u8)) (ct : P.cellsOf te = 2) (ce : P.cellsOf e = 1)
    {a0 : Option Addr} {len cap : Nat} (hv : v = .slice a0 len cap) (h : DataW.Trod enc P w base (fun _ => true) held t v d ps) :
    ∃ x : Prs, (∀ p ∈ x, p.1 < 256 ∧ p.2 < 256) ∧ AVRel (E0 w) w (.imm (arrC x) x.length false) v := by
  subst hv
  obtain ⟨fuel, hf⟩ := h
  have hf' : DataW.trod enc P w base (fun _ => true) held fuel t [.slice a0 len cap] = some (d, ps) := hf
  rcases open_slice ht hf' with ⟨h0, _⟩ | ⟨a, len', cap', m, n, D, Pl, h0, hb, hl, hm, hmm, _, hx⟩
  · cases h0
    refine ⟨[], by simp, ?_⟩
    simp only [AVRel]
    exact .inl ⟨rfl, rfl, none, 0, rfl, by simp⟩
  · cases h0
    by_cases hz : len = 0
    · subst hz
      refine ⟨[], by simp, ?_⟩
      simp only [AVRel]
      exact .inl ⟨rfl, rfl, some a, cap, rfl, by simp⟩
    · have hmc : m = cap := by simpa using hmm
      obtain ⟨f, hfn⟩ := choose_lt (n := len) (p := fun i p => w.cell? (a.add (i * 2)) = some (.int .u8 ((p : Nat × Nat).1 : Int)) ∧ w.cell? (a.add (i * 2 + 1)) = some (.int .u8 (p.2 : Int)) ∧ p.1 < 256 ∧ p.2 < 256) (fun i hi => by
        obtain ⟨cs', h1, h2⟩ := hx i (by omega)
        obtain ⟨p, rfl, q1, q2⟩ := open_arr2 hte he ct ce h2
        rw [ct] at h1
        obtain ⟨_, _, hcell⟩ := World.cells?_some h1
        have e0 := hcell 0 (by omega)
        have e1 := hcell 1 (by omega)
        rw [add_add] at e0 e1
        exact ⟨p, by simpa using e0, by simpa using e1, q1, q2⟩)
      have hs : a.spot = none := by
        have h0 := (hfn 0 (by omega)).1
        rw [Nat.zero_mul] at h0
        have h0' : w.cell? a = some (.int .u8 ((f 0).1 : Int)) := by simpa [Addr.add] using h0
        unfold World.cell? at h0'
        split at h0'
        · split at h0'
          · cases h0'
          · rename_i q
            simpa using q
        · cases h0'
      obtain ⟨b, s, sp⟩ := a
      simp only at hs
      subst hs
      have hadd : ∀ j, (⟨b, s, none⟩ : Addr).add j = ⟨b, s + j, none⟩ := fun j => by
        unfold Addr.add
        split
        · rename_i q; subst q; rfl
        · rfl
      refine ⟨(List.range len).map f, fun p hp => ?_, ?_⟩
      · simp only [List.mem_map, List.mem_range] at hp
        obtain ⟨i, hi, rfl⟩ := hp
        exact (hfn i hi).2.2
      · simp only [AVRel, List.length_map, List.length_range]
        refine .inr ⟨b, s, cap, _, rfl, ?_, fun j u hu => ?_, relL_arr _, hl, by simp⟩
        · have h0 := (hfn 0 (by omega)).1
          rw [hadd] at h0
          exact World.block_lt_of_cell? _ _ h0
        · obtain ⟨i, p, h1, h2⟩ := arr_vals _ _ _ hu
          rw [List.getElem?_map, Option.map_eq_some_iff] at h1
          obtain ⟨i', h1, rfl⟩ := h1
          have hi' : i < len := by
            rcases Nat.lt_or_ge i len with q | q
            · exact q
            · rw [List.getElem?_eq_none (by simpa using q)] at h1; cases h1
          rw [List.getElem?_range hi'] at h1
          cases h1
          rcases h2 with ⟨rfl, rfl⟩ | ⟨rfl, rfl⟩
          · rw [← hadd]; exact (hfn i hi').1
          · rw [← hadd]; exact (hfn i hi').2.1
end
end Go.Proofs.Ytpbighinamljbaa.PA
namespace Go.Proofs.Ytpbighinamljbaa.newsTree
open Go Go.ChangeShapes Go.WideShapes Go.ChangeAt Go.RowKit Go.Eng
theorem own : ownKnob Try.prog.godebug = none := by kernel_rfl
theorem laidOut : laidOutB Try.prog = true := by kernel_rfl
theorem call (w : World) (x : PA.Prs) (v : Value) (hx : ∀ p ∈ x, p.1 < 256 ∧ p.2 < 256) (hv : AVRel (E0 w) w (.imm (PA.arrC x) x.length false) v) :
    Calls Try.prog 6 #[v] w fun e w' => e = .returned (.bool true) ∧ Below w.heap.size w w' := by
  obtain ⟨u, H', h1, rfl, _⟩ := PA.x6 (k := 0) (fuel := 2000) (H0 := ⟨.e, 0⟩) hx (fun _ _ => rfl) (by omega)
  have h2 : PA.cfG 16 6 [.imm (PA.arrC x) x.length false] ⟨.e, 0⟩ = some (.bool true, H') := (PA.cfG_step rfl rfl).trans h1
  have h3 := (PA.cfG_ok 16 _ _ _ _ _ h2).2 (E0 w) w [v] (rel0 w) (by
    simp only [AVRelL]
    exact ⟨_, _, rfl, hv, rfl⟩)
  refine h3.mono fun e w' ⟨u, E', he, hs, hr⟩ => ?_
  simp only [AVRel] at hr
  subst hr
  exact ⟨he, below0 hs⟩
set_option maxRecDepth 100000 in
theorem lifted (os : Os) (started : os.Started) (H : Type) (enc : TypeId × Value → H) :
    ReturnsInHanded {} Try.checked os 6 .any (Rows.newsTreeSpec.pre6 enc Try.prog Try.f6 Rows.newsTreeRow.domain false) (Rows.newsTreeSpec.post enc Try.prog Try.f6 false true false false) := by
  refine returnsInHanded_of_change (C := Try.checked) own started (by kernel_rfl) Try.func6
    (ChangeSpec.witness6 (enc := enc) (C := Try.checked) false ⟨#[], #[.slice none 0 0], []⟩ 8 (by kernel_rfl) (by kernel_rfl) (by kernel_rfl) (by kernel_rfl)) ?_
  intro W base args ds gs before hval0 hW hcnd _
  have hval : ∀ (j : Nat) t v, Try.f6.params[j]? = some t → args[j]? = some v → Value.okWide Try.prog W .any base t v := hval0
  have hW' := hW
  obtain ⟨p, q, hA0, hV, rfl, hfz, hnd⟩ := hW
  have hA : DataW.TrodAll enc Try.prog W 0 (fun _ => true) true Try.f6.params.toList args.toList ds p := hA0
  rw [Try.params6] at hA hval
  obtain ⟨v0, d0, rfl, rfl, h0⟩ := trodAll_one hA
  obtain ⟨rfl, rfl⟩ := trodVars_none hV
  obtain ⟨a0, len, cap, hv0⟩ := okWide_slice Try.underlying36 (hval 0 36 v0 rfl rfl)
  obtain ⟨x, hx, hrel⟩ := PA.read_input Try.underlying36 Try.underlying74 Try.underlying5 (by kernel_rfl) (by kernel_rfl) hv0 h0
  clear hA0 hval0
  refine (call W x v0 hx hrel).mono fun e W' ⟨he, bel⟩ => ?_
  subst he
  have hlt : ∀ x ∈ p, x.block < W.heap.size := fun x hx => by simpa using hW'.lt x (by simp [hx])
  exact ⟨_, rfl, _, _, _, [], _, [], hW', trodAll_mk1 (shut_bool Try.underlying4 _), trodAll_mk1 (Below.trod laidOut (by kernel_rfl) (of_decide_eq_true (by kernel_rfl)) h0 bel hlt), rfl, bel.frame _, fun h => by cases h⟩
end Go.Proofs.Ytpbighinamljbaa.newsTree
namespace Go.Proofs.Ytpbighinamljbaa
open Go
theorem newsTree_holds : Rows.NewsTreeSaid :=
  OpenClaim.holds_of_wide 6 Try.f6 rfl rfl rfl rfl rfl rfl rfl ⟨rfl, rfl, rfl, rfl, rfl⟩ rfl rfl rfl rfl rfl (by kernel_rfl) Try.func6 (by kernel_rfl)
    (of_decide_eq_true (by kernel_rfl)) (by unfold Func.isWrapper; first | (rw [if_pos (by decide +kernel)]; kernel_rfl) | (rw [if_neg (by decide +kernel)]; exact ⟨rfl, rfl⟩))
    (fun os started H enc _ => newsTree.lifted os started H enc)
#print axioms newsTree_holds
end Go.Proofs.Ytpbighinamljbaa
