/- What the machine runs leaves no object at or behind the next name. No condition. -/
import Derived.Test.YtpbighinamljbaaCalm
import Derived.Test.YtpbighinamljbaaEngC
set_option linter.unusedSimpArgs false
set_option linter.unusedVariables false
namespace Go.Eng
def Clean (H : AHeap) : Prop := ∀ j, H.next ≤ j → H.get j = none
/-- The heap is clean behind, and no name is given back. -/
def CleanTo (H H' : AHeap) : Prop := (Clean H → Clean H') ∧ H.next ≤ H'.next
def CleanCF (cf : CF) : Prop := ∀ f args H v H', cf f args H = some (v, H') → CleanTo H H'

theorem CleanTo.refl (H : AHeap) : CleanTo H H := ⟨id, Nat.le_refl _⟩
theorem CleanTo.trans {a b c : AHeap} (h : CleanTo a b) (k : CleanTo b c) : CleanTo a c := ⟨fun q => k.1 (h.1 q), Nat.le_trans h.2 k.2⟩
theorem clean_bump (H : AHeap) (k : Nat) : CleanTo H (H.bump k) := ⟨fun h j hj => h j (by rw [next_bump] at hj; omega), by rw [next_bump]; omega⟩
theorem clean_add (H : AHeap) (o : AObj) : CleanTo H (H.add o) := ⟨fun h j hj => by
  rw [next_add] at hj
  rw [AHeap.get_add, if_neg (by omega)]
  exact h j (by omega), by rw [next_add]; omega⟩
theorem clean_set {H : AHeap} {i : Nat} {o : Option AObj} (hi : i < H.next ∨ H.get i ≠ none ∨ o = none) : CleanTo H (H.set i o) := ⟨fun h j hj => by
  rw [next_set] at hj
  rw [AHeap.get_set]
  split
  · rename_i q
    subst q
    rcases hi with p | p | p
    · omega
    · exact absurd (h j hj) p
    · exact p
  · exact h j hj, by rw [next_set]; omega⟩
theorem clean_some {H : AHeap} {i : Nat} {o : Option AObj} {p : AObj} (h : H.get i = some p) : CleanTo H (H.set i o) := clean_set (.inr (.inl (by rw [h]; simp)))

theorem ofV_eff {o : Option AV} {x : AV} {H : AHeap} (h : AR.ofV o = .eff x H) : False := by
  cases o <;> simp [AR.ofV] at h
theorem storeA_clean {H H' : AHeap} {n : Nat} {a x : AV} (h : storeA H n a x = some H') : CleanTo H H' := by
  simp only [storeA] at h
  split at h
  · cases h
  · split at h
    · split at h
      · rename_i hg
        split at h
        · cases h; exact clean_some hg
        · cases h
      · cases h
    · cases h
theorem mkSliceA_clean {H H' : AHeap} {z : List AV} {b : Nat} {l c v : AV} (h : mkSliceA H z b l c = .eff v H') : CleanTo H H' := by
  unfold mkSliceA at h
  split at h
  · split at h
    · cases h; exact clean_add _ _
    · cases h
  · cases h
theorem appA_clean {H H' : AHeap} {z b : Nat} {x y v : AV} (h : appA H z b x y = .eff v H') : CleanTo H H' := by
  unfold appA at h
  repeat' (split at h)
  all_goals first
    | (cases h; done)
    | (cases h; exact .refl _)
    | (cases h; exact clean_add _ _)
    | (cases h; exact clean_some ‹_›)
    | (cases h; exact (clean_set (.inr (.inr rfl))).trans (clean_add _ _))

theorem xop_clean {ev : XO → Option AV} {H H' : AHeap} {n : Nat} {op : XOp} {x : AV} (h : xop ev H n op = .eff x H') : CleanTo H H' := by
  cases op <;> simp only [xop] at h
  all_goals (try (exact (ofV_eff h).elim))
  all_goals (try (cases h; done))
  all_goals (repeat' (split at h))
  all_goals first
    | (cases h; done)
    | (exact (ofV_eff h).elim)
    | (cases h; exact .refl _)
    | (cases h; exact clean_add _ _)
    | (cases h; exact clean_some ‹_›)
    | (cases h; exact storeA_clean ‹_›)
    | (exact mkSliceA_clean h)
    | (exact appA_clean h)
    | skip

theorem xtrace_xops {cf : CF} : ∀ (ops : List XOper) (n : Nat) (s s' : St) (tr : List St), xtrace cf ops n s = some tr → tr.getLast? = some s' → xops cf ops n s = some s'
  | [], n, s, s', tr, h, hl => by
    cases h
    simpa [xops] using hl
  | o :: r, n, s, s', tr, h, hl => by
    simp only [xtrace] at h
    split at h
    · rename_i s1 h1
      obtain ⟨tr1, h2, rfl⟩ := Option.map_eq_some_iff.1 h
      simp only [xops, h1]
      refine xtrace_xops r (n + 1) s1 s' tr1 h2 ?_
      rw [List.getLast?_cons] at hl
      have hne := xtrace_len _ _ _ _ h2
      cases tr1 with
      | nil => simp at hne
      | cons a l =>
        rw [List.getLast?_eq_some_getLast (by simp)] at hl ⊢
        exact hl
    · cases h
theorem loopF_clean {body : St → Option (XE × St)} (hb : ∀ s e s', body s = some (e, s') → CleanTo s.H s'.H) : ∀ (k : Nat) (s : St) (e : XE) (s' : St), loopF body k s = some (e, s') → CleanTo s.H s'.H
  | 0, s, e, s', h => by simp [loopF] at h
  | k + 1, s, e, s', h => by
    simp only [loopF] at h
    split at h
    · rename_i s1 h1
      exact (hb _ _ _ h1).trans (loopF_clean hb k s1 e s' h)
    · exact hb _ _ _ h
theorem mrun_clean {ok : St → Bool} {fin : St → St} {rnd : AV × AV → St → Option (XE × St)} {out : Nat} (hf : ∀ s, CleanTo s.H (fin s).H) (hr : ∀ p s e s', rnd p s = some (e, s') → CleanTo s.H s'.H) : ∀ (l : List (AV × AV)) (s : St) (e : XE) (s' : St), mrun ok fin rnd out l s = some (e, s') → CleanTo s.H s'.H
  | [], s, e, s', h => by
    simp only [mrun] at h
    split at h
    · cases h; exact hf s
    · cases h
  | p :: r, s, e, s', h => by
    simp only [mrun] at h
    split at h
    · split at h
      · rename_i s1 h1
        exact (hr _ _ _ _ h1).trans (mrun_clean hf hr r s1 e s' h)
      · rename_i i s1 h1
        split at h <;> cases h <;> exact hr _ _ _ _ h1
      · exact hr _ _ _ _ h
    · cases h
theorem meetR_clean {e : XE} : ∀ (l : List (Option (XE × St))) (s : St) (e' : XE) (s' : St), meetR e s l = some (e', s') → CleanTo s.H s'.H
  | [], s, e', s', h => by
    simp only [meetR, Option.some.injEq, Prod.mk.injEq] at h
    obtain ⟨_, rfl⟩ := h
    exact .refl _
  | some (e1, s1) :: r, s, e', s', h => by
    simp only [meetR] at h
    split at h
    · have c := meetR_clean r _ e' s' h
      refine CleanTo.trans ?_ c
      refine ⟨fun q j hj => q j ?_, Nat.le_max_left _ _⟩
      exact Nat.le_trans (Nat.le_max_left _ _) hj
    · cases h
  | none :: r, s, e', s', h => by simp [meetR] at h
theorem meetAll_clean {H : AHeap} {l : List (Option (XE × St))} (hl : ∀ e s, some (e, s) ∈ l → CleanTo H s.H) {e : XE} {s : St} (h : meetAll l = some (e, s)) : CleanTo H s.H := by
  unfold meetAll at h
  split at h
  · rename_i e1 s1 r
    exact (hl e1 s1 (by simp)).trans (meetR_clean r s1 e s h)
  · cases h


section
variable {cf : CF} (hcf : CleanCF cf)
include hcf
theorem xval_clean {ev : XO → Option AV} {H H' : AHeap} {n : Nat} {op : XOp} {x : AV} (hn : n < H.next) (h : xval cf ev H n op = some (x, H')) : CleanTo H H' := by
  unfold xval at h
  split at h
  · split at h
    · exact hcf _ _ _ _ _ h
    · cases h
  · split at h
    · cases h
    · cases h; exact .refl _
    · cases h; exact clean_set (.inl hn)
    · cases h; exact xop_clean ‹_›
theorem xstep_clean {s s' : St} {n : Nat} {o : XOper} (hn : n < s.H.next) (h : xstep cf s n o = some s') : CleanTo s.H s'.H := by
  unfold xstep at h
  split at h
  · split at h
    · rename_i x H hx
      cases h
      exact xval_clean hcf hn hx
    · cases h
  · cases h; exact .refl _
  · cases h
theorem xops_clean : ∀ (ops : List XOper) (n : Nat) (s s' : St), n + ops.length ≤ s.H.next → xops cf ops n s = some s' → CleanTo s.H s'.H
  | [], n, s, s', _, h => by
    simp only [xops, Option.some.injEq] at h
    subst h
    exact .refl _
  | o :: r, n, s, s', hn, h => by
    simp only [xops] at h
    simp only [List.length_cons] at hn
    split at h
    · rename_i s1 h1
      have c1 := xstep_clean hcf (by omega) h1
      exact c1.trans (xops_clean r (n + 1) s1 s' (by have := c1.2; omega) h)
    · cases h
theorem region_clean {ops : List XOper} {s s' : St} (k : Nat) (hk : ops.length ≤ k) (h : xops cf ops s.H.next (Go.Eng.bump s k) = some s') : CleanTo s.H s'.H :=
  (clean_bump s.H k).trans (xops_clean hcf ops _ _ _ (by show s.H.next + ops.length ≤ s.H.next + k; omega) h)

theorem xcode_clean (fuel : Nat) : ∀ (c : XCode) (s : St) (e : XE) (s' : St), xcode cf fuel c s = some (e, s') → CleanTo s.H s'.H
  | .skip, s, e, s', h => by simp only [xcode] at h; cases h; exact .refl _
  | .exit _, s, e, s', h => by simp only [xcode] at h; cases h; exact .refl _
  | .ret, s, e, s', h => by simp only [xcode] at h; cases h; exact .refl _
  | .reg ops, s, e, s', h => by
    simp only [xcode] at h
    obtain ⟨s1, h1, h2⟩ := Option.map_eq_some_iff.1 h
    cases h2
    exact region_clean hcf _ (Nat.le_refl _) h1
  | .regd ops lo nn, s, e, s', h => by
    simp only [xcode] at h
    obtain ⟨s1, h1, h2⟩ := Option.map_eq_some_iff.1 h
    cases h2
    unfold xregionD at h1
    split at h1
    · rename_i tr htr
      split at h1
      · exact region_clean hcf _ (Nat.le_refl _) (xtrace_xops _ _ _ _ _ htr h1)
      · cases h1
    · cases h1
  | .seq a b, s, e, s', h => by
    simp only [xcode] at h
    split at h
    · rename_i s1 h1
      exact (xcode_clean fuel a _ _ _ h1).trans (xcode_clean fuel b _ _ _ h)
    · exact xcode_clean fuel a _ _ _ h
  | .cond c a b, s, e, s', h => by
    simp only [xcode] at h
    split at h
    · exact xcode_clean fuel a _ _ _ h
    · exact xcode_clean fuel b _ _ _ h
    · cases h
  | .block id c, s, e, s', h => by
    simp only [xcode] at h
    split at h
    · rename_i i s1 h1
      split at h <;> cases h <;> exact xcode_clean fuel c _ _ _ h1
    · exact xcode_clean fuel c _ _ _ h
  | .loop c, s, e, s', h => by
    simp only [xcode] at h
    exact loopF_clean (fun s e s' h => xcode_clean fuel c s e s' h) _ _ _ _ h
  | .mrange pre it m out nx mo nb pr rest code, s, e, s', h => by
    simp only [xcode] at h
    split at h
    · cases h
    · rename_i s1 h1
      have c1 := region_clean hcf _ (Nat.le_succ _) h1
      have hrnd : ∀ (p : AV × AV) (s : St) (e : XE) (s' : St), (match xops cf rest (s.H.next + 1) (Go.Eng.bump ⟨((s.tm.set nx none).set mo none).set pr (some (.tup [p.1, p.2])), s.H⟩ (rest.length + 1)) with
        | none => none
        | some s2 => match xcode cf fuel code s2 with
          | some (.exit i, s3) => if i = nb then some (.normal, s3) else some (.exit i, s3)
          | r => r) = some (e, s') → CleanTo s.H s'.H := by
        intro p s e s' h
        split at h
        · cases h
        · rename_i s2 h2
          have c2 : CleanTo s.H s2.H := (clean_bump s.H (rest.length + 1)).trans (xops_clean hcf rest _ _ _ (by show s.H.next + 1 + rest.length ≤ s.H.next + (rest.length + 1); omega) h2)
          refine c2.trans ?_
          split at h
          · rename_i i s3 h3
            split at h <;> cases h <;> exact xcode_clean fuel code _ _ _ h3
          · exact xcode_clean fuel code _ _ _ h
      refine c1.trans ?_
      have hfin : ∀ s : St, CleanTo s.H ((fun s : St => (⟨(s.tm.set nx none).set mo none, s.H⟩ : St)) s).H := fun s => .refl _
      split at h
      · rename_i i hi
        split at h
        · rename_i es hes
          obtain ⟨r, hr, hu⟩ := Option.bind_eq_some_iff.1 h
          have c3 : CleanTo s1.H ⟨s1.H.m.set i (some (.lmap es s1.H.next)), s1.H.next + 1⟩ := (clean_some hes).trans (clean_bump (s1.H.set i (some (.lmap es s1.H.next))) 1)
          have c4 : CleanTo s1.H r.2.H := by
            unfold mrounds at hr
            refine meetAll_clean (e := r.1) (s := r.2) (fun e s hs => ?_) hr
            obtain ⟨l, _, hl⟩ := List.mem_map.1 hs
            exact c3.trans (mrun_clean hfin hrnd _ _ _ _ hl)
          refine c4.trans ?_
          unfold unlockA at hu
          split at hu
          · rename_i hg
            split at hu
            · cases hu; exact clean_some hg
            · cases hu
          · cases hu
        · rename_i es tl hes
          unfold mrounds at h
          refine meetAll_clean (fun e s hs => ?_) h
          obtain ⟨l, _, hl⟩ := List.mem_map.1 hs
          exact (clean_bump s1.H 1).trans (mrun_clean hfin hrnd _ _ _ _ hl)
        · cases h
      · cases h
theorem xfunc_clean {fuel : Nat} {fn : XFunc} {args : List AV} {H H' : AHeap} {v : AV} (h : xfunc cf fuel fn args H = some (v, H')) : CleanTo H H' := by
  unfold xfunc at h
  split at h
  · cases h
  · split at h
    · rename_i e s hs
      have c := xcode_clean hcf fuel _ _ _ _ hs
      split at h
      · cases h
      · split at h
        · cases h; exact c
        · cases h; exact c
        · cases h
    · cases h
end
theorem xcallK_clean {K : CF} (hK : CleanCF K) {F : Nat → Option XFunc} {fuel : Nat} : ∀ k, CleanCF (xcallK K F fuel k)
  | 0 => hK
  | k + 1 => by
    intro f args H v H' h
    unfold xcallK at h
    split at h
    · rename_i r hr
      cases h
      exact hK _ _ _ _ _ hr
    · split at h
      · exact xfunc_clean (xcallK_clean hK k) h
      · cases h
end Go.Eng
