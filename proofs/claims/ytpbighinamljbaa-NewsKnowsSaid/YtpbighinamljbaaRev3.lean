/- news.ReversedLaw, over the abstract machine. No condition. -/
import Derived.Test.YtpbighinamljbaaRev2
set_option linter.unusedSimpArgs false
set_option linter.unusedVariables false
namespace Go.Proofs.Ytpbighinamljbaa.PA
open Go Go.Eng Go.Proofs
/-- What the comparison's outer loop keeps. -/
structure JO (H0 : AHeap) (n : Nat) (v1 v2 : AV) (i : Nat) (s : St) : Prop where
  le : i ≤ n
  t5 : s.tm.get 5 = some (natA n)
  t9 : s.tm.get 9 = some v1
  t11 : s.tm.get 11 = some v2
  t13 : s.tm.get 13 = some (natA i)
  nx : H0.next ≤ s.H.next
  fr : ∀ j, j < H0.next → s.H.get j = H0.get j
theorem callM_p2 {K : List Nat} {n : Nat} (hK : ∀ m ∈ K, m < 2 ^ n) (a b : Nat) : ∀ m ∈ callM K a b, m < 2 ^ n := by
  have hg : ∀ a, K.getD a 0 < 2 ^ n := fun a => by
    rw [List.getD_eq_getElem?_getD]
    cases h : K[a]? with
    | none => simp; exact Nat.two_pow_pos n
    | some m => exact hK m (List.mem_of_getElem? h)
  have hor : K.getD a 0 ||| K.getD b 0 < 2 ^ n := Nat.or_lt_two_pow (hg a) (hg b)
  intro m hm
  unfold callM at hm
  rcases List.mem_or_eq_of_mem_set hm with hm | rfl
  · rcases List.mem_or_eq_of_mem_set hm with hm | rfl
    · exact hK m hm
    · exact hor
  · exact hor
theorem runM_p2 {n : Nat} (l : Prs) : ∀ K : List Nat, (∀ m ∈ K, m < 2 ^ n) → ∀ m ∈ runM K l, m < 2 ^ n := by
  induction l with
  | nil => intro K h; exact h
  | cons p l ih => intro K h; exact ih _ (callM_p2 h _ _)
theorem begM_p2 (n : Nat) : ∀ m ∈ begM n, m < 2 ^ n := by
  intro m hm
  simp only [begM, List.mem_map, List.mem_range] at hm
  obtain ⟨i, hi, rfl⟩ := hm
  split
  · exact Nat.pow_lt_pow_right (by omega) ‹_›
  · exact Nat.two_pow_pos n
end Go.Proofs.Ytpbighinamljbaa.PA
