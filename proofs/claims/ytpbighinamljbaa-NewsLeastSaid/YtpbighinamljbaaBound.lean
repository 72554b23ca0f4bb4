/- Gossip of p people (two to six) takes so many calls at least. No condition. -/
import Derived.Test.YtpbighinamljbaaBoundA
import Derived.Test.YtpbighinamljbaaBoundB
import Derived.Test.YtpbighinamljbaaBoundC
import Derived.Test.YtpbighinamljbaaDone1
set_option linter.unusedSimpArgs false
set_option linter.unusedVariables false
namespace Go.Proofs.Ytpbighinamljbaa.PA
open Go Go.Eng Go.Proofs

set_option maxHeartbeats 4000000 in
theorem srch6 : srch 6 63 7 1 2 4 8 16 32 = true := by
  unfold srch
  rw [srch6_01, srch6_02, srch6_03, srch6_04, srch6_05, srch6_12, srch6_13, srch6_14, srch6_15, srch6_23, srch6_24, srch6_25, srch6_34, srch6_35, srch6_45]
  simp

theorem cnt_all {F : Nat} : ∀ (K : List Nat) (p : Nat), (∀ i, i < p → K.getD i 0 = F) → p ≤ K.length → p ≤ cntL F K
  | _, 0, _, _ => Nat.zero_le _
  | [], p + 1, _, h => by simp at h
  | x :: l, p + 1, h, hl => by
    have h0 : x = F := by simpa using h 0 (by omega)
    have h1 := cnt_all (F := F) l p (fun i hi => by simpa using h (i + 1) (by omega)) (by simpa using hl)
    have h2 : one F x = 1 := by rw [h0]; simp [one]
    simp only [cntL, h2]
    omega
theorem compl_iff {p : Nat} {K : List Nat} : compl p K = true ↔ ∀ i, i < p → K.getD i 0 = 2 ^ p - 1 := by
  unfold compl
  rw [List.all_eq_true]
  constructor
  · intro h i hi
    simpa using h i (List.mem_range.2 hi)
  · intro h i hi
    simpa using h i (List.mem_range.1 hi)
theorem compl_more {p : Nat} {K : List Nat} (hK : p ≤ K.length) (h : compl p K = true) {a b : Nat} (ha : a < p) (hb : b < p) : compl p (callM K a b) = true := by
  rw [compl_iff] at h ⊢
  intro i hi
  rw [callM_getD (by omega) (by omega)]
  split
  · rw [h a ha, h b hb, Nat.or_self]
  · exact h i hi
theorem compl_run {p : Nat} : ∀ (l : Prs) (K : List Nat), p ≤ K.length → compl p K = true → Vld p l → compl p (runM K l) = true
  | [], K, _, h, _ => h
  | c :: l, K, hK, h, hv => by
    have hc := hv c List.mem_cons_self
    exact compl_run l (callM K c.1 c.2) (by rw [callM_len]; exact hK) (compl_more hK h hc.1 hc.2.1) (fun q hq => hv q (List.mem_cons_of_mem _ hq))

/-- The least number of calls, as the document tells it. -/
def fewF (p : Nat) : Nat := if p < 4 then p * (p - 1) / 2 else 2 * p - 4
theorem srch_all {p : Nat} (h2 : 2 ≤ p) (h6 : p ≤ 6) : ∃ x0 x1 x2 x3 x4 x5, begM p = [x0, x1, x2, x3, x4, x5] ∧ srch p (2 ^ p - 1) (fewF p - 1) x0 x1 x2 x3 x4 x5 = true := by
  obtain rfl | rfl | rfl | rfl | rfl : p = 2 ∨ p = 3 ∨ p = 4 ∨ p = 5 ∨ p = 6 := by omega
  · exact ⟨1, 2, 0, 0, 0, 0, rfl, srch2⟩
  · exact ⟨1, 2, 4, 0, 0, 0, rfl, srch3⟩
  · exact ⟨1, 2, 4, 8, 0, 0, rfl, srch4⟩
  · exact ⟨1, 2, 4, 8, 16, 0, rfl, srch5⟩
  · exact ⟨1, 2, 4, 8, 16, 32, rfl, srch6⟩
theorem fewF_pos {p : Nat} (h2 : 2 ≤ p) (h6 : p ≤ 6) : 1 ≤ fewF p := by
  obtain rfl | rfl | rfl | rfl | rfl : p = 2 ∨ p = 3 ∨ p = 4 ∨ p = 5 ∨ p = 6 := by omega
  all_goals decide
theorem runM_two (K : List Nat) (l m : Prs) : runM K (l ++ m) = runM (runM K l) m := by simp [runM, List.foldl_append]
/-- The plain law: gossip takes so many calls. -/
theorem least_law {p : Nat} (h2 : 2 ≤ p) (h6 : p ≤ 6) {l : Prs} (hv : Vld p l) (hc : compl p (runM (begM p) l) = true) : fewF p ≤ l.length := by
  rcases Nat.lt_or_ge l.length (fewF p) with hlt | hge
  · exfalso
    have hpos := fewF_pos h2 h6
    have hlen := (runM_inv l (begM p) (begM_inv p).1 (begM_inv p).2).1
    have hve : Vld p (List.replicate (fewF p - 1 - l.length) (0, 1)) := by
      intro q hq
      have := List.eq_of_mem_replicate hq
      subst this
      exact ⟨by simp only; omega, by simp only; omega, by simp⟩
    have hc2 := compl_run (List.replicate (fewF p - 1 - l.length) (0, 1)) (runM (begM p) l) (by omega) hc hve
    rw [← runM_two] at hc2
    obtain ⟨x0, x1, x2, x3, x4, x5, e, hs⟩ := srch_all h2 h6
    have hcnt := srch_ok h6 _ _ _ _ _ _ _ hs (l ++ List.replicate (fewF p - 1 - l.length) (0, 1)) (by simp; omega) (fun q hq => by
      rcases List.mem_append.1 hq with hq | hq
      · exact hv q hq
      · exact hve q hq)
    rw [← e] at hcnt
    have hge := cnt_all (F := 2 ^ p - 1) _ p (compl_iff.1 hc2) (by
      rw [(runM_inv _ (begM p) (begM_inv p).1 (begM_inv p).2).1]
      omega)
    omega
  · exact hge
end Go.Proofs.Ytpbighinamljbaa.PA
