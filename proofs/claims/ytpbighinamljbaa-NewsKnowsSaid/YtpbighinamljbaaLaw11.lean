/- news.KnowsLaw: its first part, over the abstract machine. No condition. -/
import Derived.Test.YtpbighinamljbaaRDone2
import Derived.Test.YtpbighinamljbaaKnown2
set_option linter.unusedSimpArgs false
set_option linter.unusedVariables false
namespace Go.Proofs.Ytpbighinamljbaa.PA
open Go Go.Eng Go.Proofs
theorem zc_take (l : ZPrs) (m : Nat) : (zc l).take (m * 2) = zc (l.take m) := by
  induction l generalizing m with
  | nil => simp [zc]
  | cons c l ih =>
    cases m with
    | zero => simp [zc]
    | succ m =>
      have e : ∀ (c : Int × Int) (l : ZPrs), zc (c :: l) = .int .i64 c.1 :: .int .i64 c.2 :: zc l := fun _ _ => rfl
      rw [show (m + 1) * 2 = m * 2 + 2 by omega, e, List.take_succ_cons, List.take_succ_cons, List.take_succ_cons, e, ih]
theorem zc_one (l : ZPrs) : (zc l).all AV.oneCell = true := by
  induction l with
  | nil => rfl
  | cons p l ih =>
    show (AV.int .i64 p.1 :: AV.int .i64 p.2 :: zc l).all AV.oneCell = true
    simp only [List.all_cons, ih, Bool.and_true]
    rfl
/-- The front of a frozen list of pairs. -/
theorem imm_front {H : AHeap} {x : ZPrs} {m : Nat} (hm : m ≤ x.length) (ev : XO → Option AV) (k : XO) (hk : ev k = some (.int .i64 (m : Int))) :
    ∃ y, cutA ev 2 (.imm (zc x) x.length false) none (some k) none = some y ∧ lenA y = some m ∧ srcA H 2 m y = some (zc (x.take m)) := by
  have hz := zc_len x
  by_cases h0 : x.length = 0
  · have hm0 : m = 0 := by omega
    subst hm0
    refine ⟨.imm [] 0 false, ?_, rfl, by simp [srcA, zc]⟩
    unfold cutA
    simp only [bounds, obnd, hiBnd, hk, Option.bind_some, bndA_nat hm]
    rw [if_pos h0.symm]
  · refine ⟨.imm (zc x) m (false && decide (m = x.length)), ?_, rfl, ?_⟩
    · unfold cutA
      simp only [bounds, obnd, hiBnd, hk, Option.bind_some, bndA_nat hm]
      rw [if_neg (by omega)]
      simp
    · simp only [srcA]
      rw [if_pos (by omega), zc_take]
end Go.Proofs.Ytpbighinamljbaa.PA
