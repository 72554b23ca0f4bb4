/- news.KnownLaw, over the abstract machine: the comparison. No condition. -/
import Derived.Test.YtpbighinamljbaaRev3
import Derived.Test.YtpbighinamljbaaClean
import Derived.Test.YtpbighinamljbaaPure
set_option linter.unusedSimpArgs false
set_option linter.unusedVariables false
namespace Go.Proofs.Ytpbighinamljbaa.PA
open Go Go.Eng Go.Proofs
/-- What the comparison's loop keeps. -/
structure LI (H0 : AHeap) (n R : Nat) (v1 v2 : AV) (i : Nat) (s : St) : Prop where
  le : i ≤ n
  t7 : s.tm.get 7 = some (natA n)
  t10 : s.tm.get 10 = some (.ptr R 0)
  t11 : s.tm.get 11 = some v1
  t13 : s.tm.get 13 = some v2
  t15 : s.tm.get 15 = some (natA i)
  nx : H0.next ≤ s.H.next
  fr : ∀ j, j < H0.next → s.H.get j = H0.get j
/-! ### the plain law -/
theorem rch_refl : ∀ (l : Prs) (i : Nat), Rch l i i
  | [], i => rfl
  | c :: l, i => ⟨i, rch_refl l i, .inl rfl⟩
theorem known_self {p : Nat} (hp : p ≤ 6) {l : Prs} (hl : ∀ q ∈ l, q.1 < 6 ∧ q.2 < 6) {i : Nat} (hi : i < p) : ((runM (begM p) l).getD i 0).testBit i = true :=
  (runM_beg hp hl hi).2 (rch_refl l i)
end Go.Proofs.Ytpbighinamljbaa.PA
