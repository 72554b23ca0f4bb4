/- news.ReversedLaw, over the abstract machine: the reversed calls. No condition. -/
import Derived.Test.YtpbighinamljbaaKnow3
import Derived.Test.YtpbighinamljbaaCalm
set_option linter.unusedSimpArgs false
set_option linter.unusedVariables false
namespace Go.Proofs.Ytpbighinamljbaa.PA
open Go Go.Eng Go.Proofs
/-- What the loop that reverses keeps. -/
structure RI (H0 : AHeap) (p : Nat) (u : AV) (l : Prs) (j : Nat) (s : St) : Prop where
  le : j ≤ l.length
  t5 : s.tm.get 5 = some (natA p)
  t6 : s.tm.get 6 = some u
  t8 : s.tm.get 8 = some (.int .i64 ((l.length : Int) - 1 - (j : Int)))
  row : ∃ v, s.tm.get 7 = some v ∧ RowE 2 s.H v j (prsC (l.reverse.take j)) ∧ (∀ o, v.own = some o → H0.next ≤ o)
  nx : H0.next ≤ s.H.next
  fr : ∀ j, j < H0.next → s.H.get j = H0.get j
end Go.Proofs.Ytpbighinamljbaa.PA
