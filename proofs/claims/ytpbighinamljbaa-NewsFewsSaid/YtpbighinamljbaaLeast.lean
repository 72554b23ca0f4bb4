/- news.LeastLaw, over the abstract machine. No condition. -/
import Derived.Test.YtpbighinamljbaaDone3
import Derived.Test.YtpbighinamljbaaBound
import Derived.Test.YtpbighinamljbaaRev3
set_option linter.unusedSimpArgs false
set_option linter.unusedVariables false
namespace Go.Eng
theorem WC.gnu' {cf : CF} {n : Nat} {tm : Tr AV} {H : AHeap} {Q : St → Prop} {d : Nat} {op : XOp} {r : List XOper} {u : AV} {g : Nat} {b : Bool} (hg : tm.get g = some u) (hu : u = undefA) (k : WC cf r (n + 1) (tm.set d (some undefA)) H Q) : WC cf (⟨some d, op, some (g, b)⟩ :: r) n tm H Q :=
  WC.step (by subst hu; simp [xstep, wantedA, hg, putT, undefA]) k
end Go.Eng
namespace Go.Proofs.Ytpbighinamljbaa.PA
open Go Go.Eng Go.Proofs
end Go.Proofs.Ytpbighinamljbaa.PA
