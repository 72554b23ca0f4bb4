/- Gossip of at most six people: all lists of calls, tried. No condition. -/
import Derived.Test.YtpbighinamljbaaPure
import Derived.KernelRfl
set_option linter.unusedSimpArgs false
set_option linter.unusedVariables false
namespace Go.Proofs.Ytpbighinamljbaa.PA
open Go Go.Eng Go.Proofs
def one (F x : Nat) : Nat := cond (Nat.beq x F) 1 0
end Go.Proofs.Ytpbighinamljbaa.PA
