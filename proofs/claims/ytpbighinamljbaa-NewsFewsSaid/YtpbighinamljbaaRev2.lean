/- news.ReversedLaw, over the abstract machine: the comparison. No condition. -/
import Derived.Test.YtpbighinamljbaaRev1
set_option linter.unusedSimpArgs false
set_option linter.unusedVariables false
namespace Go.Proofs.Ytpbighinamljbaa.PA
open Go Go.Eng Go.Proofs
end Go.Proofs.Ytpbighinamljbaa.PA
