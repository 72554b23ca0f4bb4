/- Knows and Done of calls that are not valid. No condition. -/
import Derived.Test.YtpbighinamljbaaKnow4
set_option linter.unusedSimpArgs false
set_option linter.unusedVariables false
namespace Go.Proofs.Ytpbighinamljbaa.PA
open Go Go.Eng Go.Proofs
end Go.Proofs.Ytpbighinamljbaa.PA
