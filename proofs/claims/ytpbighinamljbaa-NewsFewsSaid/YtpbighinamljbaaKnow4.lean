/- Knows and Done over whatever machine that knows the calls below. No condition. -/
import Derived.Test.YtpbighinamljbaaKz
set_option linter.unusedSimpArgs false
set_option linter.unusedVariables false
namespace Go.Proofs.Ytpbighinamljbaa.PA
open Go Go.Eng Go.Proofs
end Go.Proofs.Ytpbighinamljbaa.PA
