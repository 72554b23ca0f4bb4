/- Members and SameLists, over the abstract machine. No condition. -/
import Derived.Test.YtpbighinamljbaaRKnow4
set_option linter.unusedSimpArgs false
set_option linter.unusedVariables false
namespace Go.Proofs.Ytpbighinamljbaa.PA
open Go Go.Eng Go.Proofs
end Go.Proofs.Ytpbighinamljbaa.PA
