/- Gossip of p people (two to six) takes so many calls at least. No condition. -/
import Derived.Test.YtpbighinamljbaaBoundA
import Derived.Test.YtpbighinamljbaaBoundB
import Derived.Test.YtpbighinamljbaaBoundC
import Derived.Test.YtpbighinamljbaaDone1
set_option linter.unusedSimpArgs false
set_option linter.unusedVariables false
namespace Go.Proofs.Ytpbighinamljbaa.PA
open Go Go.Eng Go.Proofs
end Go.Proofs.Ytpbighinamljbaa.PA
