/- Gossip of six people: seven calls are too few (part 2 of 3 of the trial). No condition. -/
import Derived.Test.YtpbighinamljbaaBound0
namespace Go.Proofs.Ytpbighinamljbaa.PA
end Go.Proofs.Ytpbighinamljbaa.PA
