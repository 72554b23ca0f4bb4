/- The document's examples, run by the abstract machine. No condition. -/
import Derived.Test.YtpbighinamljbaaLive
namespace Go.Proofs.Ytpbighinamljbaa.PA
open Go Go.Eng Go.Proofs
/-- The run gives true. -/
theorem runLives0 : ((cfN 300 14 17 [] H0).map fun r => match r.1 with | .bool b => b | _ => false) = some true := by kernel_rfl
end Go.Proofs.Ytpbighinamljbaa.PA
