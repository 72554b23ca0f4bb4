/- news.FewsLaw at one to four people, run. No condition. -/
import Derived.Test.YtpbighinamljbaaKz
namespace Go.Proofs.Ytpbighinamljbaa.PA
open Go Go.Eng Go.Proofs
theorem fews1 : isAV (.bool true) (cfZ 30 8 [natA 1] H0) = true := by kernel_rfl
theorem fews2 : isAV (.bool true) (cfZ 30 8 [natA 2] H0) = true := by kernel_rfl
theorem fews3 : isAV (.bool true) (cfZ 30 8 [natA 3] H0) = true := by kernel_rfl
theorem fews4 : isAV (.bool true) (cfZ 30 8 [natA 4] H0) = true := by kernel_rfl
end Go.Proofs.Ytpbighinamljbaa.PA
