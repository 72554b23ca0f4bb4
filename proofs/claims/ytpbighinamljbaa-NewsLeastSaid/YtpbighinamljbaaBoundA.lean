/- Gossip of six people: seven calls are too few (part 1 of 3 of the trial). No condition. -/
import Derived.Test.YtpbighinamljbaaBound0
namespace Go.Proofs.Ytpbighinamljbaa.PA
theorem srch6_01 : srch 6 63 6 (Nat.lor 1 2) (Nat.lor 1 2) 4 8 16 32 = true := by kernel_rfl
theorem srch6_02 : srch 6 63 6 (Nat.lor 1 4) 2 (Nat.lor 1 4) 8 16 32 = true := by kernel_rfl
theorem srch6_03 : srch 6 63 6 (Nat.lor 1 8) 2 4 (Nat.lor 1 8) 16 32 = true := by kernel_rfl
theorem srch6_04 : srch 6 63 6 (Nat.lor 1 16) 2 4 8 (Nat.lor 1 16) 32 = true := by kernel_rfl
theorem srch6_05 : srch 6 63 6 (Nat.lor 1 32) 2 4 8 16 (Nat.lor 1 32) = true := by kernel_rfl
end Go.Proofs.Ytpbighinamljbaa.PA
