/- Gossip of six people: seven calls are too few (part 2 of 3 of the trial). No condition. -/
import Derived.Test.YtpbighinamljbaaBound0
namespace Go.Proofs.Ytpbighinamljbaa.PA
theorem srch6_12 : srch 6 63 6 1 (Nat.lor 2 4) (Nat.lor 2 4) 8 16 32 = true := by kernel_rfl
theorem srch6_13 : srch 6 63 6 1 (Nat.lor 2 8) 4 (Nat.lor 2 8) 16 32 = true := by kernel_rfl
theorem srch6_14 : srch 6 63 6 1 (Nat.lor 2 16) 4 8 (Nat.lor 2 16) 32 = true := by kernel_rfl
theorem srch6_15 : srch 6 63 6 1 (Nat.lor 2 32) 4 8 16 (Nat.lor 2 32) = true := by kernel_rfl
theorem srch6_23 : srch 6 63 6 1 2 (Nat.lor 4 8) (Nat.lor 4 8) 16 32 = true := by kernel_rfl
end Go.Proofs.Ytpbighinamljbaa.PA
