/- Gossip of six people: seven calls are too few (part 3 of 3 of the trial). No condition. -/
import Derived.Test.YtpbighinamljbaaBound0
namespace Go.Proofs.Ytpbighinamljbaa.PA
theorem srch6_24 : srch 6 63 6 1 2 (Nat.lor 4 16) 8 (Nat.lor 4 16) 32 = true := by kernel_rfl
theorem srch6_25 : srch 6 63 6 1 2 (Nat.lor 4 32) 8 16 (Nat.lor 4 32) = true := by kernel_rfl
theorem srch6_34 : srch 6 63 6 1 2 4 (Nat.lor 8 16) (Nat.lor 8 16) 32 = true := by kernel_rfl
theorem srch6_35 : srch 6 63 6 1 2 4 (Nat.lor 8 32) 16 (Nat.lor 8 32) = true := by kernel_rfl
theorem srch6_45 : srch 6 63 6 1 2 4 8 (Nat.lor 16 32) (Nat.lor 16 32) = true := by kernel_rfl
end Go.Proofs.Ytpbighinamljbaa.PA
