/- The document's example: rope.First, run by the abstract machine. No condition. -/
import Derived.Test.YtfcgofffalmdfaaDoorLits
section
namespace Go.Proofs.YtfcgofffalmdfaaDoor.PA
open Go Go.Eng
theorem runFirst0 : (xcall F 2000 40 17 [.str [97, 97, 98, 98], .imm [.int .i64 0, .int .i64 1] 1 false, .int .i64 0] ⟨.e, 0⟩).map (·.1) = some (.tup [.str [40, 40, 41, 41], .int .i64 0]) := by kernel_rfl
theorem runFirst : ∃ H', xcall F 2000 40 17 [.str [97, 97, 98, 98], .imm [.int .i64 0, .int .i64 1] 1 false, .int .i64 0] ⟨.e, 0⟩ = some (.tup [.str [40, 40, 41, 41], .int .i64 0], H') := by
  obtain ⟨⟨v, H'⟩, h1, h2⟩ := Option.map_eq_some_iff.1 runFirst0
  cases h2
  exact ⟨H', h1⟩
end Go.Proofs.YtfcgofffalmdfaaDoor.PA
end
section
namespace Go.Proofs.YtfcgofffalmdfaaDoor.PA
open Go Go.Eng
theorem runAll0 : (xcall F 2000 40 22 [.str [97, 97, 98, 98], .imm [.int .i64 0, .int .i64 1] 1 false, .int .i64 0] ⟨.e, 0⟩).map (·.1) = some (.tup [.str [54], .int .i64 0]) := by kernel_rfl
theorem runAll : ∃ H', xcall F 2000 40 22 [.str [97, 97, 98, 98], .imm [.int .i64 0, .int .i64 1] 1 false, .int .i64 0] ⟨.e, 0⟩ = some (.tup [.str [54], .int .i64 0], H') := by
  obtain ⟨⟨v, H'⟩, h1, h2⟩ := Option.map_eq_some_iff.1 runAll0
  cases h2
  exact ⟨H', h1⟩
end Go.Proofs.YtfcgofffalmdfaaDoor.PA
end
section
namespace Go.Proofs.YtfcgofffalmdfaaDoor.PA
open Go Go.Eng
theorem runRank0 : (xcall F 2000 40 23 [.str [97, 97, 98, 98], .imm [.int .i64 0, .int .i64 1] 1 false, .int .i64 0, .str [46, 46, 46, 46]] ⟨.e, 0⟩).map (·.1) = some (.tup [.str [53], .int .i64 0]) := by kernel_rfl
theorem runRank : ∃ H', xcall F 2000 40 23 [.str [97, 97, 98, 98], .imm [.int .i64 0, .int .i64 1] 1 false, .int .i64 0, .str [46, 46, 46, 46]] ⟨.e, 0⟩ = some (.tup [.str [53], .int .i64 0], H') := by
  obtain ⟨⟨v, H'⟩, h1, h2⟩ := Option.map_eq_some_iff.1 runRank0
  cases h2
  exact ⟨H', h1⟩
end Go.Proofs.YtfcgofffalmdfaaDoor.PA
end
