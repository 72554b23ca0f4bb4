/- The document's examples: lives, run by the abstract machine. No condition. -/
import Derived.Test.YtfcgofffalmdfaaDoorLits
namespace Go.Proofs.YtfcgofffalmdfaaDoor.PA
open Go Go.Eng
theorem runLives0 : (xcall F 2000 50 9 [] ⟨.e, 0⟩).map (·.1) = some (.bool true) := by kernel_rfl
theorem runLives : ∃ H', xcall F 2000 50 9 [] ⟨.e, 0⟩ = some (.bool true, H') := by
  obtain ⟨⟨v, H'⟩, h1, h2⟩ := Option.map_eq_some_iff.1 runLives0
  cases h2
  exact ⟨H', h1⟩
end Go.Proofs.YtfcgofffalmdfaaDoor.PA
