/- What is known behind calls: the plain law of reversal. No condition. -/
import Derived.Test.YtpbighinamljbaaKnow1
set_option linter.unusedSimpArgs false
set_option linter.unusedVariables false
namespace Go.Proofs.Ytpbighinamljbaa.PA
open Go Go.Eng Go.Proofs
/-- Whom a call lets share. -/
def Cl (c : Nat × Nat) (i m : Nat) : Prop := i = m ∨ ((i = c.1 ∨ i = c.2) ∧ (m = c.1 ∨ m = c.2))
theorem Cl.symm {c : Nat × Nat} {i m : Nat} (h : Cl c i m) : Cl c m i := by
  rcases h with h | ⟨h1, h2⟩
  · exact .inl h.symm
  · exact .inr ⟨h2, h1⟩
end Go.Proofs.Ytpbighinamljbaa.PA
