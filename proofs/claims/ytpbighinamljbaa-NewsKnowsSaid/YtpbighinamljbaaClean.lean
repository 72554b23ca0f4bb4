/- What the machine runs leaves no object at or behind the next name. No condition. -/
import Derived.Test.YtpbighinamljbaaCalm
import Derived.Test.YtpbighinamljbaaEngC
set_option linter.unusedSimpArgs false
set_option linter.unusedVariables false
namespace Go.Eng
def Clean (H : AHeap) : Prop := ∀ j, H.next ≤ j → H.get j = none
/-- The heap is clean behind, and no name is given back. -/
def CleanTo (H H' : AHeap) : Prop := (Clean H → Clean H') ∧ H.next ≤ H'.next
theorem CleanTo.refl (H : AHeap) : CleanTo H H := ⟨id, Nat.le_refl _⟩
theorem CleanTo.trans {a b c : AHeap} (h : CleanTo a b) (k : CleanTo b c) : CleanTo a c := ⟨fun q => k.1 (h.1 q), Nat.le_trans h.2 k.2⟩
section
end
end Go.Eng
