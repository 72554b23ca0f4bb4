/-
  DERIVED. GIVEN WITH THE SEED: THE CARDS: each row of YtfcgofffalmdfaaDoorRows.lean that lists a variable, with what it lists TIED to the program's text (the seventh form; the later family's looks); each row that meets fmt, with fmt's text TOLD by the authors' own Lean function (tested against real Go, not proved from fmt's source: count such statements apart). THE CARD IS WHAT COUNTS. Prove the row's statement (the work); the ties are given (YtfcgofffalmdfaaDoorTie.lean); close each card by the builder's one call (the guide's Derived/Test/ToyasCard.lean, 'card_holds'). Laid BY PROGRAM, IN A SANDBOX (cutbox-door.mjs). By AI agents, Wed Nov 11 2026. No macro, syntax, notation, axiom, sorry.
-/
import Derived.Test.YtfcgofffalmdfaaDoorRows
import GoSem.ClaimSeven
namespace Go.Proofs.YtfcgofffalmdfaaDoor
namespace Rows

/-- THE TIED CARD OF 'wogglelaw03.RopeLoops'. -/
def ropeLoopsCard : Claim7 := { stood := { row := ropeLoopsRow, standIns := [], harness := (true, "3f00498b81f2a32d3926e506fd4d6cec9b56b57de8ec6ed9ec835dbada23b520"), looks := false }, kinds := [], alts := [], laidByText := true, laidKinds := [.data, .pinned], laidTests := true, laidLooks := .later }
def RopeLoopsCardSaid : Prop := Claim7.holds Tryd.pinned (.plain (OpenSpec.ofChange ropeLoopsSpec)) ropeLoopsCard

/-- THE TIED CARD OF 'wogglelaw03.RopeIs'. -/
def ropeIsCard : Claim7 := { stood := { row := ropeIsRow, standIns := [], harness := (true, "3f00498b81f2a32d3926e506fd4d6cec9b56b57de8ec6ed9ec835dbada23b520"), looks := false }, kinds := [], alts := [], laidByText := true, laidKinds := [.data, .pinned], laidTests := true, laidLooks := .later }
def RopeIsCardSaid : Prop := Claim7.holds Tryd.pinned (.plain (OpenSpec.ofChange ropeIsSpec)) ropeIsCard

/-- THE TIED CARD OF 'wogglelaw03.RopeFirst'. -/
def ropeFirstCard : Claim7 := { stood := { row := ropeFirstRow, standIns := [], harness := (true, "3f00498b81f2a32d3926e506fd4d6cec9b56b57de8ec6ed9ec835dbada23b520"), looks := false }, kinds := [], alts := [], laidByText := true, laidKinds := [.data, .pinned], laidTests := true, laidLooks := .later }
def RopeFirstCardSaid : Prop := Claim7.holds Tryd.pinned (.plain (OpenSpec.ofChange ropeFirstSpec)) ropeFirstCard

/-- THE TIED CARD OF 'wogglelaw03.RopeReversed'. -/
def ropeReversedCard : Claim7 := { stood := { row := ropeReversedRow, standIns := [], harness := (true, "3f00498b81f2a32d3926e506fd4d6cec9b56b57de8ec6ed9ec835dbada23b520"), looks := false }, kinds := [], alts := [], laidByText := true, laidKinds := [.data, .pinned], laidTests := true, laidLooks := .later }
def RopeReversedCardSaid : Prop := Claim7.holds Tryd.pinned (.plain (OpenSpec.ofChange ropeReversedSpec)) ropeReversedCard

/-- THE SECOND FORM's CARD OF 'wogglelaw03.RopeLoops'. -/
def ropeLoopsUptoCard : Claim7 := { stood := { row := ropeLoopsUptoRow, standIns := [], harness := (true, "3f00498b81f2a32d3926e506fd4d6cec9b56b57de8ec6ed9ec835dbada23b520"), looks := false }, kinds := [], alts := [], laidByText := true, laidKinds := [.data, .pinned], laidTests := true, laidLooks := .later }
def RopeLoopsUptoCardSaid : Prop := Claim7.holds Tryd.pinned (.plain (OpenSpec.upto ropeLoopsSpec)) ropeLoopsUptoCard

/-- THE SECOND FORM's CARD OF 'wogglelaw03.RopeIs'. -/
def ropeIsUptoCard : Claim7 := { stood := { row := ropeIsUptoRow, standIns := [], harness := (true, "3f00498b81f2a32d3926e506fd4d6cec9b56b57de8ec6ed9ec835dbada23b520"), looks := false }, kinds := [], alts := [], laidByText := true, laidKinds := [.data, .pinned], laidTests := true, laidLooks := .later }
def RopeIsUptoCardSaid : Prop := Claim7.holds Tryd.pinned (.plain (OpenSpec.upto ropeIsSpec)) ropeIsUptoCard

/-- THE SECOND FORM's CARD OF 'wogglelaw03.RopeFirst'. -/
def ropeFirstUptoCard : Claim7 := { stood := { row := ropeFirstUptoRow, standIns := [], harness := (true, "3f00498b81f2a32d3926e506fd4d6cec9b56b57de8ec6ed9ec835dbada23b520"), looks := false }, kinds := [], alts := [], laidByText := true, laidKinds := [.data, .pinned], laidTests := true, laidLooks := .later }
def RopeFirstUptoCardSaid : Prop := Claim7.holds Tryd.pinned (.plain (OpenSpec.upto ropeFirstSpec)) ropeFirstUptoCard

/-- THE SECOND FORM's CARD OF 'wogglelaw03.RopeReversed'. -/
def ropeReversedUptoCard : Claim7 := { stood := { row := ropeReversedUptoRow, standIns := [], harness := (true, "3f00498b81f2a32d3926e506fd4d6cec9b56b57de8ec6ed9ec835dbada23b520"), looks := false }, kinds := [], alts := [], laidByText := true, laidKinds := [.data, .pinned], laidTests := true, laidLooks := .later }
def RopeReversedUptoCardSaid : Prop := Claim7.holds Tryd.pinned (.plain (OpenSpec.upto ropeReversedSpec)) ropeReversedUptoCard
end Rows
end Go.Proofs.YtfcgofffalmdfaaDoor
