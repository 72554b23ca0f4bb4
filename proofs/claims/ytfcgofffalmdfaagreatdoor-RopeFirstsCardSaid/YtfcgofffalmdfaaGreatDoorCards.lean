/-
  DERIVED. GIVEN WITH THE SEED: THE CARDS: each row of YtfcgofffalmdfaaGreatDoorRows.lean that lists a variable, with what it lists TIED to the program's text (the seventh form; the later family's looks); each row that meets fmt, with fmt's text TOLD by the authors' own Lean function (tested against real Go, not proved from fmt's source: count such statements apart). THE CARD IS WHAT COUNTS. Prove the row's statement (the work); the ties are given (YtfcgofffalmdfaaGreatDoorTie.lean); close each card by the builder's one call (the guide's Derived/Test/ToyasCard.lean, 'card_holds'). Laid BY PROGRAM, IN A SANDBOX (cutbox-door.mjs). By AI agents, Wed Nov 11 2026. No macro, syntax, notation, axiom, sorry.
-/
import Derived.Test.YtfcgofffalmdfaaGreatDoorRows
import GoSem.ClaimSeven
namespace Go.Proofs.YtfcgofffalmdfaaGreatDoor
namespace Rows

/-- THE TIED CARD OF 'wogglelaw03.RopeFirsts'. -/
def ropeFirstsCard : Claim7 := { stood := { row := ropeFirstsRow, standIns := [], harness := (true, "5e7abd25e6fdffa6dc8dfc12cd5002f17c6143cad05b03ef55e8e1654f75baf7"), looks := false }, kinds := [], alts := [], laidByText := true, laidKinds := [.data, .pinned], laidTests := true, laidLooks := .later }
def RopeFirstsCardSaid : Prop := Claim7.holds Tryz.pinned (.plain (OpenSpec.ofChange ropeFirstsSpec)) ropeFirstsCard

/-- THE TIED CARD OF 'wogglelaw03.RopeRanks'. -/
def ropeRanksCard : Claim7 := { stood := { row := ropeRanksRow, standIns := [], harness := (true, "5e7abd25e6fdffa6dc8dfc12cd5002f17c6143cad05b03ef55e8e1654f75baf7"), looks := false }, kinds := [], alts := [], laidByText := true, laidKinds := [.data, .pinned], laidTests := true, laidLooks := .later }
def RopeRanksCardSaid : Prop := Claim7.holds Tryz.pinned (.plain (OpenSpec.ofChange ropeRanksSpec)) ropeRanksCard

/-- THE TIED CARD OF 'wogglelaw03.RopeRules'. -/
def ropeRulesCard : Claim7 := { stood := { row := ropeRulesRow, standIns := [], harness := (true, "5e7abd25e6fdffa6dc8dfc12cd5002f17c6143cad05b03ef55e8e1654f75baf7"), looks := false }, kinds := [], alts := [], laidByText := true, laidKinds := [.data, .pinned], laidTests := true, laidLooks := .later }
def RopeRulesCardSaid : Prop := Claim7.holds Tryz.pinned (.plain (OpenSpec.ofChange ropeRulesSpec)) ropeRulesCard

/-- THE TIED CARD OF 'wogglelaw03.RopeJoined'. -/
def ropeJoinedCard : Claim7 := { stood := { row := ropeJoinedRow, standIns := [], harness := (true, "5e7abd25e6fdffa6dc8dfc12cd5002f17c6143cad05b03ef55e8e1654f75baf7"), looks := false }, kinds := [], alts := [], laidByText := true, laidKinds := [.data, .pinned], laidTests := true, laidLooks := .later }
def RopeJoinedCardSaid : Prop := Claim7.holds Tryz.pinned (.plain (OpenSpec.ofChange ropeJoinedSpec)) ropeJoinedCard

/-- THE TIED CARD OF 'wogglelaw03.RopeMotzkin'. -/
def ropeMotzkinCard : Claim7 := { stood := { row := ropeMotzkinRow, standIns := [], harness := (true, "5e7abd25e6fdffa6dc8dfc12cd5002f17c6143cad05b03ef55e8e1654f75baf7"), looks := false }, kinds := [], alts := [], laidByText := true, laidKinds := [.data, .pinned], laidTests := true, laidLooks := .later }
def RopeMotzkinCardSaid : Prop := Claim7.holds Tryz.pinned (.plain (OpenSpec.ofChange ropeMotzkinSpec)) ropeMotzkinCard

/-- THE TIED CARD OF 'wogglelaw03.RopeCounts'. -/
def ropeCountsCard : Claim7 := { stood := { row := ropeCountsRow, standIns := [], harness := (true, "5e7abd25e6fdffa6dc8dfc12cd5002f17c6143cad05b03ef55e8e1654f75baf7"), looks := false }, kinds := [], alts := [], laidByText := true, laidKinds := [.data, .pinned], laidTests := true, laidLooks := .later }
def RopeCountsCardSaid : Prop := Claim7.holds Tryz.pinned (.plain (OpenSpec.ofChange ropeCountsSpec)) ropeCountsCard

/-- THE TIED CARD OF 'wogglelaw03.RopeSizes'. -/
def ropeSizesCard : Claim7 := { stood := { row := ropeSizesRow, standIns := [], harness := (true, "5e7abd25e6fdffa6dc8dfc12cd5002f17c6143cad05b03ef55e8e1654f75baf7"), looks := false }, kinds := [], alts := [], laidByText := true, laidKinds := [.data, .pinned], laidTests := true, laidLooks := .later }
def RopeSizesCardSaid : Prop := Claim7.holds Tryz.pinned (.plain (OpenSpec.ofChange ropeSizesSpec)) ropeSizesCard

/-- THE TIED CARD OF 'wogglelaw03.RopeAt'. -/
def ropeAtCard : Claim7 := { stood := { row := ropeAtRow, standIns := [], harness := (true, "5e7abd25e6fdffa6dc8dfc12cd5002f17c6143cad05b03ef55e8e1654f75baf7"), looks := false }, kinds := [], alts := [], laidByText := true, laidKinds := [.data, .pinned], laidTests := true, laidLooks := .later }
def RopeAtCardSaid : Prop := Claim7.holds Tryz.pinned (.plain (OpenSpec.ofChange ropeAtSpec)) ropeAtCard

/-- THE TIED CARD OF 'wogglelaw03.RopeInverse'. -/
def ropeInverseCard : Claim7 := { stood := { row := ropeInverseRow, standIns := [], harness := (true, "5e7abd25e6fdffa6dc8dfc12cd5002f17c6143cad05b03ef55e8e1654f75baf7"), looks := false }, kinds := [], alts := [], laidByText := true, laidKinds := [.data, .pinned], laidTests := true, laidLooks := .later }
def RopeInverseCardSaid : Prop := Claim7.holds Tryz.pinned (.plain (OpenSpec.ofChange ropeInverseSpec)) ropeInverseCard

/-- THE SECOND FORM's CARD OF 'wogglelaw03.RopeFirsts'. -/
def ropeFirstsUptoCard : Claim7 := { stood := { row := ropeFirstsUptoRow, standIns := [], harness := (true, "5e7abd25e6fdffa6dc8dfc12cd5002f17c6143cad05b03ef55e8e1654f75baf7"), looks := false }, kinds := [], alts := [], laidByText := true, laidKinds := [.data, .pinned], laidTests := true, laidLooks := .later }
def RopeFirstsUptoCardSaid : Prop := Claim7.holds Tryz.pinned (.plain (OpenSpec.upto ropeFirstsSpec)) ropeFirstsUptoCard

/-- THE SECOND FORM's CARD OF 'wogglelaw03.RopeRanks'. -/
def ropeRanksUptoCard : Claim7 := { stood := { row := ropeRanksUptoRow, standIns := [], harness := (true, "5e7abd25e6fdffa6dc8dfc12cd5002f17c6143cad05b03ef55e8e1654f75baf7"), looks := false }, kinds := [], alts := [], laidByText := true, laidKinds := [.data, .pinned], laidTests := true, laidLooks := .later }
def RopeRanksUptoCardSaid : Prop := Claim7.holds Tryz.pinned (.plain (OpenSpec.upto ropeRanksSpec)) ropeRanksUptoCard

/-- THE SECOND FORM's CARD OF 'wogglelaw03.RopeRules'. -/
def ropeRulesUptoCard : Claim7 := { stood := { row := ropeRulesUptoRow, standIns := [], harness := (true, "5e7abd25e6fdffa6dc8dfc12cd5002f17c6143cad05b03ef55e8e1654f75baf7"), looks := false }, kinds := [], alts := [], laidByText := true, laidKinds := [.data, .pinned], laidTests := true, laidLooks := .later }
def RopeRulesUptoCardSaid : Prop := Claim7.holds Tryz.pinned (.plain (OpenSpec.upto ropeRulesSpec)) ropeRulesUptoCard

/-- THE SECOND FORM's CARD OF 'wogglelaw03.RopeJoined'. -/
def ropeJoinedUptoCard : Claim7 := { stood := { row := ropeJoinedUptoRow, standIns := [], harness := (true, "5e7abd25e6fdffa6dc8dfc12cd5002f17c6143cad05b03ef55e8e1654f75baf7"), looks := false }, kinds := [], alts := [], laidByText := true, laidKinds := [.data, .pinned], laidTests := true, laidLooks := .later }
def RopeJoinedUptoCardSaid : Prop := Claim7.holds Tryz.pinned (.plain (OpenSpec.upto ropeJoinedSpec)) ropeJoinedUptoCard

/-- THE SECOND FORM's CARD OF 'wogglelaw03.RopeMotzkin'. -/
def ropeMotzkinUptoCard : Claim7 := { stood := { row := ropeMotzkinUptoRow, standIns := [], harness := (true, "5e7abd25e6fdffa6dc8dfc12cd5002f17c6143cad05b03ef55e8e1654f75baf7"), looks := false }, kinds := [], alts := [], laidByText := true, laidKinds := [.data, .pinned], laidTests := true, laidLooks := .later }
def RopeMotzkinUptoCardSaid : Prop := Claim7.holds Tryz.pinned (.plain (OpenSpec.upto ropeMotzkinSpec)) ropeMotzkinUptoCard

/-- THE SECOND FORM's CARD OF 'wogglelaw03.RopeCounts'. -/
def ropeCountsUptoCard : Claim7 := { stood := { row := ropeCountsUptoRow, standIns := [], harness := (true, "5e7abd25e6fdffa6dc8dfc12cd5002f17c6143cad05b03ef55e8e1654f75baf7"), looks := false }, kinds := [], alts := [], laidByText := true, laidKinds := [.data, .pinned], laidTests := true, laidLooks := .later }
def RopeCountsUptoCardSaid : Prop := Claim7.holds Tryz.pinned (.plain (OpenSpec.upto ropeCountsSpec)) ropeCountsUptoCard

/-- THE SECOND FORM's CARD OF 'wogglelaw03.RopeSizes'. -/
def ropeSizesUptoCard : Claim7 := { stood := { row := ropeSizesUptoRow, standIns := [], harness := (true, "5e7abd25e6fdffa6dc8dfc12cd5002f17c6143cad05b03ef55e8e1654f75baf7"), looks := false }, kinds := [], alts := [], laidByText := true, laidKinds := [.data, .pinned], laidTests := true, laidLooks := .later }
def RopeSizesUptoCardSaid : Prop := Claim7.holds Tryz.pinned (.plain (OpenSpec.upto ropeSizesSpec)) ropeSizesUptoCard

/-- THE SECOND FORM's CARD OF 'wogglelaw03.RopeAt'. -/
def ropeAtUptoCard : Claim7 := { stood := { row := ropeAtUptoRow, standIns := [], harness := (true, "5e7abd25e6fdffa6dc8dfc12cd5002f17c6143cad05b03ef55e8e1654f75baf7"), looks := false }, kinds := [], alts := [], laidByText := true, laidKinds := [.data, .pinned], laidTests := true, laidLooks := .later }
def RopeAtUptoCardSaid : Prop := Claim7.holds Tryz.pinned (.plain (OpenSpec.upto ropeAtSpec)) ropeAtUptoCard

/-- THE SECOND FORM's CARD OF 'wogglelaw03.RopeInverse'. -/
def ropeInverseUptoCard : Claim7 := { stood := { row := ropeInverseUptoRow, standIns := [], harness := (true, "5e7abd25e6fdffa6dc8dfc12cd5002f17c6143cad05b03ef55e8e1654f75baf7"), looks := false }, kinds := [], alts := [], laidByText := true, laidKinds := [.data, .pinned], laidTests := true, laidLooks := .later }
def RopeInverseUptoCardSaid : Prop := Claim7.holds Tryz.pinned (.plain (OpenSpec.upto ropeInverseSpec)) ropeInverseUptoCard
end Rows
end Go.Proofs.YtfcgofffalmdfaaGreatDoor
