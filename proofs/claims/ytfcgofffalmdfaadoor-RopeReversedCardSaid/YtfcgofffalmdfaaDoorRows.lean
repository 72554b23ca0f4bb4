/-
  NARROWER THAN 'FOR EVERY INPUT', by the rows' own cells (each row's printed sentence says how): RopeLoops: laid · RopeIs: laid · RopeFirst: laid · RopeReversed: laid.
  DERIVED. THE GIVEN ROWS OF THIS SEAT. 4 by the template 'for every input the law returns true; each argument reads behind the call as it read before'; 0 by the template 'total and deterministic' (their statements: YtfcgofffalmdfaaDoorTotals.lean).
  GIVEN WITH THE SEED: the statements are not yours to turn. If you find one false, say at which input.
  Laid BY PROGRAM, IN A SANDBOX (cutbox-rows.mjs): the forced cells as the released guide's own fill.sh prints them over the translation d6d54348c596733e… (all of the seat's roots in one cut). By AI agents, Wed Nov 11 2026. No macro, syntax, notation, axiom, sorry.
-/
import Derived.Test.YtfcgofffalmdfaaDoorChecked
import GoSem.PinnedTables
import GoSem.Claim
import GoSem.ClaimJoined
import GoSem.ClaimMapViews
import Derived.JoinedTies
import Derived.KernelRfl
namespace Go.Proofs.YtfcgofffalmdfaaDoor
/- THE CELL 'sum', in the pinned program and in every row, IS THE sha256 OF THE DUMP (.gsa) THAT YtfcgofffalmdfaaDoorProg.lean LOADS. Nothing in Lean hashes anything: it is a label: what it is worth is what the hold of that sum in a sandbox is worth. -/
noncomputable def Tryd.pinned : Pinned := { name := "ytfcgofffalmdfaadoor", sum := "d6d54348c596733e4b23e09ee1b47878076e436d72c7bb4ed69a4f91fb8ef754", checked := Tryd.checked }
namespace Rows
def none {H : Type} : Left H := { results := [], args := [] }

/- WHAT THE LISTED PACKAGE-LEVEL VARIABLES READ AS WHEN THE CALL BEGINS. Each datum BY PROGRAM (the guide's laid-datum.mjs) off the statement by which the dump's own 'gosem.cut.vars' lays the variable. In a bare row this is a premise. The card (YtfcgofffalmdfaaDoorCards.lean) ties it to the program's text. -/
def laid_unicode_utf8_acceptRanges {H : Type} : DataW H := .agg [.agg [.lit (.int .u8 128), .lit (.int .u8 191)], .agg [.lit (.int .u8 160), .lit (.int .u8 191)], .agg [.lit (.int .u8 128), .lit (.int .u8 159)], .agg [.lit (.int .u8 144), .lit (.int .u8 191)], .agg [.lit (.int .u8 128), .lit (.int .u8 143)], .agg [.lit (.int .u8 0), .lit (.int .u8 0)], .agg [.lit (.int .u8 0), .lit (.int .u8 0)], .agg [.lit (.int .u8 0), .lit (.int .u8 0)], .agg [.lit (.int .u8 0), .lit (.int .u8 0)], .agg [.lit (.int .u8 0), .lit (.int .u8 0)], .agg [.lit (.int .u8 0), .lit (.int .u8 0)], .agg [.lit (.int .u8 0), .lit (.int .u8 0)], .agg [.lit (.int .u8 0), .lit (.int .u8 0)], .agg [.lit (.int .u8 0), .lit (.int .u8 0)], .agg [.lit (.int .u8 0), .lit (.int .u8 0)], .agg [.lit (.int .u8 0), .lit (.int .u8 0)]]
/-- One of Go's own tables, pinned by name: the form's constant. -/
def laid_unicode_utf8_first : DataW Unit := Go.Pinned.utf8First

/-- 'wogglelaw03.RopeLoops': WHATEVER THE INPUT: true; the input reads as it did. -/
def ropeLoopsSpec : ChangeSpec := { name := "ropeLoops", fn := fun _ => fun
  | [d] => { results := [.lit (.bool true)], args := [d] }
  | _ => none }
def ropeLoopsRow : OpenClaim := { program := "ytfcgofffalmdfaadoor", sum := "d6d54348c596733e4b23e09ee1b47878076e436d72c7bb4ed69a4f91fb8ef754", func := "woggle/wogglelaw03.RopeLoops", spec := "ropeLoops", inPlace := ["internal/bytealg.IndexByteString", "internal/bytealg.IndexString"], unfollowed := true, recurses := true, named := ["unicode/utf8.first", "unicode/utf8.acceptRanges", "internal/bytealg.MaxLen"], plainKeys := false, apart := false, laid := [("unicode/utf8.acceptRanges", laid_unicode_utf8_acceptRanges), ("unicode/utf8.first", laid_unicode_utf8_first)] }
def RopeLoopsSaid : Prop := ropeLoopsRow.holds Tryd.pinned (OpenSpec.ofChange ropeLoopsSpec)

/-- ITS FALSE NEIGHBOUR: 'it returns false'. Refute it at one input. -/
def ropeLoopsWrong : ChangeSpec := { name := "ropeLoops", fn := fun _ => fun
  | [d] => { results := [.lit (.bool false)], args := [d] }
  | _ => none }
def RopeLoopsWrongFalsely : Prop := ropeLoopsRow.holds Tryd.pinned (OpenSpec.ofChange ropeLoopsWrong)

/-- 'wogglelaw03.RopeIs': WHATEVER THE INPUT: true; the input reads as it did. -/
def ropeIsSpec : ChangeSpec := { name := "ropeIs", fn := fun _ => fun
  | [d1, d2, d3] => { results := [.lit (.bool true)], args := [d1, d2, d3] }
  | _ => none }
def ropeIsRow : OpenClaim := { program := "ytfcgofffalmdfaadoor", sum := "d6d54348c596733e4b23e09ee1b47878076e436d72c7bb4ed69a4f91fb8ef754", func := "woggle/wogglelaw03.RopeIs", spec := "ropeIs", inPlace := ["internal/bytealg.IndexByteString", "internal/bytealg.IndexString"], unfollowed := true, recurses := true, named := ["unicode/utf8.first", "unicode/utf8.acceptRanges", "internal/bytealg.MaxLen"], plainKeys := false, apart := false, laid := [("unicode/utf8.acceptRanges", laid_unicode_utf8_acceptRanges), ("unicode/utf8.first", laid_unicode_utf8_first)] }
def RopeIsSaid : Prop := ropeIsRow.holds Tryd.pinned (OpenSpec.ofChange ropeIsSpec)

/-- ITS FALSE NEIGHBOUR: 'it returns false'. Refute it at one input. -/
def ropeIsWrong : ChangeSpec := { name := "ropeIs", fn := fun _ => fun
  | [d1, d2, d3] => { results := [.lit (.bool false)], args := [d1, d2, d3] }
  | _ => none }
def RopeIsWrongFalsely : Prop := ropeIsRow.holds Tryd.pinned (OpenSpec.ofChange ropeIsWrong)

/-- 'wogglelaw03.RopeFirst': WHATEVER THE INPUT: true; the input reads as it did. -/
def ropeFirstSpec : ChangeSpec := { name := "ropeFirst", fn := fun _ => fun
  | [d1, d2] => { results := [.lit (.bool true)], args := [d1, d2] }
  | _ => none }
def ropeFirstRow : OpenClaim := { program := "ytfcgofffalmdfaadoor", sum := "d6d54348c596733e4b23e09ee1b47878076e436d72c7bb4ed69a4f91fb8ef754", func := "woggle/wogglelaw03.RopeFirst", spec := "ropeFirst", inPlace := ["internal/bytealg.IndexByteString", "internal/bytealg.IndexString"], unfollowed := true, recurses := true, named := ["unicode/utf8.first", "unicode/utf8.acceptRanges", "internal/bytealg.MaxLen"], plainKeys := false, apart := false, laid := [("unicode/utf8.acceptRanges", laid_unicode_utf8_acceptRanges), ("unicode/utf8.first", laid_unicode_utf8_first)] }
def RopeFirstSaid : Prop := ropeFirstRow.holds Tryd.pinned (OpenSpec.ofChange ropeFirstSpec)

/-- ITS FALSE NEIGHBOUR: 'it returns false'. Refute it at one input. -/
def ropeFirstWrong : ChangeSpec := { name := "ropeFirst", fn := fun _ => fun
  | [d1, d2] => { results := [.lit (.bool false)], args := [d1, d2] }
  | _ => none }
def RopeFirstWrongFalsely : Prop := ropeFirstRow.holds Tryd.pinned (OpenSpec.ofChange ropeFirstWrong)

/-- 'wogglelaw03.RopeReversed': WHATEVER THE INPUT: true; the input reads as it did. -/
def ropeReversedSpec : ChangeSpec := { name := "ropeReversed", fn := fun _ => fun
  | [d] => { results := [.lit (.bool true)], args := [d] }
  | _ => none }
def ropeReversedRow : OpenClaim := { program := "ytfcgofffalmdfaadoor", sum := "d6d54348c596733e4b23e09ee1b47878076e436d72c7bb4ed69a4f91fb8ef754", func := "woggle/wogglelaw03.RopeReversed", spec := "ropeReversed", inPlace := ["internal/bytealg.IndexByteString", "internal/bytealg.IndexString"], unfollowed := true, recurses := true, named := ["unicode/utf8.first", "unicode/utf8.acceptRanges", "internal/bytealg.MaxLen"], plainKeys := false, apart := false, laid := [("unicode/utf8.acceptRanges", laid_unicode_utf8_acceptRanges), ("unicode/utf8.first", laid_unicode_utf8_first)] }
def RopeReversedSaid : Prop := ropeReversedRow.holds Tryd.pinned (OpenSpec.ofChange ropeReversedSpec)

/-- ITS FALSE NEIGHBOUR: 'it returns false'. Refute it at one input. -/
def ropeReversedWrong : ChangeSpec := { name := "ropeReversed", fn := fun _ => fun
  | [d] => { results := [.lit (.bool false)], args := [d] }
  | _ => none }
def RopeReversedWrongFalsely : Prop := ropeReversedRow.holds Tryd.pinned (OpenSpec.ofChange ropeReversedWrong)

/- THE SECOND FORM. 'bulk': how many values and letters a reading holds, each counted each time it is reached (what is shared counts as often as it is met; a slice's spare places count too). A statement '..UptoSaid' is the law's where the arguments, and the package variables that the reading takes, are together of bulk at most 1048576: NARROWER than '..Said'. Prove '..Said' where nothing that the law and all that it calls make is longer than what came in: it says more and counts as full. Else prove '..UptoSaid'. A law counts once. -/
mutual
def uptoBulk {H : Type} : DataW H → Nat
  | .lit (.string bytes) => bytes.length + 1
  | .lit _ => 1
  | .nil => 1
  | .ptr d => uptoBulk d + 1
  | .slice elems spare => uptoBulkAll elems + uptoBulkAll spare + 1
  | .agg parts => uptoBulkAll parts + 1
  | .iface _ d => uptoBulk d + 1
  | .map entries => uptoBulkEntries entries + 1
  | .held _ => 1
def uptoBulkAll {H : Type} : List (DataW H) → Nat
  | [] => 0
  | d :: r => uptoBulk d + uptoBulkAll r
def uptoBulkEntries {H : Type} : List (Lit × DataW H) → Nat
  | [] => 0
  | x :: r => uptoBulkEntry x + uptoBulkEntries r
def uptoBulkEntry {H : Type} : Lit × DataW H → Nat
  | (.string bytes, d) => bytes.length + uptoBulk d + 1
  | (_, d) => uptoBulk d + 1
 end
def uptoSmall : (H : Type) → List (DataW H) → Bool := fun _ ds => decide (uptoBulkAll ds ≤ 1048576)
def OpenSpec.upto (s : _root_.Go.ChangeSpec) : _root_.Go.OpenSpec := { _root_.Go.OpenSpec.ofChange s with cond := some uptoSmall }

/-- 'wogglelaw03.RopeLoops', WHERE WHAT IT READS IS OF BULK AT MOST 1048576: true; the input reads as it did. -/
def ropeLoopsUptoRow : OpenClaim := { program := "ytfcgofffalmdfaadoor", sum := "d6d54348c596733e4b23e09ee1b47878076e436d72c7bb4ed69a4f91fb8ef754", func := "woggle/wogglelaw03.RopeLoops", spec := "ropeLoops", inPlace := ["internal/bytealg.IndexByteString", "internal/bytealg.IndexString"], unfollowed := true, recurses := true, named := ["unicode/utf8.first", "unicode/utf8.acceptRanges", "internal/bytealg.MaxLen"], plainKeys := false, apart := false, laid := [("unicode/utf8.acceptRanges", laid_unicode_utf8_acceptRanges), ("unicode/utf8.first", laid_unicode_utf8_first)], narrowed := true }
def RopeLoopsUptoSaid : Prop := ropeLoopsUptoRow.holds Tryd.pinned (OpenSpec.upto ropeLoopsSpec)

/-- 'wogglelaw03.RopeIs', WHERE WHAT IT READS IS OF BULK AT MOST 1048576: true; the input reads as it did. -/
def ropeIsUptoRow : OpenClaim := { program := "ytfcgofffalmdfaadoor", sum := "d6d54348c596733e4b23e09ee1b47878076e436d72c7bb4ed69a4f91fb8ef754", func := "woggle/wogglelaw03.RopeIs", spec := "ropeIs", inPlace := ["internal/bytealg.IndexByteString", "internal/bytealg.IndexString"], unfollowed := true, recurses := true, named := ["unicode/utf8.first", "unicode/utf8.acceptRanges", "internal/bytealg.MaxLen"], plainKeys := false, apart := false, laid := [("unicode/utf8.acceptRanges", laid_unicode_utf8_acceptRanges), ("unicode/utf8.first", laid_unicode_utf8_first)], narrowed := true }
def RopeIsUptoSaid : Prop := ropeIsUptoRow.holds Tryd.pinned (OpenSpec.upto ropeIsSpec)

/-- 'wogglelaw03.RopeFirst', WHERE WHAT IT READS IS OF BULK AT MOST 1048576: true; the input reads as it did. -/
def ropeFirstUptoRow : OpenClaim := { program := "ytfcgofffalmdfaadoor", sum := "d6d54348c596733e4b23e09ee1b47878076e436d72c7bb4ed69a4f91fb8ef754", func := "woggle/wogglelaw03.RopeFirst", spec := "ropeFirst", inPlace := ["internal/bytealg.IndexByteString", "internal/bytealg.IndexString"], unfollowed := true, recurses := true, named := ["unicode/utf8.first", "unicode/utf8.acceptRanges", "internal/bytealg.MaxLen"], plainKeys := false, apart := false, laid := [("unicode/utf8.acceptRanges", laid_unicode_utf8_acceptRanges), ("unicode/utf8.first", laid_unicode_utf8_first)], narrowed := true }
def RopeFirstUptoSaid : Prop := ropeFirstUptoRow.holds Tryd.pinned (OpenSpec.upto ropeFirstSpec)

/-- 'wogglelaw03.RopeReversed', WHERE WHAT IT READS IS OF BULK AT MOST 1048576: true; the input reads as it did. -/
def ropeReversedUptoRow : OpenClaim := { program := "ytfcgofffalmdfaadoor", sum := "d6d54348c596733e4b23e09ee1b47878076e436d72c7bb4ed69a4f91fb8ef754", func := "woggle/wogglelaw03.RopeReversed", spec := "ropeReversed", inPlace := ["internal/bytealg.IndexByteString", "internal/bytealg.IndexString"], unfollowed := true, recurses := true, named := ["unicode/utf8.first", "unicode/utf8.acceptRanges", "internal/bytealg.MaxLen"], plainKeys := false, apart := false, laid := [("unicode/utf8.acceptRanges", laid_unicode_utf8_acceptRanges), ("unicode/utf8.first", laid_unicode_utf8_first)], narrowed := true }
def RopeReversedUptoSaid : Prop := ropeReversedUptoRow.holds Tryd.pinned (OpenSpec.upto ropeReversedSpec)

end Rows
end Go.Proofs.YtfcgofffalmdfaaDoor
