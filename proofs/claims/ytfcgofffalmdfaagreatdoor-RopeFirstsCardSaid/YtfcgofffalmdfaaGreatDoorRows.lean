/-
  NARROWER THAN 'FOR EVERY INPUT', by the rows' own cells (each row's printed sentence says how): RopeFirsts: laid · RopeRanks: laid · RopeRules: laid · RopeJoined: laid · RopeMotzkin: laid · RopeCounts: laid · RopeSizes: laid · RopeAt: laid · RopeInverse: laid.
  DERIVED. THE GIVEN ROWS OF THIS SEAT. 9 by the template 'for every input the law returns true; each argument reads behind the call as it read before'; 0 by the template 'total and deterministic' (their statements: YtfcgofffalmdfaaGreatDoorTotals.lean).
  GIVEN WITH THE SEED: the statements are not yours to turn. If you find one false, say at which input.
  Laid BY PROGRAM, IN A SANDBOX (cutbox-rows.mjs): the forced cells as the released guide's own fill.sh prints them over the translation 8b75c8ceb6a212a5… (all of the seat's roots in one cut). By AI agents, Wed Nov 11 2026. No macro, syntax, notation, axiom, sorry.
-/
import Derived.Test.YtfcgofffalmdfaaGreatDoorChecked
import GoSem.PinnedTables
import GoSem.Claim
import GoSem.ClaimJoined
import GoSem.ClaimMapViews
import Derived.JoinedTies
import Derived.KernelRfl
namespace Go.Proofs.YtfcgofffalmdfaaGreatDoor
/- THE CELL 'sum', in the pinned program and in every row, IS THE sha256 OF THE DUMP (.gsa) THAT YtfcgofffalmdfaaGreatDoorProg.lean LOADS. Nothing in Lean hashes anything: it is a label: what it is worth is what the hold of that sum in a sandbox is worth. -/
noncomputable def Tryz.pinned : Pinned := { name := "ytfcgofffalmdfaagreatdoor", sum := "8b75c8ceb6a212a54ff175a79d02690d8dca346be53ad4ef3f8a88293d6aa6a5", checked := Tryz.checked }
namespace Rows
def none {H : Type} : Left H := { results := [], args := [] }

/- WHAT THE LISTED PACKAGE-LEVEL VARIABLES READ AS WHEN THE CALL BEGINS. Each datum BY PROGRAM (the guide's laid-datum.mjs) off the statement by which the dump's own 'gosem.cut.vars' lays the variable. In a bare row this is a premise. The card (YtfcgofffalmdfaaGreatDoorCards.lean) ties it to the program's text. -/
def laid_unicode_utf8_acceptRanges {H : Type} : DataW H := .agg [.agg [.lit (.int .u8 128), .lit (.int .u8 191)], .agg [.lit (.int .u8 160), .lit (.int .u8 191)], .agg [.lit (.int .u8 128), .lit (.int .u8 159)], .agg [.lit (.int .u8 144), .lit (.int .u8 191)], .agg [.lit (.int .u8 128), .lit (.int .u8 143)], .agg [.lit (.int .u8 0), .lit (.int .u8 0)], .agg [.lit (.int .u8 0), .lit (.int .u8 0)], .agg [.lit (.int .u8 0), .lit (.int .u8 0)], .agg [.lit (.int .u8 0), .lit (.int .u8 0)], .agg [.lit (.int .u8 0), .lit (.int .u8 0)], .agg [.lit (.int .u8 0), .lit (.int .u8 0)], .agg [.lit (.int .u8 0), .lit (.int .u8 0)], .agg [.lit (.int .u8 0), .lit (.int .u8 0)], .agg [.lit (.int .u8 0), .lit (.int .u8 0)], .agg [.lit (.int .u8 0), .lit (.int .u8 0)], .agg [.lit (.int .u8 0), .lit (.int .u8 0)]]
/-- One of Go's own tables, pinned by name: the form's constant. -/
def laid_unicode_utf8_first : DataW Unit := Go.Pinned.utf8First

/-- 'wogglelaw03.RopeFirsts': WHATEVER THE INPUT: true; the input reads as it did. -/
def ropeFirstsSpec : ChangeSpec := { name := "ropeFirsts", fn := fun _ => fun
  | [d1, d2] => { results := [.lit (.bool true)], args := [d1, d2] }
  | _ => none }
def ropeFirstsRow : OpenClaim := { program := "ytfcgofffalmdfaagreatdoor", sum := "8b75c8ceb6a212a54ff175a79d02690d8dca346be53ad4ef3f8a88293d6aa6a5", func := "woggle/wogglelaw03.RopeFirsts", spec := "ropeFirsts", inPlace := ["internal/bytealg.IndexByteString", "internal/bytealg.IndexString"], unfollowed := true, recurses := true, named := ["unicode/utf8.first", "unicode/utf8.acceptRanges", "internal/bytealg.MaxLen"], plainKeys := false, apart := false, laid := [("unicode/utf8.acceptRanges", laid_unicode_utf8_acceptRanges), ("unicode/utf8.first", laid_unicode_utf8_first)] }
def RopeFirstsSaid : Prop := ropeFirstsRow.holds Tryz.pinned (OpenSpec.ofChange ropeFirstsSpec)

/-- ITS FALSE NEIGHBOUR: 'it returns false'. Refute it at one input. -/
def ropeFirstsWrong : ChangeSpec := { name := "ropeFirsts", fn := fun _ => fun
  | [d1, d2] => { results := [.lit (.bool false)], args := [d1, d2] }
  | _ => none }
def RopeFirstsWrongFalsely : Prop := ropeFirstsRow.holds Tryz.pinned (OpenSpec.ofChange ropeFirstsWrong)

/-- 'wogglelaw03.RopeRanks': WHATEVER THE INPUT: true; the input reads as it did. -/
def ropeRanksSpec : ChangeSpec := { name := "ropeRanks", fn := fun _ => fun
  | [d1, d2, d3] => { results := [.lit (.bool true)], args := [d1, d2, d3] }
  | _ => none }
def ropeRanksRow : OpenClaim := { program := "ytfcgofffalmdfaagreatdoor", sum := "8b75c8ceb6a212a54ff175a79d02690d8dca346be53ad4ef3f8a88293d6aa6a5", func := "woggle/wogglelaw03.RopeRanks", spec := "ropeRanks", inPlace := ["internal/bytealg.IndexByteString", "internal/bytealg.IndexString"], unfollowed := true, recurses := true, named := ["unicode/utf8.first", "unicode/utf8.acceptRanges", "internal/bytealg.MaxLen"], plainKeys := false, apart := false, laid := [("unicode/utf8.acceptRanges", laid_unicode_utf8_acceptRanges), ("unicode/utf8.first", laid_unicode_utf8_first)] }
def RopeRanksSaid : Prop := ropeRanksRow.holds Tryz.pinned (OpenSpec.ofChange ropeRanksSpec)

/-- ITS FALSE NEIGHBOUR: 'it returns false'. Refute it at one input. -/
def ropeRanksWrong : ChangeSpec := { name := "ropeRanks", fn := fun _ => fun
  | [d1, d2, d3] => { results := [.lit (.bool false)], args := [d1, d2, d3] }
  | _ => none }
def RopeRanksWrongFalsely : Prop := ropeRanksRow.holds Tryz.pinned (OpenSpec.ofChange ropeRanksWrong)

/-- 'wogglelaw03.RopeRules': WHATEVER THE INPUT: true; the input reads as it did. -/
def ropeRulesSpec : ChangeSpec := { name := "ropeRules", fn := fun _ => fun
  | [d1, d2] => { results := [.lit (.bool true)], args := [d1, d2] }
  | _ => none }
def ropeRulesRow : OpenClaim := { program := "ytfcgofffalmdfaagreatdoor", sum := "8b75c8ceb6a212a54ff175a79d02690d8dca346be53ad4ef3f8a88293d6aa6a5", func := "woggle/wogglelaw03.RopeRules", spec := "ropeRules", inPlace := ["internal/bytealg.IndexByteString", "internal/bytealg.IndexString"], unfollowed := true, recurses := true, named := ["unicode/utf8.first", "unicode/utf8.acceptRanges", "internal/bytealg.MaxLen"], plainKeys := false, apart := false, laid := [("unicode/utf8.acceptRanges", laid_unicode_utf8_acceptRanges), ("unicode/utf8.first", laid_unicode_utf8_first)] }
def RopeRulesSaid : Prop := ropeRulesRow.holds Tryz.pinned (OpenSpec.ofChange ropeRulesSpec)

/-- ITS FALSE NEIGHBOUR: 'it returns false'. Refute it at one input. -/
def ropeRulesWrong : ChangeSpec := { name := "ropeRules", fn := fun _ => fun
  | [d1, d2] => { results := [.lit (.bool false)], args := [d1, d2] }
  | _ => none }
def RopeRulesWrongFalsely : Prop := ropeRulesRow.holds Tryz.pinned (OpenSpec.ofChange ropeRulesWrong)

/-- 'wogglelaw03.RopeJoined': WHATEVER THE INPUT: true; the input reads as it did. -/
def ropeJoinedSpec : ChangeSpec := { name := "ropeJoined", fn := fun _ => fun
  | [d1, d2] => { results := [.lit (.bool true)], args := [d1, d2] }
  | _ => none }
def ropeJoinedRow : OpenClaim := { program := "ytfcgofffalmdfaagreatdoor", sum := "8b75c8ceb6a212a54ff175a79d02690d8dca346be53ad4ef3f8a88293d6aa6a5", func := "woggle/wogglelaw03.RopeJoined", spec := "ropeJoined", inPlace := ["internal/bytealg.IndexByteString", "internal/bytealg.IndexString"], unfollowed := true, recurses := true, named := ["unicode/utf8.first", "unicode/utf8.acceptRanges", "internal/bytealg.MaxLen"], plainKeys := false, apart := false, laid := [("unicode/utf8.acceptRanges", laid_unicode_utf8_acceptRanges), ("unicode/utf8.first", laid_unicode_utf8_first)] }
def RopeJoinedSaid : Prop := ropeJoinedRow.holds Tryz.pinned (OpenSpec.ofChange ropeJoinedSpec)

/-- ITS FALSE NEIGHBOUR: 'it returns false'. Refute it at one input. -/
def ropeJoinedWrong : ChangeSpec := { name := "ropeJoined", fn := fun _ => fun
  | [d1, d2] => { results := [.lit (.bool false)], args := [d1, d2] }
  | _ => none }
def RopeJoinedWrongFalsely : Prop := ropeJoinedRow.holds Tryz.pinned (OpenSpec.ofChange ropeJoinedWrong)

/-- 'wogglelaw03.RopeMotzkin': WHATEVER THE INPUT: true; the input reads as it did. -/
def ropeMotzkinSpec : ChangeSpec := { name := "ropeMotzkin", fn := fun _ => fun
  | [d] => { results := [.lit (.bool true)], args := [d] }
  | _ => none }
def ropeMotzkinRow : OpenClaim := { program := "ytfcgofffalmdfaagreatdoor", sum := "8b75c8ceb6a212a54ff175a79d02690d8dca346be53ad4ef3f8a88293d6aa6a5", func := "woggle/wogglelaw03.RopeMotzkin", spec := "ropeMotzkin", inPlace := ["internal/bytealg.IndexByteString", "internal/bytealg.IndexString"], unfollowed := true, recurses := true, named := ["unicode/utf8.first", "unicode/utf8.acceptRanges", "internal/bytealg.MaxLen"], plainKeys := false, apart := false, laid := [("unicode/utf8.acceptRanges", laid_unicode_utf8_acceptRanges), ("unicode/utf8.first", laid_unicode_utf8_first)] }
def RopeMotzkinSaid : Prop := ropeMotzkinRow.holds Tryz.pinned (OpenSpec.ofChange ropeMotzkinSpec)

/-- ITS FALSE NEIGHBOUR: 'it returns false'. Refute it at one input. -/
def ropeMotzkinWrong : ChangeSpec := { name := "ropeMotzkin", fn := fun _ => fun
  | [d] => { results := [.lit (.bool false)], args := [d] }
  | _ => none }
def RopeMotzkinWrongFalsely : Prop := ropeMotzkinRow.holds Tryz.pinned (OpenSpec.ofChange ropeMotzkinWrong)

/-- 'wogglelaw03.RopeCounts': WHATEVER THE INPUT: true; the input reads as it did. -/
def ropeCountsSpec : ChangeSpec := { name := "ropeCounts", fn := fun _ => fun
  | [d1, d2] => { results := [.lit (.bool true)], args := [d1, d2] }
  | _ => none }
def ropeCountsRow : OpenClaim := { program := "ytfcgofffalmdfaagreatdoor", sum := "8b75c8ceb6a212a54ff175a79d02690d8dca346be53ad4ef3f8a88293d6aa6a5", func := "woggle/wogglelaw03.RopeCounts", spec := "ropeCounts", inPlace := ["internal/bytealg.IndexByteString", "internal/bytealg.IndexString"], unfollowed := true, recurses := true, named := ["unicode/utf8.first", "unicode/utf8.acceptRanges", "internal/bytealg.MaxLen"], plainKeys := false, apart := false, laid := [("unicode/utf8.acceptRanges", laid_unicode_utf8_acceptRanges), ("unicode/utf8.first", laid_unicode_utf8_first)] }
def RopeCountsSaid : Prop := ropeCountsRow.holds Tryz.pinned (OpenSpec.ofChange ropeCountsSpec)

/-- ITS FALSE NEIGHBOUR: 'it returns false'. Refute it at one input. -/
def ropeCountsWrong : ChangeSpec := { name := "ropeCounts", fn := fun _ => fun
  | [d1, d2] => { results := [.lit (.bool false)], args := [d1, d2] }
  | _ => none }
def RopeCountsWrongFalsely : Prop := ropeCountsRow.holds Tryz.pinned (OpenSpec.ofChange ropeCountsWrong)

/-- 'wogglelaw03.RopeSizes': WHATEVER THE INPUT: true; the input reads as it did. -/
def ropeSizesSpec : ChangeSpec := { name := "ropeSizes", fn := fun _ => fun
  | [d] => { results := [.lit (.bool true)], args := [d] }
  | _ => none }
def ropeSizesRow : OpenClaim := { program := "ytfcgofffalmdfaagreatdoor", sum := "8b75c8ceb6a212a54ff175a79d02690d8dca346be53ad4ef3f8a88293d6aa6a5", func := "woggle/wogglelaw03.RopeSizes", spec := "ropeSizes", inPlace := ["internal/bytealg.IndexByteString", "internal/bytealg.IndexString"], unfollowed := true, recurses := true, named := ["unicode/utf8.first", "unicode/utf8.acceptRanges", "internal/bytealg.MaxLen"], plainKeys := false, apart := false, laid := [("unicode/utf8.acceptRanges", laid_unicode_utf8_acceptRanges), ("unicode/utf8.first", laid_unicode_utf8_first)] }
def RopeSizesSaid : Prop := ropeSizesRow.holds Tryz.pinned (OpenSpec.ofChange ropeSizesSpec)

/-- ITS FALSE NEIGHBOUR: 'it returns false'. Refute it at one input. -/
def ropeSizesWrong : ChangeSpec := { name := "ropeSizes", fn := fun _ => fun
  | [d] => { results := [.lit (.bool false)], args := [d] }
  | _ => none }
def RopeSizesWrongFalsely : Prop := ropeSizesRow.holds Tryz.pinned (OpenSpec.ofChange ropeSizesWrong)

/-- 'wogglelaw03.RopeAt': WHATEVER THE INPUT: true; the input reads as it did. -/
def ropeAtSpec : ChangeSpec := { name := "ropeAt", fn := fun _ => fun
  | [d1, d2, d3] => { results := [.lit (.bool true)], args := [d1, d2, d3] }
  | _ => none }
def ropeAtRow : OpenClaim := { program := "ytfcgofffalmdfaagreatdoor", sum := "8b75c8ceb6a212a54ff175a79d02690d8dca346be53ad4ef3f8a88293d6aa6a5", func := "woggle/wogglelaw03.RopeAt", spec := "ropeAt", inPlace := ["internal/bytealg.IndexByteString", "internal/bytealg.IndexString"], unfollowed := true, recurses := true, named := ["unicode/utf8.first", "unicode/utf8.acceptRanges", "internal/bytealg.MaxLen"], plainKeys := false, apart := false, laid := [("unicode/utf8.acceptRanges", laid_unicode_utf8_acceptRanges), ("unicode/utf8.first", laid_unicode_utf8_first)] }
def RopeAtSaid : Prop := ropeAtRow.holds Tryz.pinned (OpenSpec.ofChange ropeAtSpec)

/-- ITS FALSE NEIGHBOUR: 'it returns false'. Refute it at one input. -/
def ropeAtWrong : ChangeSpec := { name := "ropeAt", fn := fun _ => fun
  | [d1, d2, d3] => { results := [.lit (.bool false)], args := [d1, d2, d3] }
  | _ => none }
def RopeAtWrongFalsely : Prop := ropeAtRow.holds Tryz.pinned (OpenSpec.ofChange ropeAtWrong)

/-- 'wogglelaw03.RopeInverse': WHATEVER THE INPUT: true; the input reads as it did. -/
def ropeInverseSpec : ChangeSpec := { name := "ropeInverse", fn := fun _ => fun
  | [d1, d2, d3] => { results := [.lit (.bool true)], args := [d1, d2, d3] }
  | _ => none }
def ropeInverseRow : OpenClaim := { program := "ytfcgofffalmdfaagreatdoor", sum := "8b75c8ceb6a212a54ff175a79d02690d8dca346be53ad4ef3f8a88293d6aa6a5", func := "woggle/wogglelaw03.RopeInverse", spec := "ropeInverse", inPlace := ["internal/bytealg.IndexByteString", "internal/bytealg.IndexString"], unfollowed := true, recurses := true, named := ["unicode/utf8.first", "unicode/utf8.acceptRanges", "internal/bytealg.MaxLen"], plainKeys := false, apart := false, laid := [("unicode/utf8.acceptRanges", laid_unicode_utf8_acceptRanges), ("unicode/utf8.first", laid_unicode_utf8_first)] }
def RopeInverseSaid : Prop := ropeInverseRow.holds Tryz.pinned (OpenSpec.ofChange ropeInverseSpec)

/-- ITS FALSE NEIGHBOUR: 'it returns false'. Refute it at one input. -/
def ropeInverseWrong : ChangeSpec := { name := "ropeInverse", fn := fun _ => fun
  | [d1, d2, d3] => { results := [.lit (.bool false)], args := [d1, d2, d3] }
  | _ => none }
def RopeInverseWrongFalsely : Prop := ropeInverseRow.holds Tryz.pinned (OpenSpec.ofChange ropeInverseWrong)

/- THE SECOND FORM. 'bulk': how many values and letters a reading holds, each counted each time it is reached (what is shared counts as often as it is met; a slice's spare places count too). A statement '..UptoSaid' is the law's where the arguments, and the package variables that the reading takes, are together of bulk at most 1048576: NARROWER than '..Said'. Prove '..Said' where nothing that the law and all that it calls make is longer than what came in: it says more and counts as full. Else prove '..UptoSaid'. A law counts once. -/
mutual
def uptoBulk {H : Type} : DataW H → Nat
  | .lit (.string bytes) => bytes.length + 1
  | .lit _ => 1
  | .nil => 1
  | .ptr d => uptoBulk d + 1
  | .slice elems spare => uptoBulkAll elems + uptoBulkAll spare + 1
  | .agg parts => uptoBulkAll parts + 1
  | .iface _ d => uptoBulk d + 1
  | .map entries => uptoBulkEntries entries + 1
  | .held _ => 1
def uptoBulkAll {H : Type} : List (DataW H) → Nat
  | [] => 0
  | d :: r => uptoBulk d + uptoBulkAll r
def uptoBulkEntries {H : Type} : List (Lit × DataW H) → Nat
  | [] => 0
  | x :: r => uptoBulkEntry x + uptoBulkEntries r
def uptoBulkEntry {H : Type} : Lit × DataW H → Nat
  | (.string bytes, d) => bytes.length + uptoBulk d + 1
  | (_, d) => uptoBulk d + 1
 end
def uptoSmall : (H : Type) → List (DataW H) → Bool := fun _ ds => decide (uptoBulkAll ds ≤ 1048576)
def OpenSpec.upto (s : _root_.Go.ChangeSpec) : _root_.Go.OpenSpec := { _root_.Go.OpenSpec.ofChange s with cond := some uptoSmall }

/-- 'wogglelaw03.RopeFirsts', WHERE WHAT IT READS IS OF BULK AT MOST 1048576: true; the input reads as it did. -/
def ropeFirstsUptoRow : OpenClaim := { program := "ytfcgofffalmdfaagreatdoor", sum := "8b75c8ceb6a212a54ff175a79d02690d8dca346be53ad4ef3f8a88293d6aa6a5", func := "woggle/wogglelaw03.RopeFirsts", spec := "ropeFirsts", inPlace := ["internal/bytealg.IndexByteString", "internal/bytealg.IndexString"], unfollowed := true, recurses := true, named := ["unicode/utf8.first", "unicode/utf8.acceptRanges", "internal/bytealg.MaxLen"], plainKeys := false, apart := false, laid := [("unicode/utf8.acceptRanges", laid_unicode_utf8_acceptRanges), ("unicode/utf8.first", laid_unicode_utf8_first)], narrowed := true }
def RopeFirstsUptoSaid : Prop := ropeFirstsUptoRow.holds Tryz.pinned (OpenSpec.upto ropeFirstsSpec)

/-- 'wogglelaw03.RopeRanks', WHERE WHAT IT READS IS OF BULK AT MOST 1048576: true; the input reads as it did. -/
def ropeRanksUptoRow : OpenClaim := { program := "ytfcgofffalmdfaagreatdoor", sum := "8b75c8ceb6a212a54ff175a79d02690d8dca346be53ad4ef3f8a88293d6aa6a5", func := "woggle/wogglelaw03.RopeRanks", spec := "ropeRanks", inPlace := ["internal/bytealg.IndexByteString", "internal/bytealg.IndexString"], unfollowed := true, recurses := true, named := ["unicode/utf8.first", "unicode/utf8.acceptRanges", "internal/bytealg.MaxLen"], plainKeys := false, apart := false, laid := [("unicode/utf8.acceptRanges", laid_unicode_utf8_acceptRanges), ("unicode/utf8.first", laid_unicode_utf8_first)], narrowed := true }
def RopeRanksUptoSaid : Prop := ropeRanksUptoRow.holds Tryz.pinned (OpenSpec.upto ropeRanksSpec)

/-- 'wogglelaw03.RopeRules', WHERE WHAT IT READS IS OF BULK AT MOST 1048576: true; the input reads as it did. -/
def ropeRulesUptoRow : OpenClaim := { program := "ytfcgofffalmdfaagreatdoor", sum := "8b75c8ceb6a212a54ff175a79d02690d8dca346be53ad4ef3f8a88293d6aa6a5", func := "woggle/wogglelaw03.RopeRules", spec := "ropeRules", inPlace := ["internal/bytealg.IndexByteString", "internal/bytealg.IndexString"], unfollowed := true, recurses := true, named := ["unicode/utf8.first", "unicode/utf8.acceptRanges", "internal/bytealg.MaxLen"], plainKeys := false, apart := false, laid := [("unicode/utf8.acceptRanges", laid_unicode_utf8_acceptRanges), ("unicode/utf8.first", laid_unicode_utf8_first)], narrowed := true }
def RopeRulesUptoSaid : Prop := ropeRulesUptoRow.holds Tryz.pinned (OpenSpec.upto ropeRulesSpec)

/-- 'wogglelaw03.RopeJoined', WHERE WHAT IT READS IS OF BULK AT MOST 1048576: true; the input reads as it did. -/
def ropeJoinedUptoRow : OpenClaim := { program := "ytfcgofffalmdfaagreatdoor", sum := "8b75c8ceb6a212a54ff175a79d02690d8dca346be53ad4ef3f8a88293d6aa6a5", func := "woggle/wogglelaw03.RopeJoined", spec := "ropeJoined", inPlace := ["internal/bytealg.IndexByteString", "internal/bytealg.IndexString"], unfollowed := true, recurses := true, named := ["unicode/utf8.first", "unicode/utf8.acceptRanges", "internal/bytealg.MaxLen"], plainKeys := false, apart := false, laid := [("unicode/utf8.acceptRanges", laid_unicode_utf8_acceptRanges), ("unicode/utf8.first", laid_unicode_utf8_first)], narrowed := true }
def RopeJoinedUptoSaid : Prop := ropeJoinedUptoRow.holds Tryz.pinned (OpenSpec.upto ropeJoinedSpec)

/-- 'wogglelaw03.RopeMotzkin', WHERE WHAT IT READS IS OF BULK AT MOST 1048576: true; the input reads as it did. -/
def ropeMotzkinUptoRow : OpenClaim := { program := "ytfcgofffalmdfaagreatdoor", sum := "8b75c8ceb6a212a54ff175a79d02690d8dca346be53ad4ef3f8a88293d6aa6a5", func := "woggle/wogglelaw03.RopeMotzkin", spec := "ropeMotzkin", inPlace := ["internal/bytealg.IndexByteString", "internal/bytealg.IndexString"], unfollowed := true, recurses := true, named := ["unicode/utf8.first", "unicode/utf8.acceptRanges", "internal/bytealg.MaxLen"], plainKeys := false, apart := false, laid := [("unicode/utf8.acceptRanges", laid_unicode_utf8_acceptRanges), ("unicode/utf8.first", laid_unicode_utf8_first)], narrowed := true }
def RopeMotzkinUptoSaid : Prop := ropeMotzkinUptoRow.holds Tryz.pinned (OpenSpec.upto ropeMotzkinSpec)

/-- 'wogglelaw03.RopeCounts', WHERE WHAT IT READS IS OF BULK AT MOST 1048576: true; the input reads as it did. -/
def ropeCountsUptoRow : OpenClaim := { program := "ytfcgofffalmdfaagreatdoor", sum := "8b75c8ceb6a212a54ff175a79d02690d8dca346be53ad4ef3f8a88293d6aa6a5", func := "woggle/wogglelaw03.RopeCounts", spec := "ropeCounts", inPlace := ["internal/bytealg.IndexByteString", "internal/bytealg.IndexString"], unfollowed := true, recurses := true, named := ["unicode/utf8.first", "unicode/utf8.acceptRanges", "internal/bytealg.MaxLen"], plainKeys := false, apart := false, laid := [("unicode/utf8.acceptRanges", laid_unicode_utf8_acceptRanges), ("unicode/utf8.first", laid_unicode_utf8_first)], narrowed := true }
def RopeCountsUptoSaid : Prop := ropeCountsUptoRow.holds Tryz.pinned (OpenSpec.upto ropeCountsSpec)

/-- 'wogglelaw03.RopeSizes', WHERE WHAT IT READS IS OF BULK AT MOST 1048576: true; the input reads as it did. -/
def ropeSizesUptoRow : OpenClaim := { program := "ytfcgofffalmdfaagreatdoor", sum := "8b75c8ceb6a212a54ff175a79d02690d8dca346be53ad4ef3f8a88293d6aa6a5", func := "woggle/wogglelaw03.RopeSizes", spec := "ropeSizes", inPlace := ["internal/bytealg.IndexByteString", "internal/bytealg.IndexString"], unfollowed := true, recurses := true, named := ["unicode/utf8.first", "unicode/utf8.acceptRanges", "internal/bytealg.MaxLen"], plainKeys := false, apart := false, laid := [("unicode/utf8.acceptRanges", laid_unicode_utf8_acceptRanges), ("unicode/utf8.first", laid_unicode_utf8_first)], narrowed := true }
def RopeSizesUptoSaid : Prop := ropeSizesUptoRow.holds Tryz.pinned (OpenSpec.upto ropeSizesSpec)

/-- 'wogglelaw03.RopeAt', WHERE WHAT IT READS IS OF BULK AT MOST 1048576: true; the input reads as it did. -/
def ropeAtUptoRow : OpenClaim := { program := "ytfcgofffalmdfaagreatdoor", sum := "8b75c8ceb6a212a54ff175a79d02690d8dca346be53ad4ef3f8a88293d6aa6a5", func := "woggle/wogglelaw03.RopeAt", spec := "ropeAt", inPlace := ["internal/bytealg.IndexByteString", "internal/bytealg.IndexString"], unfollowed := true, recurses := true, named := ["unicode/utf8.first", "unicode/utf8.acceptRanges", "internal/bytealg.MaxLen"], plainKeys := false, apart := false, laid := [("unicode/utf8.acceptRanges", laid_unicode_utf8_acceptRanges), ("unicode/utf8.first", laid_unicode_utf8_first)], narrowed := true }
def RopeAtUptoSaid : Prop := ropeAtUptoRow.holds Tryz.pinned (OpenSpec.upto ropeAtSpec)

/-- 'wogglelaw03.RopeInverse', WHERE WHAT IT READS IS OF BULK AT MOST 1048576: true; the input reads as it did. -/
def ropeInverseUptoRow : OpenClaim := { program := "ytfcgofffalmdfaagreatdoor", sum := "8b75c8ceb6a212a54ff175a79d02690d8dca346be53ad4ef3f8a88293d6aa6a5", func := "woggle/wogglelaw03.RopeInverse", spec := "ropeInverse", inPlace := ["internal/bytealg.IndexByteString", "internal/bytealg.IndexString"], unfollowed := true, recurses := true, named := ["unicode/utf8.first", "unicode/utf8.acceptRanges", "internal/bytealg.MaxLen"], plainKeys := false, apart := false, laid := [("unicode/utf8.acceptRanges", laid_unicode_utf8_acceptRanges), ("unicode/utf8.first", laid_unicode_utf8_first)], narrowed := true }
def RopeInverseUptoSaid : Prop := ropeInverseUptoRow.holds Tryz.pinned (OpenSpec.upto ropeInverseSpec)

end Rows
end Go.Proofs.YtfcgofffalmdfaaGreatDoor
