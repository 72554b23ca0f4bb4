/-
  No cell of these rows narrows 'for every input' (looked for: loops, veiled, ifaces, maps, wideKeys, modest, calm, conditions, laid).
  DERIVED. THE GIVEN ROWS OF THIS SEAT. 13 by the template 'for every input the law returns true; each argument reads behind the call as it read before'; 0 by the template 'total and deterministic' (their statements: YtpbighinamljbaaTotals.lean).
  GIVEN WITH THE SEED: the statements are not yours to turn. If you find one false, say at which input.
  Laid BY PROGRAM, IN A SANDBOX (cutbox-rows.mjs): the forced cells as the released guide's own fill.sh prints them over the translation 21ee822994e2c221… (all of the seat's roots in one cut). By AI agents, Wed Nov 11 2026. No macro, syntax, notation, axiom, sorry.
-/
import Derived.Test.YtpbighinamljbaaChecked
import GoSem.Claim
import GoSem.ClaimJoined
import GoSem.ClaimMapViews
import Derived.JoinedTies
import Derived.KernelRfl
namespace Go.Proofs.Ytpbighinamljbaa
/- THE CELL 'sum', in the pinned program and in every row, IS THE sha256 OF THE DUMP (.gsa) THAT YtpbighinamljbaaProg.lean LOADS. Nothing in Lean hashes anything: it is a label: what it is worth is what the hold of that sum in a sandbox is worth. -/
noncomputable def Try.pinned : Pinned := { name := "ytpbighinamljbaa", sum := "21ee822994e2c2214f7b2b3e13981e0412b536d0fbd856a2d3e4a19bcb326b20", checked := Try.checked }
namespace Rows
def none {H : Type} : Left H := { results := [], args := [] }

/-- 'wogglelaw08.NewsCentres': WHATEVER THE INPUT: true; the input reads as it did. -/
def newsCentresSpec : ChangeSpec := { name := "newsCentres", fn := fun _ => fun
  | [d] => { results := [.lit (.bool true)], args := [d] }
  | _ => none }
def newsCentresRow : OpenClaim := { program := "ytpbighinamljbaa", sum := "21ee822994e2c2214f7b2b3e13981e0412b536d0fbd856a2d3e4a19bcb326b20", func := "woggle/wogglelaw08.NewsCentres", spec := "newsCentres", unfollowed := true, recurses := true, plainKeys := false, apart := false }
def NewsCentresSaid : Prop := newsCentresRow.holds Try.pinned (OpenSpec.ofChange newsCentresSpec)

/-- ITS FALSE NEIGHBOUR: 'it returns false'. Refute it at one input. -/
def newsCentresWrong : ChangeSpec := { name := "newsCentres", fn := fun _ => fun
  | [d] => { results := [.lit (.bool false)], args := [d] }
  | _ => none }
def NewsCentresWrongFalsely : Prop := newsCentresRow.holds Try.pinned (OpenSpec.ofChange newsCentresWrong)

/-- 'wogglelaw08.NewsNeighbours': WHATEVER THE INPUT: true; the input reads as it did. -/
def newsNeighboursSpec : ChangeSpec := { name := "newsNeighbours", fn := fun _ => fun
  | [d1, d2] => { results := [.lit (.bool true)], args := [d1, d2] }
  | _ => none }
def newsNeighboursRow : OpenClaim := { program := "ytpbighinamljbaa", sum := "21ee822994e2c2214f7b2b3e13981e0412b536d0fbd856a2d3e4a19bcb326b20", func := "woggle/wogglelaw08.NewsNeighbours", spec := "newsNeighbours", unfollowed := true, recurses := true, plainKeys := false, apart := false }
def NewsNeighboursSaid : Prop := newsNeighboursRow.holds Try.pinned (OpenSpec.ofChange newsNeighboursSpec)

/-- ITS FALSE NEIGHBOUR: 'it returns false'. Refute it at one input. -/
def newsNeighboursWrong : ChangeSpec := { name := "newsNeighbours", fn := fun _ => fun
  | [d1, d2] => { results := [.lit (.bool false)], args := [d1, d2] }
  | _ => none }
def NewsNeighboursWrongFalsely : Prop := newsNeighboursRow.holds Try.pinned (OpenSpec.ofChange newsNeighboursWrong)

/-- 'wogglelaw08.NewsEdges': WHATEVER THE INPUT: true; the input reads as it did. -/
def newsEdgesSpec : ChangeSpec := { name := "newsEdges", fn := fun _ => fun
  | [d1, d2] => { results := [.lit (.bool true)], args := [d1, d2] }
  | _ => none }
def newsEdgesRow : OpenClaim := { program := "ytpbighinamljbaa", sum := "21ee822994e2c2214f7b2b3e13981e0412b536d0fbd856a2d3e4a19bcb326b20", func := "woggle/wogglelaw08.NewsEdges", spec := "newsEdges", unfollowed := true, recurses := true, plainKeys := false, apart := false }
def NewsEdgesSaid : Prop := newsEdgesRow.holds Try.pinned (OpenSpec.ofChange newsEdgesSpec)

/-- ITS FALSE NEIGHBOUR: 'it returns false'. Refute it at one input. -/
def newsEdgesWrong : ChangeSpec := { name := "newsEdges", fn := fun _ => fun
  | [d1, d2] => { results := [.lit (.bool false)], args := [d1, d2] }
  | _ => none }
def NewsEdgesWrongFalsely : Prop := newsEdgesRow.holds Try.pinned (OpenSpec.ofChange newsEdgesWrong)

/-- 'wogglelaw08.NewsTree': WHATEVER THE INPUT: true; the input reads as it did. -/
def newsTreeSpec : ChangeSpec := { name := "newsTree", fn := fun _ => fun
  | [d] => { results := [.lit (.bool true)], args := [d] }
  | _ => none }
def newsTreeRow : OpenClaim := { program := "ytpbighinamljbaa", sum := "21ee822994e2c2214f7b2b3e13981e0412b536d0fbd856a2d3e4a19bcb326b20", func := "woggle/wogglelaw08.NewsTree", spec := "newsTree", unfollowed := true, recurses := true, plainKeys := false, apart := false }
def NewsTreeSaid : Prop := newsTreeRow.holds Try.pinned (OpenSpec.ofChange newsTreeSpec)

/-- ITS FALSE NEIGHBOUR: 'it returns false'. Refute it at one input. -/
def newsTreeWrong : ChangeSpec := { name := "newsTree", fn := fun _ => fun
  | [d] => { results := [.lit (.bool false)], args := [d] }
  | _ => none }
def NewsTreeWrongFalsely : Prop := newsTreeRow.holds Try.pinned (OpenSpec.ofChange newsTreeWrong)

/-- 'wogglelaw08.NewsRenamed': WHATEVER THE INPUT: true; the input reads as it did. -/
def newsRenamedSpec : ChangeSpec := { name := "newsRenamed", fn := fun _ => fun
  | [d1, d2] => { results := [.lit (.bool true)], args := [d1, d2] }
  | _ => none }
def newsRenamedRow : OpenClaim := { program := "ytpbighinamljbaa", sum := "21ee822994e2c2214f7b2b3e13981e0412b536d0fbd856a2d3e4a19bcb326b20", func := "woggle/wogglelaw08.NewsRenamed", spec := "newsRenamed", unfollowed := true, recurses := true, plainKeys := false, apart := false }
def NewsRenamedSaid : Prop := newsRenamedRow.holds Try.pinned (OpenSpec.ofChange newsRenamedSpec)

/-- ITS FALSE NEIGHBOUR: 'it returns false'. Refute it at one input. -/
def newsRenamedWrong : ChangeSpec := { name := "newsRenamed", fn := fun _ => fun
  | [d1, d2] => { results := [.lit (.bool false)], args := [d1, d2] }
  | _ => none }
def NewsRenamedWrongFalsely : Prop := newsRenamedRow.holds Try.pinned (OpenSpec.ofChange newsRenamedWrong)

/-- 'wogglelaw08.NewsFews': WHATEVER THE INPUT: true; the input reads as it did. -/
def newsFewsSpec : ChangeSpec := { name := "newsFews", fn := fun _ => fun
  | [d] => { results := [.lit (.bool true)], args := [d] }
  | _ => none }
def newsFewsRow : OpenClaim := { program := "ytpbighinamljbaa", sum := "21ee822994e2c2214f7b2b3e13981e0412b536d0fbd856a2d3e4a19bcb326b20", func := "woggle/wogglelaw08.NewsFews", spec := "newsFews", unfollowed := true, recurses := true, plainKeys := false, apart := false }
def NewsFewsSaid : Prop := newsFewsRow.holds Try.pinned (OpenSpec.ofChange newsFewsSpec)

/-- ITS FALSE NEIGHBOUR: 'it returns false'. Refute it at one input. -/
def newsFewsWrong : ChangeSpec := { name := "newsFews", fn := fun _ => fun
  | [d] => { results := [.lit (.bool false)], args := [d] }
  | _ => none }
def NewsFewsWrongFalsely : Prop := newsFewsRow.holds Try.pinned (OpenSpec.ofChange newsFewsWrong)

/-- 'wogglelaw08.NewsLeast': WHATEVER THE INPUT: true; the input reads as it did. -/
def newsLeastSpec : ChangeSpec := { name := "newsLeast", fn := fun _ => fun
  | [d1, d2] => { results := [.lit (.bool true)], args := [d1, d2] }
  | _ => none }
def newsLeastRow : OpenClaim := { program := "ytpbighinamljbaa", sum := "21ee822994e2c2214f7b2b3e13981e0412b536d0fbd856a2d3e4a19bcb326b20", func := "woggle/wogglelaw08.NewsLeast", spec := "newsLeast", unfollowed := true, recurses := true, plainKeys := false, apart := false }
def NewsLeastSaid : Prop := newsLeastRow.holds Try.pinned (OpenSpec.ofChange newsLeastSpec)

/-- ITS FALSE NEIGHBOUR: 'it returns false'. Refute it at one input. -/
def newsLeastWrong : ChangeSpec := { name := "newsLeast", fn := fun _ => fun
  | [d1, d2] => { results := [.lit (.bool false)], args := [d1, d2] }
  | _ => none }
def NewsLeastWrongFalsely : Prop := newsLeastRow.holds Try.pinned (OpenSpec.ofChange newsLeastWrong)

/-- 'wogglelaw08.NewsRounds': WHATEVER THE INPUT: true; the input reads as it did. -/
def newsRoundsSpec : ChangeSpec := { name := "newsRounds", fn := fun _ => fun
  | [d1, d2] => { results := [.lit (.bool true)], args := [d1, d2] }
  | _ => none }
def newsRoundsRow : OpenClaim := { program := "ytpbighinamljbaa", sum := "21ee822994e2c2214f7b2b3e13981e0412b536d0fbd856a2d3e4a19bcb326b20", func := "woggle/wogglelaw08.NewsRounds", spec := "newsRounds", unfollowed := true, recurses := true, plainKeys := false, apart := false }
def NewsRoundsSaid : Prop := newsRoundsRow.holds Try.pinned (OpenSpec.ofChange newsRoundsSpec)

/-- ITS FALSE NEIGHBOUR: 'it returns false'. Refute it at one input. -/
def newsRoundsWrong : ChangeSpec := { name := "newsRounds", fn := fun _ => fun
  | [d1, d2] => { results := [.lit (.bool false)], args := [d1, d2] }
  | _ => none }
def NewsRoundsWrongFalsely : Prop := newsRoundsRow.holds Try.pinned (OpenSpec.ofChange newsRoundsWrong)

/-- 'wogglelaw08.NewsKnows': WHATEVER THE INPUT: true; the input reads as it did. -/
def newsKnowsSpec : ChangeSpec := { name := "newsKnows", fn := fun _ => fun
  | [d1, d2] => { results := [.lit (.bool true)], args := [d1, d2] }
  | _ => none }
def newsKnowsRow : OpenClaim := { program := "ytpbighinamljbaa", sum := "21ee822994e2c2214f7b2b3e13981e0412b536d0fbd856a2d3e4a19bcb326b20", func := "woggle/wogglelaw08.NewsKnows", spec := "newsKnows", unfollowed := true, recurses := true, plainKeys := false, apart := false }
def NewsKnowsSaid : Prop := newsKnowsRow.holds Try.pinned (OpenSpec.ofChange newsKnowsSpec)

/-- ITS FALSE NEIGHBOUR: 'it returns false'. Refute it at one input. -/
def newsKnowsWrong : ChangeSpec := { name := "newsKnows", fn := fun _ => fun
  | [d1, d2] => { results := [.lit (.bool false)], args := [d1, d2] }
  | _ => none }
def NewsKnowsWrongFalsely : Prop := newsKnowsRow.holds Try.pinned (OpenSpec.ofChange newsKnowsWrong)

/-- 'wogglelaw08.NewsKnown': WHATEVER THE INPUT: true; the input reads as it did. -/
def newsKnownSpec : ChangeSpec := { name := "newsKnown", fn := fun _ => fun
  | [d1, d2, d3] => { results := [.lit (.bool true)], args := [d1, d2, d3] }
  | _ => none }
def newsKnownRow : OpenClaim := { program := "ytpbighinamljbaa", sum := "21ee822994e2c2214f7b2b3e13981e0412b536d0fbd856a2d3e4a19bcb326b20", func := "woggle/wogglelaw08.NewsKnown", spec := "newsKnown", unfollowed := true, recurses := true, plainKeys := false, apart := false }
def NewsKnownSaid : Prop := newsKnownRow.holds Try.pinned (OpenSpec.ofChange newsKnownSpec)

/-- ITS FALSE NEIGHBOUR: 'it returns false'. Refute it at one input. -/
def newsKnownWrong : ChangeSpec := { name := "newsKnown", fn := fun _ => fun
  | [d1, d2, d3] => { results := [.lit (.bool false)], args := [d1, d2, d3] }
  | _ => none }
def NewsKnownWrongFalsely : Prop := newsKnownRow.holds Try.pinned (OpenSpec.ofChange newsKnownWrong)

/-- 'wogglelaw08.NewsReversed': WHATEVER THE INPUT: true; the input reads as it did. -/
def newsReversedSpec : ChangeSpec := { name := "newsReversed", fn := fun _ => fun
  | [d1, d2] => { results := [.lit (.bool true)], args := [d1, d2] }
  | _ => none }
def newsReversedRow : OpenClaim := { program := "ytpbighinamljbaa", sum := "21ee822994e2c2214f7b2b3e13981e0412b536d0fbd856a2d3e4a19bcb326b20", func := "woggle/wogglelaw08.NewsReversed", spec := "newsReversed", unfollowed := true, recurses := true, plainKeys := false, apart := false }
def NewsReversedSaid : Prop := newsReversedRow.holds Try.pinned (OpenSpec.ofChange newsReversedSpec)

/-- ITS FALSE NEIGHBOUR: 'it returns false'. Refute it at one input. -/
def newsReversedWrong : ChangeSpec := { name := "newsReversed", fn := fun _ => fun
  | [d1, d2] => { results := [.lit (.bool false)], args := [d1, d2] }
  | _ => none }
def NewsReversedWrongFalsely : Prop := newsReversedRow.holds Try.pinned (OpenSpec.ofChange newsReversedWrong)

/-- 'wogglelaw08.NewsValids': WHATEVER THE INPUT: true; the input reads as it did. -/
def newsValidsSpec : ChangeSpec := { name := "newsValids", fn := fun _ => fun
  | [d1, d2, d3] => { results := [.lit (.bool true)], args := [d1, d2, d3] }
  | _ => none }
def newsValidsRow : OpenClaim := { program := "ytpbighinamljbaa", sum := "21ee822994e2c2214f7b2b3e13981e0412b536d0fbd856a2d3e4a19bcb326b20", func := "woggle/wogglelaw08.NewsValids", spec := "newsValids", unfollowed := true, recurses := true, plainKeys := false, apart := false }
def NewsValidsSaid : Prop := newsValidsRow.holds Try.pinned (OpenSpec.ofChange newsValidsSpec)

/-- ITS FALSE NEIGHBOUR: 'it returns false'. Refute it at one input. -/
def newsValidsWrong : ChangeSpec := { name := "newsValids", fn := fun _ => fun
  | [d1, d2, d3] => { results := [.lit (.bool false)], args := [d1, d2, d3] }
  | _ => none }
def NewsValidsWrongFalsely : Prop := newsValidsRow.holds Try.pinned (OpenSpec.ofChange newsValidsWrong)

/-- 'wogglelaw08.NewsBroadcast': WHATEVER THE INPUT: true; the input reads as it did. -/
def newsBroadcastSpec : ChangeSpec := { name := "newsBroadcast", fn := fun _ => fun
  | [d1, d2] => { results := [.lit (.bool true)], args := [d1, d2] }
  | _ => none }
def newsBroadcastRow : OpenClaim := { program := "ytpbighinamljbaa", sum := "21ee822994e2c2214f7b2b3e13981e0412b536d0fbd856a2d3e4a19bcb326b20", func := "woggle/wogglelaw08.NewsBroadcast", spec := "newsBroadcast", unfollowed := true, recurses := true, plainKeys := false, apart := false }
def NewsBroadcastSaid : Prop := newsBroadcastRow.holds Try.pinned (OpenSpec.ofChange newsBroadcastSpec)

/-- ITS FALSE NEIGHBOUR: 'it returns false'. Refute it at one input. -/
def newsBroadcastWrong : ChangeSpec := { name := "newsBroadcast", fn := fun _ => fun
  | [d1, d2] => { results := [.lit (.bool false)], args := [d1, d2] }
  | _ => none }
def NewsBroadcastWrongFalsely : Prop := newsBroadcastRow.holds Try.pinned (OpenSpec.ofChange newsBroadcastWrong)

/- THE SECOND FORM. 'bulk': how many values and letters a reading holds, each counted each time it is reached (what is shared counts as often as it is met; a slice's spare places count too). A statement '..UptoSaid' is the law's where the arguments, and the package variables that the reading takes, are together of bulk at most 1048576: NARROWER than '..Said'. Prove '..Said' where nothing that the law and all that it calls make is longer than what came in: it says more and counts as full. Else prove '..UptoSaid'. A law counts once. -/
mutual
def uptoBulk {H : Type} : DataW H → Nat
  | .lit (.string bytes) => bytes.length + 1
  | .lit _ => 1
  | .nil => 1
  | .ptr d => uptoBulk d + 1
  | .slice elems spare => uptoBulkAll elems + uptoBulkAll spare + 1
  | .agg parts => uptoBulkAll parts + 1
  | .iface _ d => uptoBulk d + 1
  | .map entries => uptoBulkEntries entries + 1
  | .held _ => 1
def uptoBulkAll {H : Type} : List (DataW H) → Nat
  | [] => 0
  | d :: r => uptoBulk d + uptoBulkAll r
def uptoBulkEntries {H : Type} : List (Lit × DataW H) → Nat
  | [] => 0
  | x :: r => uptoBulkEntry x + uptoBulkEntries r
def uptoBulkEntry {H : Type} : Lit × DataW H → Nat
  | (.string bytes, d) => bytes.length + uptoBulk d + 1
  | (_, d) => uptoBulk d + 1
 end
def uptoSmall : (H : Type) → List (DataW H) → Bool := fun _ ds => decide (uptoBulkAll ds ≤ 1048576)
def OpenSpec.upto (s : _root_.Go.ChangeSpec) : _root_.Go.OpenSpec := { _root_.Go.OpenSpec.ofChange s with cond := some uptoSmall }

/-- 'wogglelaw08.NewsCentres', WHERE WHAT IT READS IS OF BULK AT MOST 1048576: true; the input reads as it did. -/
def newsCentresUptoRow : OpenClaim := { program := "ytpbighinamljbaa", sum := "21ee822994e2c2214f7b2b3e13981e0412b536d0fbd856a2d3e4a19bcb326b20", func := "woggle/wogglelaw08.NewsCentres", spec := "newsCentres", unfollowed := true, recurses := true, plainKeys := false, apart := false, narrowed := true }
def NewsCentresUptoSaid : Prop := newsCentresUptoRow.holds Try.pinned (OpenSpec.upto newsCentresSpec)

/-- 'wogglelaw08.NewsNeighbours', WHERE WHAT IT READS IS OF BULK AT MOST 1048576: true; the input reads as it did. -/
def newsNeighboursUptoRow : OpenClaim := { program := "ytpbighinamljbaa", sum := "21ee822994e2c2214f7b2b3e13981e0412b536d0fbd856a2d3e4a19bcb326b20", func := "woggle/wogglelaw08.NewsNeighbours", spec := "newsNeighbours", unfollowed := true, recurses := true, plainKeys := false, apart := false, narrowed := true }
def NewsNeighboursUptoSaid : Prop := newsNeighboursUptoRow.holds Try.pinned (OpenSpec.upto newsNeighboursSpec)

/-- 'wogglelaw08.NewsEdges', WHERE WHAT IT READS IS OF BULK AT MOST 1048576: true; the input reads as it did. -/
def newsEdgesUptoRow : OpenClaim := { program := "ytpbighinamljbaa", sum := "21ee822994e2c2214f7b2b3e13981e0412b536d0fbd856a2d3e4a19bcb326b20", func := "woggle/wogglelaw08.NewsEdges", spec := "newsEdges", unfollowed := true, recurses := true, plainKeys := false, apart := false, narrowed := true }
def NewsEdgesUptoSaid : Prop := newsEdgesUptoRow.holds Try.pinned (OpenSpec.upto newsEdgesSpec)

/-- 'wogglelaw08.NewsTree', WHERE WHAT IT READS IS OF BULK AT MOST 1048576: true; the input reads as it did. -/
def newsTreeUptoRow : OpenClaim := { program := "ytpbighinamljbaa", sum := "21ee822994e2c2214f7b2b3e13981e0412b536d0fbd856a2d3e4a19bcb326b20", func := "woggle/wogglelaw08.NewsTree", spec := "newsTree", unfollowed := true, recurses := true, plainKeys := false, apart := false, narrowed := true }
def NewsTreeUptoSaid : Prop := newsTreeUptoRow.holds Try.pinned (OpenSpec.upto newsTreeSpec)

/-- 'wogglelaw08.NewsRenamed', WHERE WHAT IT READS IS OF BULK AT MOST 1048576: true; the input reads as it did. -/
def newsRenamedUptoRow : OpenClaim := { program := "ytpbighinamljbaa", sum := "21ee822994e2c2214f7b2b3e13981e0412b536d0fbd856a2d3e4a19bcb326b20", func := "woggle/wogglelaw08.NewsRenamed", spec := "newsRenamed", unfollowed := true, recurses := true, plainKeys := false, apart := false, narrowed := true }
def NewsRenamedUptoSaid : Prop := newsRenamedUptoRow.holds Try.pinned (OpenSpec.upto newsRenamedSpec)

/-- 'wogglelaw08.NewsFews', WHERE WHAT IT READS IS OF BULK AT MOST 1048576: true; the input reads as it did. -/
def newsFewsUptoRow : OpenClaim := { program := "ytpbighinamljbaa", sum := "21ee822994e2c2214f7b2b3e13981e0412b536d0fbd856a2d3e4a19bcb326b20", func := "woggle/wogglelaw08.NewsFews", spec := "newsFews", unfollowed := true, recurses := true, plainKeys := false, apart := false, narrowed := true }
def NewsFewsUptoSaid : Prop := newsFewsUptoRow.holds Try.pinned (OpenSpec.upto newsFewsSpec)

/-- 'wogglelaw08.NewsLeast', WHERE WHAT IT READS IS OF BULK AT MOST 1048576: true; the input reads as it did. -/
def newsLeastUptoRow : OpenClaim := { program := "ytpbighinamljbaa", sum := "21ee822994e2c2214f7b2b3e13981e0412b536d0fbd856a2d3e4a19bcb326b20", func := "woggle/wogglelaw08.NewsLeast", spec := "newsLeast", unfollowed := true, recurses := true, plainKeys := false, apart := false, narrowed := true }
def NewsLeastUptoSaid : Prop := newsLeastUptoRow.holds Try.pinned (OpenSpec.upto newsLeastSpec)

/-- 'wogglelaw08.NewsRounds', WHERE WHAT IT READS IS OF BULK AT MOST 1048576: true; the input reads as it did. -/
def newsRoundsUptoRow : OpenClaim := { program := "ytpbighinamljbaa", sum := "21ee822994e2c2214f7b2b3e13981e0412b536d0fbd856a2d3e4a19bcb326b20", func := "woggle/wogglelaw08.NewsRounds", spec := "newsRounds", unfollowed := true, recurses := true, plainKeys := false, apart := false, narrowed := true }
def NewsRoundsUptoSaid : Prop := newsRoundsUptoRow.holds Try.pinned (OpenSpec.upto newsRoundsSpec)

/-- 'wogglelaw08.NewsKnows', WHERE WHAT IT READS IS OF BULK AT MOST 1048576: true; the input reads as it did. -/
def newsKnowsUptoRow : OpenClaim := { program := "ytpbighinamljbaa", sum := "21ee822994e2c2214f7b2b3e13981e0412b536d0fbd856a2d3e4a19bcb326b20", func := "woggle/wogglelaw08.NewsKnows", spec := "newsKnows", unfollowed := true, recurses := true, plainKeys := false, apart := false, narrowed := true }
def NewsKnowsUptoSaid : Prop := newsKnowsUptoRow.holds Try.pinned (OpenSpec.upto newsKnowsSpec)

/-- 'wogglelaw08.NewsKnown', WHERE WHAT IT READS IS OF BULK AT MOST 1048576: true; the input reads as it did. -/
def newsKnownUptoRow : OpenClaim := { program := "ytpbighinamljbaa", sum := "21ee822994e2c2214f7b2b3e13981e0412b536d0fbd856a2d3e4a19bcb326b20", func := "woggle/wogglelaw08.NewsKnown", spec := "newsKnown", unfollowed := true, recurses := true, plainKeys := false, apart := false, narrowed := true }
def NewsKnownUptoSaid : Prop := newsKnownUptoRow.holds Try.pinned (OpenSpec.upto newsKnownSpec)

/-- 'wogglelaw08.NewsReversed', WHERE WHAT IT READS IS OF BULK AT MOST 1048576: true; the input reads as it did. -/
def newsReversedUptoRow : OpenClaim := { program := "ytpbighinamljbaa", sum := "21ee822994e2c2214f7b2b3e13981e0412b536d0fbd856a2d3e4a19bcb326b20", func := "woggle/wogglelaw08.NewsReversed", spec := "newsReversed", unfollowed := true, recurses := true, plainKeys := false, apart := false, narrowed := true }
def NewsReversedUptoSaid : Prop := newsReversedUptoRow.holds Try.pinned (OpenSpec.upto newsReversedSpec)

/-- 'wogglelaw08.NewsValids', WHERE WHAT IT READS IS OF BULK AT MOST 1048576: true; the input reads as it did. -/
def newsValidsUptoRow : OpenClaim := { program := "ytpbighinamljbaa", sum := "21ee822994e2c2214f7b2b3e13981e0412b536d0fbd856a2d3e4a19bcb326b20", func := "woggle/wogglelaw08.NewsValids", spec := "newsValids", unfollowed := true, recurses := true, plainKeys := false, apart := false, narrowed := true }
def NewsValidsUptoSaid : Prop := newsValidsUptoRow.holds Try.pinned (OpenSpec.upto newsValidsSpec)

/-- 'wogglelaw08.NewsBroadcast', WHERE WHAT IT READS IS OF BULK AT MOST 1048576: true; the input reads as it did. -/
def newsBroadcastUptoRow : OpenClaim := { program := "ytpbighinamljbaa", sum := "21ee822994e2c2214f7b2b3e13981e0412b536d0fbd856a2d3e4a19bcb326b20", func := "woggle/wogglelaw08.NewsBroadcast", spec := "newsBroadcast", unfollowed := true, recurses := true, plainKeys := false, apart := false, narrowed := true }
def NewsBroadcastUptoSaid : Prop := newsBroadcastUptoRow.holds Try.pinned (OpenSpec.upto newsBroadcastSpec)

end Rows
end Go.Proofs.Ytpbighinamljbaa
