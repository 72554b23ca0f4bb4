/- wogglelaw08.calls, over the abstract machine. No condition. -/
import Derived.Test.YtpbighinamljbaaCheck
import Derived.Test.YtpbighinamljbaaRow2
set_option linter.unusedSimpArgs false
set_option linter.unusedVariables false
namespace Go.Proofs.Ytpbighinamljbaa.PA
open Go Go.Eng Go.Proofs
/-- Pairs of small numbers, as cells. -/
def arrC (x : Prs) : List AV := x.flatMap fun p => [.int .u8 (p.1 : Int), .int .u8 (p.2 : Int)]
def pairF (k : Nat) (p : Nat × Nat) : Nat × Nat := (p.1 % k, (p.1 % k + (1 + p.2 % (k - 1))) % k)
def callsF (k : Nat) (x : Prs) : Prs := x.map (pairF k)
structure DI (H0 : AHeap) (k : Nat) (x : Prs) (i : Nat) (s : St) : Prop where
  le : i ≤ x.length
  lim : i ≤ 59
  t1 : s.tm.get 1 = some (.imm (arrC x) x.length false)
  t6 : s.tm.get 6 = some (natA k)
  t8 : s.tm.get 8 = some (natA i)
  row : ∃ v, s.tm.get 7 = some v ∧ RowE 2 s.H v i (prsC (callsF k (x.take i))) ∧ (∀ j, v.own = some j → H0.next ≤ j)
  nx : H0.next ≤ s.H.next
  fr : ∀ j, j < H0.next → s.H.get j = H0.get j
end Go.Proofs.Ytpbighinamljbaa.PA
