/- news.Knows, over the abstract machine: the lists of items. No condition. -/
import Derived.Test.YtpbighinamljbaaKnow1
set_option linter.unusedSimpArgs false
set_option linter.unusedVariables false
namespace Go.Proofs.Ytpbighinamljbaa.PA
open Go Go.Eng Go.Proofs
/-- What the loop over one person's items keeps. -/
structure II (H0 : AHeap) (tm0 : Tr AV) (n m : Nat) (j : Nat) (s : St) : Prop where
  le : j ≤ n
  t40 : s.tm.get 40 = some (natA n)
  t41 : s.tm.get 41 = some (natA j)
  t12 : s.tm.get 12 = some (u8A m)
  row : ∃ v, s.tm.get 13 = some v ∧ Row 1 s.H v (memb j m).length ((memb j m).map natA) ∧ (∀ o, v.own = some o → H0.next ≤ o)
  k0 : s.tm.get 0 = tm0.get 0
  k10 : s.tm.get 10 = tm0.get 10
  k34 : s.tm.get 34 = tm0.get 34
  k35 : s.tm.get 35 = tm0.get 35
  k36 : s.tm.get 36 = tm0.get 36
  nx : H0.next ≤ s.H.next
  fr : ∀ j, j < H0.next → s.H.get j = H0.get j
/-- What the loop over the persons keeps. -/
structure OI (H0 : AHeap) (n : Nat) (K : List Nat) (R : Nat) (i : Nat) (s : St) : Prop where
  le : i ≤ n
  t0 : s.tm.get 0 = some (natA n)
  t34 : s.tm.get 34 = some (.sl R 0 n 6)
  t35 : s.tm.get 35 = some (natA n)
  t36 : s.tm.get 36 = some (natA i)
  row : ∃ v vs, s.tm.get 10 = some v ∧ Row 1 s.H v i vs ∧ (∀ o, v.own = some o → H0.next ≤ o ∧ o ≠ R) ∧
    ∀ j, j < i → ∃ u, vs[j]? = some u ∧ Row 1 s.H u (memb n (K.getD j 0)).length ((memb n (K.getD j 0)).map natA) ∧ (∀ o, u.own = some o → H0.next ≤ o ∧ v.own ≠ some o)
  box : s.H.get R = some (.cells (K.map u8A) none)
  hR : H0.next ≤ R ∧ R < s.H.next
  nx : H0.next ≤ s.H.next
  fr : ∀ j, j < H0.next → s.H.get j = H0.get j
end Go.Proofs.Ytpbighinamljbaa.PA
