/- news.ReversedLaw, over the abstract machine: the comparison. No condition. -/
import Derived.Test.YtpbighinamljbaaRev1
set_option linter.unusedSimpArgs false
set_option linter.unusedVariables false
namespace Go.Proofs.Ytpbighinamljbaa.PA
open Go Go.Eng Go.Proofs
theorem tabBitN : ((List.range 64).all fun m => (List.range 6).all fun i => (match binA .shr (natA m) (natA i) with
    | some y => AV.beq y (natA (m >>> i)) && (match binA .and y (.int .i64 (.ofNat 1)) with
      | some z => AV.beq z (natA (if m.testBit i then 1 else 0))
      | none => false)
    | none => false)) = true := by kernel_rfl
theorem bitN_ops {m i : Nat} (hm : m < 64) (hi : i < 6) : binA .shr (natA m) (natA i) = some (natA (m >>> i)) ∧ binA .and (natA (m >>> i)) (.int .i64 (.ofNat 1)) = some (natA (if m.testBit i then 1 else 0)) := by
  have h := tabBitN
  rw [List.all_eq_true] at h
  have h1 := h m (List.mem_range.2 hm)
  rw [List.all_eq_true] at h1
  have h2 := h1 i (List.mem_range.2 hi)
  split at h2
  · rename_i y hy
    rw [Bool.and_eq_true] at h2
    have e1 := AV.beq_sound h2.1
    subst e1
    have h3 := h2.2
    split at h3
    · rename_i z hz
      have e2 := AV.beq_sound h3
      subst e2
      exact ⟨hy, hz⟩
    · cases h3
  · cases h2
theorem Kn.at {H : AHeap} {n : Nat} {K : List Nat} {v : AV} (h : Kn H n K v) {i : Nat} (hi : i < n) :
    ∃ o u, iaddrA 1 v (.int .i64 (i : Int)) = some (.ptr o i) ∧ loadA H none (.ptr o i) = some u ∧ Row 1 H u (memb n (K.getD i 0)).length ((memb n (K.getD i 0)).map natA) := by
  obtain ⟨vs, h1, h2⟩ := h
  obtain ⟨u, u1, u2, _⟩ := h2 i hi
  obtain ⟨o, _, q2, q3⟩ := h1.cellAt hi u1
  exact ⟨o, u, q2, q3, u2⟩
/-- What the comparison's inner loop keeps. -/
structure JI (H0 : AHeap) (n : Nat) (v1 v2 : AV) (i j : Nat) (s : St) : Prop where
  le : j ≤ n
  t5 : s.tm.get 5 = some (natA n)
  t9 : s.tm.get 9 = some v1
  t11 : s.tm.get 11 = some v2
  t13 : s.tm.get 13 = some (natA i)
  t14 : s.tm.get 14 = some (natA j)
  nx : H0.next ≤ s.H.next
  fr : ∀ j, j < H0.next → s.H.get j = H0.get j
end Go.Proofs.Ytpbighinamljbaa.PA
