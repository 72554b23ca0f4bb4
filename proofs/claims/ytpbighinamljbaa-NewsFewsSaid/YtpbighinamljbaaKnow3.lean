/- news.Knows, over the abstract machine. No condition. -/
import Derived.Test.YtpbighinamljbaaKnow2
set_option linter.unusedSimpArgs false
set_option linter.unusedVariables false
namespace Go.Proofs.Ytpbighinamljbaa.PA
open Go Go.Eng Go.Proofs
theorem cfL_KL {k f : Nat} {args : List AV} {H : AHeap} {r : AV × AHeap} (h : KL f args H = some r) : cfL k f args H = some r := by
  unfold cfL
  cases k with
  | zero => exact h
  | succ k => unfold xcallK; rw [h]
theorem cellsA_row {z l : Nat} {H : AHeap} {v : AV} {cs : List AV} (h : RowE z H v l cs) : cellsA H z v = some (l, cs) := by
  have h1 := h.len
  have h2 := h.src
  have h3 := h.csl
  have h4 := h.nstr
  have hc : ¬ (l = 0 ∧ cs ≠ []) := fun ⟨p, q⟩ => q (List.eq_nil_of_length_eq_zero (by rw [h3, p, Nat.zero_mul]))
  unfold cellsA
  split
  · rename_i s
    exact absurd rfl (h4 s)
  · rw [h1, Option.bind_some, h2, Option.bind_some, if_neg hc]
theorem natOf_nat (n : Nat) : natOf (natA n) = some n := rfl
theorem KL_54 {n : AV} {H : AHeap} : KL 54 [n] H = (natOf n).bind fun n => if n < 7 then some (.agg (begA n), H) else none := rfl
theorem KL_59 {k : List AV} {a b : AV} {H : AHeap} : KL 59 [.agg k, .agg [a, b]] H = (u8sOf k).bind fun k => (natOf a).bind fun a => (natOf b).bind fun b => if k.length = 6 ∧ a < 6 ∧ b < 6 then some (.agg ((callA k a b).map (.int .u8)), H) else none := rfl
theorem cf_54 {k n : Nat} {H : AHeap} (hn : n ≤ 6) : cfL k 54 [natA n] H = some (.agg ((begM n).map u8A), H) := by
  apply cfL_KL
  rw [KL_54]
  rw [natOf_nat, Option.bind_some, if_pos (by omega), begA_eq]
theorem cf_59 {k : Nat} (xs : List Int) (a b : Nat) (H : AHeap) (hx : xs.length = 6) (ha : a < 6) (hb : b < 6) : cfL k 59 [.agg (xs.map (AV.int .u8)), .agg [natA a, natA b]] H = some (.agg ((callA xs a b).map (.int .u8)), H) := by
  apply cfL_KL
  rw [KL_59]
  rw [u8sOf_map, Option.bind_some, natOf_nat, Option.bind_some, natOf_nat, Option.bind_some, if_pos ⟨hx, ha, hb⟩]
/-- Who knows what, as a value. -/
def Kn (H : AHeap) (n : Nat) (K : List Nat) (v : AV) : Prop :=
  ∃ vs, Row 1 H v n vs ∧ ∀ j, j < n → ∃ u, vs[j]? = some u ∧ Row 1 H u (memb n (K.getD j 0)).length ((memb n (K.getD j 0)).map natA) ∧ (∀ o, u.own = some o → v.own ≠ some o)
theorem Kn.frame {H H' : AHeap} {n : Nat} {K : List Nat} {v : AV} (h : Kn H n K v) (hn : H.next ≤ H'.next) (hg : ∀ j, j < H.next → H'.get j = H.get j) : Kn H' n K v := by
  obtain ⟨vs, h1, h2⟩ := h
  refine ⟨vs, h1.frame hn (fun o q => hg o (h1.own_lt q)), fun j hj => ?_⟩
  obtain ⟨u, u1, u2, u3⟩ := h2 j hj
  exact ⟨u, u1, u2.frame hn (fun o q => hg o (u2.own_lt q)), u3⟩
end Go.Proofs.Ytpbighinamljbaa.PA
