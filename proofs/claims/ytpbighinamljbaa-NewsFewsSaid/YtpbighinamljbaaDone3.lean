/- news.Done, over the abstract machine. No condition. -/
import Derived.Test.YtpbighinamljbaaDone2
import Derived.Test.YtpbighinamljbaaKnow3
set_option linter.unusedSimpArgs false
set_option linter.unusedVariables false
namespace Go.Proofs.Ytpbighinamljbaa.PA
open Go Go.Eng Go.Proofs
/-- The known calls, with known.done. -/
def KL2 : CF := fun f args H =>
  match f, args with
  | 58, [.agg k, n] => (u8sOf k).bind fun k => (natOf n).bind fun n => if k.length = 6 ∧ n ≤ 6 ∧ (k.all fun x => decide (0 ≤ x)) = true then some (.bool (compl n (k.map Int.toNat)), H) else none
  | f, args => KL f args H
theorem u8s_nat {k : List Int} (h : (k.all fun x => decide (0 ≤ x)) = true) : (k.map Int.toNat).map u8A = k.map (AV.int .u8) := by
  rw [List.all_eq_true] at h
  rw [List.map_map]
  refine List.map_congr_left fun x hx => ?_
  have := h x hx
  simp only [decide_eq_true_eq] at this
  show AV.int .u8 ((Int.toNat x : Nat) : Int) = _
  rw [Int.toNat_of_nonneg this]
theorem KL2_ok : CFok Try.prog KL2 := by
  intro f args H v H' h
  unfold KL2 at h
  split at h
  · rename_i k n
    simp only [Option.bind_eq_some_iff] at h
    obtain ⟨xs, hk, a, ha, h⟩ := h
    split at h
    · rename_i hh
      cases h
      obtain ⟨c1, c2, c3⟩ := hh
      obtain rfl := u8sOf_eq hk
      obtain rfl := natOf_eq ha
      obtain ⟨H1, h1⟩ := x58 (k := 0) (H := ⟨.e, 0⟩) (K := xs.map Int.toNat) c2 (by simpa using c1)
      rw [u8s_nat c3] at h1
      exact frame0 (xF 4 _ _ _ _ _ h1) rfl (fun E w us hR h => args2 (H := H) h (fun u hu => plain_rel (by simp only [AV.plain]; exact plain_u8s _) hu) (fun u hu => plain_rel rfl hu))
    · cases h
  · exact KL_ok _ _ _ _ _ h
def cfD (k : Nat) : CF := xcallK KL2 F 300 k
theorem cfD_KL2 {k f : Nat} {args : List AV} {H : AHeap} {r : AV × AHeap} (h : KL2 f args H = some r) : cfD k f args H = some r := by
  unfold cfD
  cases k with
  | zero => exact h
  | succ k => unfold xcallK; rw [h]
theorem d_54 {k n : Nat} {H : AHeap} (hn : n ≤ 6) : cfD k 54 [natA n] H = some (.agg ((begM n).map u8A), H) := cfD_KL2 (cf_54 (k := 0) hn)
theorem d_59 {k : Nat} {K : List Nat} (hK : K.length = 6) (hlt : ∀ m ∈ K, m < 64) {a b : Nat} (ha : a < 6) (hb : b < 6) (H : AHeap) :
    cfD k 59 [.agg (K.map u8A), .agg [natA a, natA b]] H = some (.agg ((callM K a b).map u8A), H) :=
  cfD_KL2 (cf59 (cf := cfL 0) (fun k a b H hk ha hb => cf_59 k a b H hk ha hb) hK hlt ha hb H)
theorem KL2_58 {k : List AV} {n : AV} {H : AHeap} : KL2 58 [.agg k, n] H = (u8sOf k).bind fun k => (natOf n).bind fun n => if k.length = 6 ∧ n ≤ 6 ∧ (k.all fun x => decide (0 ≤ x)) = true then some (.bool (compl n (k.map Int.toNat)), H) else none := rfl
theorem d_58 {k n : Nat} {K : List Nat} (hK : K.length = 6) (hn : n ≤ 6) (H : AHeap) : cfD k 58 [.agg (K.map u8A), natA n] H = some (.bool (compl n K), H) := by
  apply cfD_KL2
  rw [KL2_58]
  have e : K.map u8A = (K.map fun m : Nat => (m : Int)).map (AV.int .u8) := by rw [List.map_map]; rfl
  have e2 : (K.map fun m : Nat => (m : Int)).map Int.toNat = K := by
    rw [List.map_map]
    exact (List.map_congr_left fun m _ => rfl).trans (List.map_id K)
  rw [e, u8sOf_map, Option.bind_some, natOf_nat, Option.bind_some, e2, if_pos ⟨by simpa using hK, hn, by rw [List.all_eq_true]; intro x hx; obtain ⟨m, _, rfl⟩ := List.mem_map.1 hx; simp⟩]
/-- What Done's loop keeps. -/
structure EI (H0 : AHeap) (n : Nat) (x : AV) (l : Prs) (R : Nat) (i : Nat) (s : St) : Prop where
  le : i ≤ l.length
  t0 : s.tm.get 0 = some (natA n)
  t1 : s.tm.get 1 = some x
  t7 : s.tm.get 7 = some (.ptr R 0)
  t8 : s.tm.get 8 = some (natA i)
  box : s.H.get R = some (.cells ((runM (begM n) (l.take i)).map u8A) none)
  hR : H0.next ≤ R ∧ R < s.H.next
  nx : H0.next ≤ s.H.next
  fr : ∀ j, j < H0.next → s.H.get j = H0.get j
end Go.Proofs.Ytpbighinamljbaa.PA
