/- news.Knows, over the abstract machine: the calls. No condition. -/
import Derived.Test.YtpbighinamljbaaKl
set_option linter.unusedSimpArgs false
set_option linter.unusedVariables false
namespace Go.Proofs.Ytpbighinamljbaa.PA
open Go Go.Eng Go.Proofs
def u8A (m : Nat) : AV := .int .u8 (m : Int)
/-- What is known behind a call, as sets. -/
def callM (K : List Nat) (a b : Nat) : List Nat := (K.set a (K.getD a 0 ||| K.getD b 0)).set b (K.getD a 0 ||| K.getD b 0)
theorem tabOr : ((List.range 64).all fun x => (List.range 64).all fun y => orU (x : Int) (y : Int) == ((x ||| y : Nat) : Int)) = true := by kernel_rfl
theorem orU_nat {x y : Nat} (hx : x < 64) (hy : y < 64) : orU (x : Int) (y : Int) = ((x ||| y : Nat) : Int) := by
  have h := tabOr
  rw [List.all_eq_true] at h
  have h1 := h x (List.mem_range.2 hx)
  rw [List.all_eq_true] at h1
  simpa using h1 y (List.mem_range.2 hy)
theorem getD_lt {K : List Nat} (hK : ∀ m ∈ K, m < 64) (a : Nat) : K.getD a 0 < 64 := by
  rw [List.getD_eq_getElem?_getD]
  cases h : K[a]? with
  | none => simp
  | some m => exact hK m (List.mem_of_getElem? h)
theorem callM_cast {K : List Nat} (hK : ∀ m ∈ K, m < 64) (a b : Nat) : callA (K.map fun m : Nat => (m : Int)) a b = (callM K a b).map fun m : Nat => (m : Int) := by
  have e : ∀ i, (K.map fun m : Nat => (m : Int)).getD i 0 = ((K.getD i 0 : Nat) : Int) := by
    intro i
    rw [List.getD_eq_getElem?_getD, List.getD_eq_getElem?_getD, List.getElem?_map]
    cases K[i]? <;> simp
  unfold callA callM
  rw [e a, e b, orU_nat (getD_lt hK a) (getD_lt hK b), List.map_set, List.map_set]
theorem callM_lt {K : List Nat} (hK : ∀ m ∈ K, m < 64) (a b : Nat) : ∀ m ∈ callM K a b, m < 64 := by
  have hor : K.getD a 0 ||| K.getD b 0 < 64 := Nat.or_lt_two_pow (n := 6) (getD_lt hK a) (getD_lt hK b)
  intro m hm
  unfold callM at hm
  rcases List.mem_or_eq_of_mem_set hm with hm | rfl
  · rcases List.mem_or_eq_of_mem_set hm with hm | rfl
    · exact hK m hm
    · exact hor
  · exact hor
theorem callM_len (K : List Nat) (a b : Nat) : (callM K a b).length = K.length := by simp [callM]
def runM (K : List Nat) (l : Prs) : List Nat := l.foldl (fun K p => callM K p.1 p.2) K
def begM (n : Nat) : List Nat := (List.range 6).map fun i => if i < n then 2 ^ i else 0
theorem runM_inv (l : Prs) : ∀ (K : List Nat), K.length = 6 → (∀ m ∈ K, m < 64) → (runM K l).length = 6 ∧ ∀ m ∈ runM K l, m < 64 := by
  induction l with
  | nil => intro K h1 h2; exact ⟨h1, h2⟩
  | cons p l ih => intro K h1 h2; exact ih _ (by rw [callM_len, h1]) (callM_lt h2 _ _)
theorem begM_inv (n : Nat) : (begM n).length = 6 ∧ ∀ m ∈ begM n, m < 64 := by
  refine ⟨by simp [begM], fun m hm => ?_⟩
  simp only [begM, List.mem_map, List.mem_range] at hm
  obtain ⟨i, hi, rfl⟩ := hm
  split
  · exact Nat.pow_lt_pow_right (by omega) hi
  · omega
theorem begA_eq (n : Nat) : begA n = (begM n).map u8A := by
  unfold begA begM u8A
  rw [List.map_map]
  refine List.map_congr_left fun i _ => ?_
  simp only [Function.comp]
  split <;> rfl
/-- What the loop over the calls keeps. -/
structure KI (H0 : AHeap) (n : Nat) (x : AV) (l : Prs) (R : Nat) (i : Nat) (s : St) : Prop where
  le : i ≤ l.length
  t0 : s.tm.get 0 = some (natA n)
  t23 : s.tm.get 23 = some x
  t24 : s.tm.get 24 = some (natA l.length)
  t25 : s.tm.get 25 = some (natA i)
  t7 : s.tm.get 7 = some (.ptr R 0)
  box : s.H.get R = some (.cells ((runM (begM n) (l.take i)).map u8A) none)
  hR : H0.next ≤ R ∧ R < s.H.next
  nx : H0.next ≤ s.H.next
  fr : ∀ j, j < H0.next → s.H.get j = H0.get j
theorem cf59 {cf : CF} (h : ∀ k a b H, k.length = 6 → a < 6 → b < 6 → cf 59 [.agg (k.map (AV.int .u8)), .agg [natA a, natA b]] H = some (.agg ((callA k a b).map (.int .u8)), H)) {K : List Nat} (hK : K.length = 6) (hlt : ∀ m ∈ K, m < 64) {a b : Nat} (ha : a < 6) (hb : b < 6) (H : AHeap) :
    cf 59 [.agg (K.map u8A), .agg [natA a, natA b]] H = some (.agg ((callM K a b).map u8A), H) := by
  have h1 := h (K.map fun m : Nat => (m : Int)) a b H (by simpa using hK) ha hb
  rw [callM_cast hlt, List.map_map, List.map_map] at h1
  exact h1
end Go.Proofs.Ytpbighinamljbaa.PA
