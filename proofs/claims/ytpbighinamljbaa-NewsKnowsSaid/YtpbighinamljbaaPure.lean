/- What is known behind calls: the plain law of reversal. No condition. -/
import Derived.Test.YtpbighinamljbaaKnow1
set_option linter.unusedSimpArgs false
set_option linter.unusedVariables false
namespace Go.Proofs.Ytpbighinamljbaa.PA
open Go Go.Eng Go.Proofs
/-- Whom a call lets share. -/
def Cl (c : Nat × Nat) (i m : Nat) : Prop := i = m ∨ ((i = c.1 ∨ i = c.2) ∧ (m = c.1 ∨ m = c.2))
/-- Whose first knowledge comes to whom. -/
def Rch : Prs → Nat → Nat → Prop
  | [], i, k => i = k
  | c :: l, i, k => ∃ m, Rch l i m ∧ Cl c m k
theorem Cl.symm {c : Nat × Nat} {i m : Nat} (h : Cl c i m) : Cl c m i := by
  rcases h with h | ⟨h1, h2⟩
  · exact .inl h.symm
  · exact .inr ⟨h2, h1⟩
theorem callM_getD {K : List Nat} {a b : Nat} (ha : a < K.length) (hb : b < K.length) (k : Nat) : (callM K a b).getD k 0 = if k = a ∨ k = b then K.getD a 0 ||| K.getD b 0 else K.getD k 0 := by
  unfold callM
  generalize K.getD a 0 ||| K.getD b 0 = u
  simp only [List.getD_eq_getElem?_getD, List.getElem?_set, List.length_set]
  by_cases h1 : b = k
  · subst h1
    simp [hb]
  · by_cases h2 : a = k
    · subst h2
      simp [ha, h1]
    · rw [if_neg h1, if_neg h2, if_neg (by omega)]
theorem callM_bit {K : List Nat} {a b : Nat} (ha : a < K.length) (hb : b < K.length) (k j : Nat) : ((callM K a b).getD k 0).testBit j = true ↔ ∃ m, Cl (a, b) k m ∧ (K.getD m 0).testBit j = true := by
  rw [callM_getD ha hb]
  split
  · rename_i h
    rw [Nat.testBit_or, Bool.or_eq_true]
    constructor
    · rintro (q | q)
      · exact ⟨a, .inr ⟨h, .inl rfl⟩, q⟩
      · exact ⟨b, .inr ⟨h, .inr rfl⟩, q⟩
    · rintro ⟨m, rfl | ⟨_, rfl | rfl⟩, q⟩
      · rcases h with rfl | rfl
        · exact .inl q
        · exact .inr q
      · exact .inl q
      · exact .inr q
  · rename_i h
    constructor
    · intro q
      exact ⟨k, .inl rfl, q⟩
    · rintro ⟨m, rfl | ⟨h1, _⟩, q⟩
      · exact q
      · exact absurd h1 h
theorem runM_bit (i j : Nat) : ∀ (l : Prs) (K : List Nat), (∀ p ∈ l, p.1 < K.length ∧ p.2 < K.length) → (((runM K l).getD i 0).testBit j = true ↔ ∃ k, Rch l i k ∧ (K.getD k 0).testBit j = true)
  | [], K, _ => by
    constructor
    · intro h
      exact ⟨i, rfl, h⟩
    · rintro ⟨k, rfl, h⟩
      exact h
  | c :: l, K, h => by
    obtain ⟨ha, hb⟩ := h c (by simp)
    have e : runM K (c :: l) = runM (callM K c.1 c.2) l := rfl
    rw [e, runM_bit i j l (callM K c.1 c.2) (fun p hp => by rw [callM_len]; exact h p (by simp [hp]))]
    constructor
    · rintro ⟨k, h1, h2⟩
      obtain ⟨m, h3, h4⟩ := (callM_bit ha hb k j).1 h2
      exact ⟨m, ⟨k, h1, h3⟩, h4⟩
    · rintro ⟨m, ⟨k, h1, h3⟩, h4⟩
      exact ⟨k, h1, (callM_bit ha hb k j).2 ⟨m, h3, h4⟩⟩
theorem begM_bit {p : Nat} (hp : p ≤ 6) (k j : Nat) : ((begM p).getD k 0).testBit j = true ↔ k = j ∧ k < p := by
  unfold begM
  rw [List.getD_eq_getElem?_getD, List.getElem?_map]
  by_cases hk : k < 6
  · rw [List.getElem?_range hk]
    simp only [Option.map_some, Option.getD_some]
    by_cases hkp : k < p
    · rw [if_pos hkp, Nat.testBit_two_pow]
      simp [hkp]
    · rw [if_neg hkp]
      simp [hkp]
  · rw [List.getElem?_eq_none (by simp; omega)]
    simp only [Option.map_none, Option.getD_none, Nat.zero_testBit, Bool.false_eq_true, false_iff]
    omega
theorem runM_beg {p : Nat} (hp : p ≤ 6) {l : Prs} (hl : ∀ q ∈ l, q.1 < 6 ∧ q.2 < 6) {i j : Nat} (hj : j < p) : ((runM (begM p) l).getD i 0).testBit j = true ↔ Rch l i j := by
  have hb := (begM_inv p).1
  rw [runM_bit i j l (begM p) (fun q hq => by rw [hb]; exact hl q hq)]
  constructor
  · rintro ⟨k, h1, h2⟩
    obtain ⟨rfl, _⟩ := (begM_bit hp k j).1 h2
    exact h1
  · intro h
    exact ⟨j, h, (begM_bit hp j j).2 ⟨rfl, hj⟩⟩
end Go.Proofs.Ytpbighinamljbaa.PA
