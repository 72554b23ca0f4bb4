/- Gossip of at most six people: all lists of calls, tried. No condition. -/
import Derived.Test.YtpbighinamljbaaPure
import Derived.KernelRfl
set_option linter.unusedSimpArgs false
set_option linter.unusedVariables false
namespace Go.Proofs.Ytpbighinamljbaa.PA
open Go Go.Eng Go.Proofs

def one (F x : Nat) : Nat := cond (Nat.beq x F) 1 0
def cnt6 (F x0 x1 x2 x3 x4 x5 : Nat) : Nat := Nat.add (Nat.add (Nat.add (Nat.add (Nat.add (one F x0) (one F x1)) (one F x2)) (one F x3)) (one F x4)) (one F x5)
/-- No list of so many further calls completes the gossip of p people. -/
def srch (p F : Nat) : Nat → Nat → Nat → Nat → Nat → Nat → Nat → Bool
  | 0, x0, x1, x2, x3, x4, x5 => Nat.blt (cnt6 F x0 x1 x2 x3 x4 x5) p
  | r + 1, x0, x1, x2, x3, x4, x5 => Nat.blt (Nat.add (cnt6 F x0 x1 x2 x3 x4 x5) (Nat.mul 2 (r + 1))) p ||
     ((Nat.ble p 1 || srch p F r (Nat.lor x0 x1) (Nat.lor x0 x1) x2 x3 x4 x5) && ((Nat.ble p 2 || srch p F r (Nat.lor x0 x2) x1 (Nat.lor x0 x2) x3 x4 x5) && ((Nat.ble p 3 || srch p F r (Nat.lor x0 x3) x1 x2 (Nat.lor x0 x3) x4 x5) && ((Nat.ble p 4 || srch p F r (Nat.lor x0 x4) x1 x2 x3 (Nat.lor x0 x4) x5) && ((Nat.ble p 5 || srch p F r (Nat.lor x0 x5) x1 x2 x3 x4 (Nat.lor x0 x5)) && ((Nat.ble p 2 || srch p F r x0 (Nat.lor x1 x2) (Nat.lor x1 x2) x3 x4 x5) && ((Nat.ble p 3 || srch p F r x0 (Nat.lor x1 x3) x2 (Nat.lor x1 x3) x4 x5) && ((Nat.ble p 4 || srch p F r x0 (Nat.lor x1 x4) x2 x3 (Nat.lor x1 x4) x5) && ((Nat.ble p 5 || srch p F r x0 (Nat.lor x1 x5) x2 x3 x4 (Nat.lor x1 x5)) && ((Nat.ble p 3 || srch p F r x0 x1 (Nat.lor x2 x3) (Nat.lor x2 x3) x4 x5) && ((Nat.ble p 4 || srch p F r x0 x1 (Nat.lor x2 x4) x3 (Nat.lor x2 x4) x5) && ((Nat.ble p 5 || srch p F r x0 x1 (Nat.lor x2 x5) x3 x4 (Nat.lor x2 x5)) && ((Nat.ble p 4 || srch p F r x0 x1 x2 (Nat.lor x3 x4) (Nat.lor x3 x4) x5) && ((Nat.ble p 5 || srch p F r x0 x1 x2 (Nat.lor x3 x5) x4 (Nat.lor x3 x5)) && (Nat.ble p 5 || srch p F r x0 x1 x2 x3 (Nat.lor x4 x5) (Nat.lor x4 x5))))))))))))))))
/-- How many know all. -/
def cntL (F : Nat) : List Nat → Nat
  | [] => 0
  | x :: l => one F x + cntL F l
theorem one_le (F x : Nat) : one F x ≤ 1 := by unfold one; cases Nat.beq x F <;> simp
theorem cnt6_eq (F x0 x1 x2 x3 x4 x5 : Nat) : cnt6 F x0 x1 x2 x3 x4 x5 = cntL F [x0, x1, x2, x3, x4, x5] := by
  simp only [cnt6, cntL, Nat.add_eq]
  omega
theorem cntL_set (F u : Nat) : ∀ (K : List Nat) (a : Nat), cntL F (K.set a u) ≤ cntL F K + 1
  | [], a => by simp [cntL]
  | x :: l, 0 => by
    have := one_le F u
    simp only [List.set_cons_zero, cntL]
    omega
  | x :: l, a + 1 => by
    have := cntL_set F u l a
    simp only [List.set_cons_succ, cntL]
    omega
theorem cntL_call (F : Nat) (K : List Nat) (a b : Nat) : cntL F (callM K a b) ≤ cntL F K + 2 := by
  unfold callM
  have h1 := cntL_set F (K.getD a 0 ||| K.getD b 0) (K.set a (K.getD a 0 ||| K.getD b 0)) b
  have h2 := cntL_set F (K.getD a 0 ||| K.getD b 0) K a
  omega
theorem cntL_run (F : Nat) : ∀ (l : Prs) (K : List Nat), cntL F (runM K l) ≤ cntL F K + 2 * l.length
  | [], K => by simp [runM]
  | c :: l, K => by
    have h1 := cntL_run F l (callM K c.1 c.2)
    have h2 := cntL_call F K c.1 c.2
    have e : runM K (c :: l) = runM (callM K c.1 c.2) l := rfl
    rw [e, List.length_cons]
    omega
theorem callM_comm {K : List Nat} {a b : Nat} (h : a ≠ b) : callM K a b = callM K b a := by
  unfold callM
  rw [Nat.or_comm, List.set_comm _ _ h]

set_option maxHeartbeats 4000000 in
theorem srch_step {p F r x0 x1 x2 x3 x4 x5 : Nat} (hp : p ≤ 6) (h : srch p F (r + 1) x0 x1 x2 x3 x4 x5 = true) (hc : ¬ cntL F [x0, x1, x2, x3, x4, x5] + 2 * (r + 1) < p) {a b : Nat} (hab : a < b) (hb : b < p) :
    ∃ y0 y1 y2 y3 y4 y5, callM [x0, x1, x2, x3, x4, x5] a b = [y0, y1, y2, y3, y4, y5] ∧ srch p F r y0 y1 y2 y3 y4 y5 = true := by
  unfold srch at h
  rw [Bool.or_eq_true] at h
  rcases h with h | h
  · rw [Nat.blt_eq, cnt6_eq] at h
    exact absurd h hc
  simp only [Bool.and_eq_true, Bool.or_eq_true, Nat.ble_eq] at h
  obtain ⟨h0, h1, h2, h3, h4, h5, h6, h7, h8, h9, h10, h11, h12, h13, h14⟩ := h
  have hb6 : b < 6 := by omega
  by_cases q0 : a = 0 ∧ b = 1
  · obtain ⟨rfl, rfl⟩ := q0
    exact ⟨_, _, _, _, _, _, rfl, h0.resolve_left (by omega)⟩
  by_cases q1 : a = 0 ∧ b = 2
  · obtain ⟨rfl, rfl⟩ := q1
    exact ⟨_, _, _, _, _, _, rfl, h1.resolve_left (by omega)⟩
  by_cases q2 : a = 0 ∧ b = 3
  · obtain ⟨rfl, rfl⟩ := q2
    exact ⟨_, _, _, _, _, _, rfl, h2.resolve_left (by omega)⟩
  by_cases q3 : a = 0 ∧ b = 4
  · obtain ⟨rfl, rfl⟩ := q3
    exact ⟨_, _, _, _, _, _, rfl, h3.resolve_left (by omega)⟩
  by_cases q4 : a = 0 ∧ b = 5
  · obtain ⟨rfl, rfl⟩ := q4
    exact ⟨_, _, _, _, _, _, rfl, h4.resolve_left (by omega)⟩
  by_cases q5 : a = 1 ∧ b = 2
  · obtain ⟨rfl, rfl⟩ := q5
    exact ⟨_, _, _, _, _, _, rfl, h5.resolve_left (by omega)⟩
  by_cases q6 : a = 1 ∧ b = 3
  · obtain ⟨rfl, rfl⟩ := q6
    exact ⟨_, _, _, _, _, _, rfl, h6.resolve_left (by omega)⟩
  by_cases q7 : a = 1 ∧ b = 4
  · obtain ⟨rfl, rfl⟩ := q7
    exact ⟨_, _, _, _, _, _, rfl, h7.resolve_left (by omega)⟩
  by_cases q8 : a = 1 ∧ b = 5
  · obtain ⟨rfl, rfl⟩ := q8
    exact ⟨_, _, _, _, _, _, rfl, h8.resolve_left (by omega)⟩
  by_cases q9 : a = 2 ∧ b = 3
  · obtain ⟨rfl, rfl⟩ := q9
    exact ⟨_, _, _, _, _, _, rfl, h9.resolve_left (by omega)⟩
  by_cases q10 : a = 2 ∧ b = 4
  · obtain ⟨rfl, rfl⟩ := q10
    exact ⟨_, _, _, _, _, _, rfl, h10.resolve_left (by omega)⟩
  by_cases q11 : a = 2 ∧ b = 5
  · obtain ⟨rfl, rfl⟩ := q11
    exact ⟨_, _, _, _, _, _, rfl, h11.resolve_left (by omega)⟩
  by_cases q12 : a = 3 ∧ b = 4
  · obtain ⟨rfl, rfl⟩ := q12
    exact ⟨_, _, _, _, _, _, rfl, h12.resolve_left (by omega)⟩
  by_cases q13 : a = 3 ∧ b = 5
  · obtain ⟨rfl, rfl⟩ := q13
    exact ⟨_, _, _, _, _, _, rfl, h13.resolve_left (by omega)⟩
  by_cases q14 : a = 4 ∧ b = 5
  · obtain ⟨rfl, rfl⟩ := q14
    exact ⟨_, _, _, _, _, _, rfl, h14.resolve_left (by omega)⟩
  exact absurd hb6 (by omega)
theorem srch_ok {p F : Nat} (hp : p ≤ 6) : ∀ (r x0 x1 x2 x3 x4 x5 : Nat), srch p F r x0 x1 x2 x3 x4 x5 = true → ∀ l : Prs, l.length = r → Vld p l → cntL F (runM [x0, x1, x2, x3, x4, x5] l) < p
  | 0, x0, x1, x2, x3, x4, x5, h, l, hl, hv => by
    have : l = [] := List.eq_nil_of_length_eq_zero hl
    subst this
    unfold srch at h
    rw [Nat.blt_eq, cnt6_eq] at h
    exact h
  | r + 1, x0, x1, x2, x3, x4, x5, h, l, hl, hv => by
    by_cases hc : cntL F [x0, x1, x2, x3, x4, x5] + 2 * (r + 1) < p
    · have := cntL_run F l [x0, x1, x2, x3, x4, x5]
      omega
    match l, hl, hv with
    | c :: l, hl, hv =>
      obtain ⟨a, b⟩ := c
      obtain ⟨v1, v2, v3⟩ := hv (a, b) List.mem_cons_self
      simp only at v1 v2 v3
      have hv' : Vld p l := fun q hq => hv q (List.mem_cons_of_mem _ hq)
      have hl' : l.length = r := by simpa using hl
      have e : runM [x0, x1, x2, x3, x4, x5] ((a, b) :: l) = runM (callM [x0, x1, x2, x3, x4, x5] a b) l := rfl
      rw [e]
      rcases Nat.lt_or_gt_of_ne v3 with q | q
      · obtain ⟨y0, y1, y2, y3, y4, y5, e1, e2⟩ := srch_step hp h hc q v2
        rw [e1]
        exact srch_ok hp r _ _ _ _ _ _ e2 l hl' hv'
      · obtain ⟨y0, y1, y2, y3, y4, y5, e1, e2⟩ := srch_step hp h hc q v1
        rw [callM_comm v3, e1]
        exact srch_ok hp r _ _ _ _ _ _ e2 l hl' hv'
theorem srch2 : srch 2 3 0 1 2 0 0 0 0 = true := by kernel_rfl
theorem srch3 : srch 3 7 2 1 2 4 0 0 0 = true := by kernel_rfl
theorem srch4 : srch 4 15 3 1 2 4 8 0 0 = true := by kernel_rfl
theorem srch5 : srch 5 31 5 1 2 4 8 16 0 = true := by kernel_rfl
end Go.Proofs.Ytpbighinamljbaa.PA
