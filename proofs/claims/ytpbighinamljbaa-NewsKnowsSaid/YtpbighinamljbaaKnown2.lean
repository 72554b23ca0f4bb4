/- news.KnownLaw, over the abstract machine: one call more. No condition. -/
import Derived.Test.YtpbighinamljbaaKnown1
set_option linter.unusedSimpArgs false
set_option linter.unusedVariables false
namespace Go.Eng
theorem Clean.upd {H H1 : AHeap} {n : Nat} (h : Clean H) (ho : ∀ j, j ≠ n → H1.get j = H.get j) (hn : H1.next = H.next) (hl : n < H.next) : Clean H1 := fun j hj => by rw [ho j (by omega)]; exact h j (by omega)
/-- More elements, or none, behind a row. -/
theorem RowE.app0 {z bytes : Nat} {H : AHeap} {v y : AV} {l n : Nat} {cs new : List AV} (h : RowE z H v l cs) (hz : 0 < z) (hl : l + n ≤ 2 ^ 30) (hb : bytes ≤ 2 ^ 16) (hy : lenA y = some n) (hs : srcA H z n y = some new) (hnl : new.length = n * z) (ho : new.all AV.oneCell = true) :
    ∃ v' H', appA H z bytes v y = .eff v' H' ∧ RowE z H' v' (l + n) (cs ++ new) ∧ H.next ≤ H'.next ∧ (∀ j, j < H.next → v.own ≠ some j → H'.get j = H.get j) ∧ (∀ i, v'.own = some i → v.own = some i ∨ H.next ≤ i) := by
  rcases Nat.eq_zero_or_pos n with hn | hn
  · subst hn
    have hnew : new = [] := List.eq_nil_of_length_eq_zero (by omega)
    subst hnew
    refine ⟨v, H, ?_, by simpa using h, Nat.le_refl _, fun _ _ _ => rfl, fun i hi => .inl hi⟩
    unfold appA
    rw [hy]
    simp only [hs]
    rcases h with ⟨_, ⟨rfl, rfl⟩ | ⟨i, full, rfl, h1, _⟩⟩ | ⟨rfl, rfl, i, rfl, h1, h2⟩
    · simp only [List.all_nil, Bool.not_true, Bool.false_eq_true, false_or]
      rw [if_neg (by omega), if_pos trivial]
    · simp only [List.all_nil, Bool.not_true, Bool.false_eq_true, false_or, h1]
      rw [if_neg (by omega), if_neg (by omega), if_pos trivial]
    · simp only [List.all_nil, Bool.not_true, Bool.false_eq_true, false_or, h2]
      rw [if_neg (by omega), if_neg (by omega), if_pos trivial]
  · obtain ⟨v', H', h1, h2, h3, h4, h5⟩ := h.app hz hl hn hb hy hs hnl ho
    exact ⟨v', H', h1, .inl h2, h3, h4, h5⟩
end Go.Eng
namespace Go.Proofs.Ytpbighinamljbaa.PA
open Go Go.Eng Go.Proofs
end Go.Proofs.Ytpbighinamljbaa.PA
