/- Rows that may begin as an empty literal. No condition. -/
import Derived.Test.YtpbighinamljbaaEngC
set_option linter.unusedSimpArgs false
set_option linter.unusedVariables false
namespace Go.Eng
/-- A row, or an empty literal. -/
def RowE (z : Nat) (H : AHeap) (v : AV) (l : Nat) (cs : List AV) : Prop :=
  Row z H v l cs ∨ (l = 0 ∧ cs = [] ∧ ∃ i, v = .sl i 0 0 0 ∧ i < H.next ∧ H.get i = some (.cells [] none))
theorem RowE.frame {z : Nat} {H H' : AHeap} {v : AV} {l : Nat} {cs : List AV} (h : RowE z H v l cs) (hn : H.next ≤ H'.next) (hg : ∀ i, v.own = some i → H'.get i = H.get i) : RowE z H' v l cs := by
  rcases h with h | ⟨rfl, rfl, i, rfl, h1, h2⟩
  · exact .inl (h.frame hn hg)
  · exact .inr ⟨rfl, rfl, i, rfl, by omega, (hg i rfl).trans h2⟩
theorem RowE.len {z : Nat} {H : AHeap} {v : AV} {l : Nat} {cs : List AV} (h : RowE z H v l cs) : lenA v = some l := by
  rcases h with h | ⟨rfl, rfl, i, rfl, _⟩
  · exact h.len
  · rfl
theorem RowE.own_lt {z : Nat} {H : AHeap} {v : AV} {l : Nat} {cs : List AV} (h : RowE z H v l cs) {i : Nat} (hi : v.own = some i) : i < H.next := by
  rcases h with h | ⟨rfl, rfl, j, rfl, h1, _⟩
  · exact h.own_lt hi
  · cases hi; exact h1
theorem RowE.csl {z : Nat} {H : AHeap} {v : AV} {l : Nat} {cs : List AV} (h : RowE z H v l cs) : cs.length = l * z := by
  rcases h with h | ⟨rfl, rfl, _⟩
  · exact h.1
  · simp
/-- What is read of a row. -/
theorem RowE.src {z : Nat} {H : AHeap} {v : AV} {l : Nat} {cs : List AV} (h : RowE z H v l cs) : srcA H z l v = some cs := by
  rcases h with ⟨h0, ⟨rfl, rfl⟩ | ⟨i, full, rfl, h1, h2, h3, h4⟩⟩ | ⟨rfl, rfl, i, rfl, h1, h2⟩
  · have : cs = [] := List.eq_nil_of_length_eq_zero (by omega)
    subst this
    rfl
  · simp only [srcA, h1]
    rw [if_pos (by omega), List.drop_zero, h2]
  · simp only [srcA, h2]
    rw [if_pos (by simp)]
    simp
theorem RowE.nstr {z : Nat} {H : AHeap} {v : AV} {l : Nat} {cs : List AV} (h : RowE z H v l cs) : ∀ s, v ≠ .str s := by
  rcases h with ⟨_, ⟨rfl, rfl⟩ | ⟨i, full, rfl, _⟩⟩ | ⟨rfl, rfl, i, rfl, _⟩ <;> intro s q <;> cases q
theorem RowE.app {z bytes : Nat} {H : AHeap} {v y : AV} {l n : Nat} {cs new : List AV} (h : RowE z H v l cs) (hz : 0 < z) (hl : l + n ≤ 2 ^ 30) (hn : 0 < n) (hb : bytes ≤ 2 ^ 16) (hy : lenA y = some n) (hs : srcA H z n y = some new) (hnl : new.length = n * z) (ho : new.all AV.oneCell = true) :
    ∃ v' H', appA H z bytes v y = .eff v' H' ∧ Row z H' v' (l + n) (cs ++ new) ∧ H.next ≤ H'.next ∧ (∀ j, j < H.next → v.own ≠ some j → H'.get j = H.get j) ∧ (∀ i, v'.own = some i → v.own = some i ∨ H.next ≤ i) := by
  rcases h with h | ⟨rfl, rfl, i, rfl, h1, h2⟩
  · exact h.app hz hl hn hb hy hs hnl ho
  · refine ⟨.sl H.next 0 (0 + n) openCap, H.add (.cells new (some z)), ?_, ⟨by simp [hnl], .inr ⟨H.next, new, rfl, ?_, ?_, ?_, ?_⟩⟩, by simp only [next_add]; omega, fun j hj _ => ?_, fun j hj => ?_⟩
    · unfold appA
      rw [hy]
      simp only [hs, ho, Bool.not_true, Bool.false_eq_true, false_or]
      rw [if_neg (by omega)]
      simp only [h2]
      rw [if_neg (by omega), if_neg (by omega), if_neg (by simp), if_pos (by unfold openAt; omega), if_neg (by omega)]
      simp
    · rw [AHeap.get_add, if_pos rfl]
    · simp only [List.nil_append]
      rw [Nat.zero_add, List.take_of_length_le (by omega)]
    · rw [Nat.zero_add]; omega
    · simp only [next_add]; omega
    · rw [AHeap.get_add, if_neg (by omega)]
    · cases hj
      exact .inr (Nat.le_refl _)
theorem op_lenE {cf : CF} {z n l : Nat} {H : AHeap} {v : AV} {cs : List AV} (h : RowE z H v l cs) {ev : XO → Option AV} {x : XO} (hx : ev x = some v) : xval cf ev H n (.len x) = some (.int .i64 (l : Int), H) := by
  rcases h with h | ⟨rfl, rfl, i, rfl, _⟩
  · exact op_len h hx
  · simp only [xval, xop, hx] <;> rfl
/-- One element behind a row: what is appended is made first. -/
theorem WO.append1E {cf : CF} {d1 d2 z bytes n l : Nat} {x : XO} {zs : List AV} {ps : List (Nat × Nat × XO)} {r : List XOper} {tm : Tr AV} {H : AHeap} {Q : St → Prop} {v : AV} {cs new : List AV}
    (hR : RowE z H v l cs) (hx : St.ev (tm.set d1 (some (.sl n 0 1 1))) x = some v) (hps : (evParts (St.ev tm) ps).bind (fillA (List.replicate 1 zs).flatten) = some new) (hz : 0 < z) (hl : l + 1 ≤ 2 ^ 30) (hb : bytes ≤ 2 ^ 16) (hnl : new.length = z) (ho : new.all AV.oneCell = true)
    (hn : n < H.next) (hf : v.own ≠ some n)
    (k : ∀ v' H1, Row z H1 v' (l + 1) (cs ++ new) → H.next ≤ H1.next → (∀ j, j < H.next → j ≠ n → v.own ≠ some j → H1.get j = H.get j) → (∀ i, v'.own = some i → v.own = some i ∨ H.next ≤ i) →
      WO cf r (n + 1 + 1) ⟨(tm.set d1 (some (.sl n 0 1 1))).set d2 (some v'), H1⟩ Q) :
    WO cf (⟨some d1, .bslice zs ps 1, none⟩ :: ⟨some d2, .app z bytes x (.t d1), none⟩ :: r) n ⟨tm, H⟩ Q := by
  have hR1 : RowE z (H.set n (some (.cells new none))) v l cs := hR.frame (Nat.le_refl _) (fun i hi => by rw [AHeap.get_set, if_neg (by intro e; rw [e] at hi; exact hf hi)])
  have hsrc : srcA (H.set n (some (.cells new none))) z 1 (.sl n 0 1 1) = some new := by
    simp only [srcA, AHeap.get_set, if_true, hnl, Nat.one_mul, Nat.zero_add, Nat.le_refl, List.drop_zero]
    rw [List.take_of_length_le (by omega)]
  obtain ⟨v', H1, h1, h2, h3, h4, h5⟩ := hR1.app (bytes := bytes) hz hl (by omega) hb (y := .sl n 0 1 1) rfl hsrc (by omega) ho
  refine WO.op (v := .sl n 0 1 1) (H1 := H.set n (some (.cells new none))) ?_ (WO.op (v := v') (H1 := H1) ?_ (k v' H1 h2 h3 (fun j hj hjn hjo => ?_) h5))
  · simp only [xval, xop, hps]
  · simp only [xval, xop, hx, ev_t, Tr.get_set_self, h1]
  · rw [h4 j hj hjo, AHeap.get_set, if_neg hjn]
/-- The heap, by a name. -/
theorem WO.named {cf : CF} {ops : List XOper} {n : Nat} {tm : Tr AV} {H : AHeap} {Q : St → Prop} (h : ∀ HX, HX = H → WO cf ops n ⟨tm, HX⟩ Q) : WO cf ops n ⟨tm, H⟩ Q := h H rfl
theorem W.named {cf : CF} {fuel : Nat} {c : XCode} {tm : Tr AV} {H : AHeap} {Q : XE → St → Prop} (h : ∀ HX, HX = H → W cf fuel c ⟨tm, HX⟩ Q) : W cf fuel c ⟨tm, H⟩ Q := h H rfl
end Go.Eng
