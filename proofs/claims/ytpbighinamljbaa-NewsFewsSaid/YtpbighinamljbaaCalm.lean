/- Regions that leave the heap alone: looks at memory may stand anywhere. No condition. -/
import Derived.Test.YtpbighinamljbaaEngC
set_option linter.unusedSimpArgs false
set_option linter.unusedVariables false
namespace Go.Eng
mutual
theorem AV.beq_refl : ∀ v : AV, AV.beq v v = true
  | .bool a => by simp [AV.beq]
  | .int k a => by simp [AV.beq]
  | .str a => by simp [AV.beq]
  | .ptr a b => by simp [AV.beq]
  | .nilp => by simp [AV.beq]
  | .nils => by simp [AV.beq]
  | .nilm => by simp [AV.beq]
  | .nilf => by simp [AV.beq]
  | .nili => by simp [AV.beq]
  | .sl a b c d => by simp [AV.beq]
  | .map a => by simp [AV.beq]
  | .fn f l => by simp [AV.beq, AV.beqL_refl l]
  | .ifc t x => by simp [AV.beq, AV.beq_refl x]
  | .agg l => by simp [AV.beq, AV.beqL_refl l]
  | .tup l => by simp [AV.beq, AV.beqL_refl l]
  | .imm l a b => by simp [AV.beq, AV.beqL_refl l]
  | .iptr l a => by simp [AV.beq, AV.beqL_refl l]
  | .glob a b => by simp [AV.beq]
theorem AV.beqL_refl : ∀ l : List AV, AV.beqL l l = true
  | [] => by simp [AV.beqL]
  | x :: l => by simp [AV.beqL, AV.beq_refl x, AV.beqL_refl l]
end
/-- A run whose states all have one heap. -/
def WC (cf : CF) (ops : List XOper) (n : Nat) (tm : Tr AV) (H : AHeap) (Q : St → Prop) : Prop :=
  ∃ tr, xtrace cf ops n ⟨tm, H⟩ = some tr ∧ (∀ t ∈ tr, t.H = H) ∧ ∃ s', tr.getLast? = some s' ∧ Q s'
section
variable {cf : CF} {n : Nat} {tm : Tr AV} {H : AHeap} {Q : St → Prop}
theorem WC.nil (h : Q ⟨tm, H⟩) : WC cf [] n tm H Q := ⟨_, rfl, by simp, _, rfl, h⟩
theorem WC.step {o : XOper} {r : List XOper} {tm1 : Tr AV} (h : xstep cf ⟨tm, H⟩ n o = some ⟨tm1, H⟩) (k : WC cf r (n + 1) tm1 H Q) : WC cf (o :: r) n tm H Q := by
  obtain ⟨tr, h1, h2, s', h3, h4⟩ := k
  refine ⟨⟨tm, H⟩ :: tr, by simp only [xtrace, h, h1, Option.map_some], fun t ht => ?_, s', by rw [List.getLast?_cons, h3]; rfl, h4⟩
  rcases List.mem_cons.1 ht with rfl | ht
  · rfl
  · exact h2 t ht
theorem WC.op {d : Nat} {op : XOp} {r : List XOper} {v : AV} (h : xval cf (St.ev tm) H n op = some (v, H)) (k : WC cf r (n + 1) (tm.set d (some v)) H Q) : WC cf (⟨some d, op, none⟩ :: r) n tm H Q :=
  WC.step (by simp only [xstep, wantedA, h, putT]) k
theorem WC.gop' {d : Nat} {op : XOp} {r : List XOper} {v u : AV} {g : Nat} {b : Bool} (hg : tm.get g = some u) (hu : u = .bool b) (h : xval cf (St.ev tm) H n op = some (v, H)) (k : WC cf r (n + 1) (tm.set d (some v)) H Q) : WC cf (⟨some d, op, some (g, b)⟩ :: r) n tm H Q :=
  WC.step (by subst hu; simp only [xstep, wantedA, hg, beq_self_eq_true, h, putT]) k
theorem WC.gno' {d : Nat} {op : XOp} {r : List XOper} {u : AV} {g : Nat} {b : Bool} (hg : tm.get g = some u) (hu : u = .bool (!b)) (k : WC cf r (n + 1) (tm.set d (some undefA)) H Q) : WC cf (⟨some d, op, some (g, b)⟩ :: r) n tm H Q :=
  WC.step (by subst hu; cases b <;> simp [xstep, wantedA, hg, putT]) k
theorem WC.named {ops : List XOper} (h : ∀ tX, tX = tm → WC cf ops n tX H Q) : WC cf ops n tm H Q := h tm rfl
theorem W.reg' {fuel : Nat} {ops : List XOper} {Q : XE → St → Prop} (k : Nat) (hk : ops.length = k) (h : ∀ H1 : AHeap, (∀ j, H1.get j = H.get j) → H1.next = H.next + k → WC cf ops H.next tm H1 (Q .normal)) : W cf fuel (.reg ops) ⟨tm, H⟩ Q := by
  subst hk
  refine W.rg _ rfl (fun H1 h1 h2 => ?_)
  obtain ⟨tr, h3, _, s', h4, h5⟩ := h H1 h1 h2
  unfold WO
  refine ⟨s', ?_, h5⟩
  have : ∀ (ops : List XOper) (n : Nat) (s : St) (tr : List St), xtrace cf ops n s = some tr → xops cf ops n s = tr.getLast? := by
    intro ops
    induction ops with
    | nil => intro n s tr h; cases h; rfl
    | cons o r ih =>
      intro n s tr h
      simp only [xtrace] at h
      split at h
      · rename_i s1 h1
        obtain ⟨tr1, h2, rfl⟩ := Option.map_eq_some_iff.1 h
        simp only [xops, h1]
        rw [ih _ _ _ h2, List.getLast?_cons]
        cases tr1 with
        | nil =>
          cases r with
          | nil => cases h2
          | cons o r =>
            simp only [xtrace] at h2
            split at h2
            · obtain ⟨_, _, q⟩ := Option.map_eq_some_iff.1 h2
              cases q
            · cases h2
        | cons a l => rw [List.getLast?_eq_some_getLast (by simp)]; rfl
      · cases h
  rw [this _ _ _ _ h3]
  exact h4
theorem xtrace_len : ∀ (ops : List XOper) (n : Nat) (s : St) (tr : List St), xtrace cf ops n s = some tr → tr.length = ops.length + 1
  | [], _, _, tr, h => by cases h; rfl
  | o :: r, n, s, tr, h => by
    simp only [xtrace] at h
    split at h
    · rename_i s1 h1
      obtain ⟨tr1, h2, rfl⟩ := Option.map_eq_some_iff.1 h
      simp [xtrace_len r _ _ _ h2]
    · cases h
theorem xtrace_at : ∀ (ops : List XOper) (n : Nat) (s : St) (tr : List St), xtrace cf ops n s = some tr → ∀ i o, ops[i]? = some o → ∃ t t', tr[i]? = some t ∧ xstep cf t (n + i) o = some t'
  | [], _, _, tr, h, i, o, hi => by simp at hi
  | o :: r, n, s, tr, h, i, o', hi => by
    simp only [xtrace] at h
    split at h
    · rename_i s1 h1
      obtain ⟨tr1, h2, rfl⟩ := Option.map_eq_some_iff.1 h
      cases i with
      | zero => simp at hi; subst hi; exact ⟨s, s1, rfl, h1⟩
      | succ i =>
        obtain ⟨t, t', q1, q2⟩ := xtrace_at r _ _ _ h2 i o' (by simpa using hi)
        exact ⟨t, t', by simpa using q1, by rw [show n + (i + 1) = n + 1 + i by omega]; exact q2⟩
    · cases h
def looseB (ops : List XOper) (l : Nat × List Nat × List Nat) : Bool :=
  l.2.2.isEmpty && (l.1 :: (l.2.1 ++ l.2.1.map (· + 1))).all (fun i => Nat.ble i ops.length) && (match ops[l.1]? with | some ⟨_, .load _ _, _⟩ => true | _ => false)
/-- A drawn region that leaves the heap alone. -/
theorem W.regC {fuel : Nat} {ops : List XOper} {lo : List (Nat × List Nat × List Nat)} {Q : XE → St → Prop} (k : Nat) (hk : ops.length = k) (hlo : lo.all (looseB ops) = true) (h : ∀ H1 : AHeap, (∀ j, H1.get j = H.get j) → H1.next = H.next + k → WC cf ops H.next tm H1 (Q .normal)) : W cf fuel (.regd ops lo []) ⟨tm, H⟩ Q := by
  refine W.regd k hk ?_
  obtain ⟨tr, h1, h2, s', h3, h4⟩ := h (H.bump k) (fun j => get_bump _ _ _) rfl
  refine ⟨tr, h1, ?_, by simp [freshOk], s', h3, h4⟩
  rw [List.all_eq_true] at hlo ⊢
  intro l hl
  have hb := hlo l hl
  unfold looseB at hb
  rw [Bool.and_eq_true, Bool.and_eq_true] at hb
  obtain ⟨⟨b1, b2⟩, b3⟩ := hb
  have b1' : l.2.2 = [] := by simpa using b1
  have hlen := xtrace_len _ _ _ _ h1
  have hin : ∀ i ∈ (l.1 :: (l.2.1 ++ l.2.1.map (· + 1))), ∃ si, tr[i]? = some si ∧ si.H = H.bump k := by
    intro i hi
    rw [List.all_eq_true] at b2
    have := b2 i hi
    have hi' : i < tr.length := by rw [hlen]; have := Nat.le_of_ble_eq_true this; omega
    exact ⟨tr[i], List.getElem?_eq_getElem hi', h2 _ (List.getElem_mem hi')⟩
  split at b3
  · rename_i d m x g ho
    obtain ⟨t, t', q1, q2⟩ := xtrace_at _ _ _ _ h1 _ _ ho
    have ht : t.H = H.bump k := h2 t (List.mem_of_getElem? q1)
    unfold looseOk
    rw [ho, q1]
    dsimp only
    unfold xstep at q2
    generalize wantedA t.tm { dst := d, op := XOp.load m x, guard := g } = wd at q2 ⊢
    cases wd with
    | none => cases q2
    | some wb =>
      cases wb with
      | false => rfl
      | true =>
        dsimp only at q2 ⊢
        have hv : ∃ y, ∀ n, xop (St.ev t.tm) t.H n (XOp.load m x) = .v y := by
          cases hx : (St.ev t.tm x).bind (loadA t.H m) with
          | none => simp only [xval, xop, hx, AR.ofV] at q2; cases q2
          | some y => exact ⟨y, fun n => by simp only [xop, hx, AR.ofV]⟩
        obtain ⟨y, hy⟩ := hv
        rw [hy 0]
        dsimp only
        rw [List.all_eq_true]
        intro i hi
        obtain ⟨si, s1, s2⟩ := hin i hi
        rw [s1]
        dsimp only
        rw [b1', List.filter_nil]
        simp only [AHeap.less]
        rw [s2, ← ht, hy 0]
        exact AV.beq_refl y
  · cases b3
end
theorem op_ia {cf : CF} {z n : Nat} {a b c : AV} {H : AHeap} {ev : XO → Option AV} {x y : XO} (hx : ev x = some a) (hy : ev y = some b) (h : iaddrA z a b = some c) : xval cf ev H n (.iaddr z x y) = some (c, H) := by
  simp only [xval, xop, hx, hy, h] <;> rfl
def lenN : AV → Option Nat
  | .nils => some 0
  | .sl _ _ l _ => some l
  | .imm _ l _ => some l
  | _ => none
theorem Row.lenN {z l : Nat} {H : AHeap} {v : AV} {cs : List AV} (h : Row z H v l cs) : lenN v = some l := by
  rcases h with ⟨_, ⟨rfl, rfl⟩ | ⟨i, full, rfl, _⟩⟩ <;> rfl
theorem op_lenL {cf : CF} {n l : Nat} {a : AV} {H : AHeap} {ev : XO → Option AV} {x : XO} (hx : ev x = some a) (h : Go.Eng.lenN a = some l) : xval cf ev H n (.len x) = some (.int .i64 (l : Int), H) := by
  unfold Go.Eng.lenN at h
  split at h
  all_goals first | (cases h; simp only [xval, xop, hx] <;> rfl) | cases h
theorem Row.cellAt {H : AHeap} {v c : AV} {l j : Nat} {cs : List AV} (h : Row 1 H v l cs) (hj : j < l) (hc : cs[j]? = some c) : ∃ o, v.own = some o ∧ iaddrA 1 v (.int .i64 (j : Int)) = some (.ptr o j) ∧ loadA H none (.ptr o j) = some c := by
  obtain ⟨o, h1, h2, h3⟩ := h.cell hj (by omega) .i64
  have h4 := h3 0 (by omega)
  simp only [Nat.mul_one, Nat.add_zero] at h4 h1
  exact ⟨o, h2, h1, by rw [h4, hc]⟩
end Go.Eng
