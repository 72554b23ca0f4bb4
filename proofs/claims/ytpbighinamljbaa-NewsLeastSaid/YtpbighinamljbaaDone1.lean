/- known.done, over the abstract machine. No condition. -/
import Derived.Test.YtpbighinamljbaaKnow1
import Derived.Test.YtpbighinamljbaaCalm
set_option linter.unusedSimpArgs false
set_option linter.unusedVariables false
namespace Go.Proofs.Ytpbighinamljbaa.PA
open Go Go.Eng Go.Proofs

/-- All know all. -/
def compl (n : Nat) (K : List Nat) : Bool := (List.range n).all fun i => K.getD i 0 == 2 ^ n - 1
theorem tabShl : ((List.range 7).all fun n => (match binA .shl (.int .u8 (.ofNat 1)) (natA n) with
    | some y => AV.beq y (u8A (2 ^ n)) && (match binA .sub (u8A (2 ^ n)) (.int .u8 (.ofNat 1)) with
      | some z => AV.beq z (u8A (2 ^ n - 1))
      | none => false)
    | none => false)) = true := by kernel_rfl
theorem shl_ops {n : Nat} (hn : n ≤ 6) : binA .shl (.int .u8 (.ofNat 1)) (natA n) = some (u8A (2 ^ n)) ∧ binA .sub (u8A (2 ^ n)) (.int .u8 (.ofNat 1)) = some (u8A (2 ^ n - 1)) := by
  have h := tabShl
  rw [List.all_eq_true] at h
  have h2 := h n (List.mem_range.2 (by omega))
  split at h2
  · rename_i y hy
    rw [Bool.and_eq_true] at h2
    have e1 := AV.beq_sound h2.1
    subst e1
    have h3 := h2.2
    split at h3
    · rename_i z hz
      have e2 := AV.beq_sound h3
      subst e2
      exact ⟨hy, hz⟩
    · cases h3
  · cases h2

theorem x76 {k n m N : Nat} {H : AHeap} (hn : n ≤ 6) (hN : H.get N = some (.cells [natA n] none)) :
    ∃ H', xcall F 300 (k + 1) 76 [u8A m, .ptr N 0] H = some (.bool (!(m == 2 ^ n - 1)), H') ∧ H.next ≤ H'.next ∧ ∀ j, H'.get j = H.get j := by
  have h : ∃ v H', xfunc (xcall F 300 k) 300 L76 [u8A m, .ptr N 0] H = some (v, H') ∧ v = .bool (!(m == 2 ^ n - 1)) ∧ H.next ≤ H'.next ∧ ∀ j, H'.get j = H.get j := by
    refine xfunc_of rfl (by show 2 ≤ 9; omega) ?_
    have a0 : (argsT [u8A m, .ptr N 0] 0 .e).get 0 = some (u8A m) := rfl
    have a1 : (argsT [u8A m, .ptr N 0] 0 .e).get 1 = some (.ptr N 0) := rfl
    generalize argsT [u8A m, .ptr N 0] 0 .e = tm at a0 a1
    unfold L76
    dsimp only
    refine W.seqN ?_
    refine W.rg 1 rfl (fun H1 hg1 hn1 => ?_)
    refine WO.op (by simp only [xval, xop, AR.ofV, St.ev, Tr.get_set, get_bump, next_bump, next_set, next_add, AHeap.get_set, reduceIte, Nat.reduceEqDiff, evL, evParts, fillA, AV.cells, natA, binA, intCmpA, unA, minA, maxA]; rfl) ?_
    refine WO.nil ⟨rfl, W.seqN (W.reg' 6 rfl (fun H2 hg2 hn2 => ?_))⟩
    have hl : loadA H2 none (.ptr N 0) = some (natA n) := by simp only [loadA, cellsAt, hg2, hg1, hN] <;> rfl
    obtain ⟨e1, e2⟩ := shl_ops hn
    have e3 : binA .neq (u8A m) (u8A (2 ^ n - 1)) = some (.bool (!(m == 2 ^ n - 1))) := by
      have : ((m : Int) != ((2 ^ n - 1 : Nat) : Int)) = !(m == 2 ^ n - 1) := by
        by_cases h : m = 2 ^ n - 1
        · rw [← h]; simp
        · have h' : ¬ (m : Int) = ((2 ^ n - 1 : Nat) : Int) := by omega
          rw [bne, beq_eq_false_iff_ne.2 h', beq_eq_false_iff_ne.2 h]
      simp only [binA, intCmpA, u8A]
      rw [← this]
      rfl
    repeat (first | refine WC.nil ?_ | (apply WC.op; · first | exact op_mv (by simp only [St.ev, ↓Tr.get_set, ↓reduceIte, Nat.reduceEqDiff, natA, a0, a1]; rfl) | exact op_bin (by simp only [St.ev, ↓Tr.get_set, ↓reduceIte, Nat.reduceEqDiff, natA, a0, a1]; rfl) (by simp only [St.ev, ↓Tr.get_set, ↓reduceIte, Nat.reduceEqDiff, natA, a0, a1]; rfl) (by first | exact hl | exact e1 | exact e2 | exact e3) | exact op_bin (by simp only [St.ev, ↓Tr.get_set, ↓reduceIte, Nat.reduceEqDiff, natA, a0, a1]; rfl) (by simp only [St.ev, ↓Tr.get_set, ↓reduceIte, Nat.reduceEqDiff, natA, a0, a1]; rfl) (by simp only [binA, intCmpA, strA, natA, a0, a1]; rfl) | exact op_ia (by simp only [St.ev, ↓Tr.get_set, ↓reduceIte, Nat.reduceEqDiff, natA, a0, a1]; rfl) (by simp only [St.ev, ↓Tr.get_set, ↓reduceIte, Nat.reduceEqDiff, natA, a0, a1]; rfl) (by first | exact hl | exact e1 | exact e2 | exact e3) | exact op_faddr (by simp only [St.ev, ↓Tr.get_set, ↓reduceIte, Nat.reduceEqDiff, natA, a0, a1]; rfl) | exact op_load (by simp only [St.ev, ↓Tr.get_set, ↓reduceIte, Nat.reduceEqDiff, natA, a0, a1]; rfl) (by first | exact hl | exact e1 | exact e2 | exact e3) | exact op_lenL (by simp only [St.ev, ↓Tr.get_set, ↓reduceIte, Nat.reduceEqDiff, natA, a0, a1]; rfl) (by first | exact hl | exact e1 | exact e2 | exact e3) | exact op_ext (by simp only [St.ev, ↓Tr.get_set, ↓reduceIte, Nat.reduceEqDiff, natA, a0, a1]; rfl) (by rfl) | exact op_call rfl (by simp only [evL, St.ev, ↓Tr.get_set, ↓reduceIte, Nat.reduceEqDiff, bind, Option.bind_some, natA, a0, a1]; rfl) (by first | exact hl | exact e1 | exact e2 | exact e3) | exact op_pick (by simp only [St.ev, ↓Tr.get_set, ↓reduceIte, Nat.reduceEqDiff, natA, a0, a1]; rfl) (by first | exact .inl ⟨rfl, (by simp only [St.ev, ↓Tr.get_set, ↓reduceIte, Nat.reduceEqDiff, natA, a0, a1]; rfl)⟩ | exact .inr ⟨rfl, (by simp only [St.ev, ↓Tr.get_set, ↓reduceIte, Nat.reduceEqDiff, natA, a0, a1]; rfl)⟩) | exact op_un (by simp only [St.ev, ↓Tr.get_set, ↓reduceIte, Nat.reduceEqDiff, natA, a0, a1]; rfl) (by simp only [unA, a0, a1]; rfl)) | (apply WC.gop'; (· (simp only [St.ev, ↓Tr.get_set, ↓reduceIte, Nat.reduceEqDiff, natA, a0, a1]; rfl)); (· rfl); (· first | exact op_mv (by simp only [St.ev, ↓Tr.get_set, ↓reduceIte, Nat.reduceEqDiff, natA, a0, a1]; rfl) | exact op_bin (by simp only [St.ev, ↓Tr.get_set, ↓reduceIte, Nat.reduceEqDiff, natA, a0, a1]; rfl) (by simp only [St.ev, ↓Tr.get_set, ↓reduceIte, Nat.reduceEqDiff, natA, a0, a1]; rfl) (by first | exact hl | exact e1 | exact e2 | exact e3) | exact op_bin (by simp only [St.ev, ↓Tr.get_set, ↓reduceIte, Nat.reduceEqDiff, natA, a0, a1]; rfl) (by simp only [St.ev, ↓Tr.get_set, ↓reduceIte, Nat.reduceEqDiff, natA, a0, a1]; rfl) (by simp only [binA, intCmpA, strA, natA, a0, a1]; rfl) | exact op_ia (by simp only [St.ev, ↓Tr.get_set, ↓reduceIte, Nat.reduceEqDiff, natA, a0, a1]; rfl) (by simp only [St.ev, ↓Tr.get_set, ↓reduceIte, Nat.reduceEqDiff, natA, a0, a1]; rfl) (by first | exact hl | exact e1 | exact e2 | exact e3) | exact op_faddr (by simp only [St.ev, ↓Tr.get_set, ↓reduceIte, Nat.reduceEqDiff, natA, a0, a1]; rfl) | exact op_load (by simp only [St.ev, ↓Tr.get_set, ↓reduceIte, Nat.reduceEqDiff, natA, a0, a1]; rfl) (by first | exact hl | exact e1 | exact e2 | exact e3) | exact op_lenL (by simp only [St.ev, ↓Tr.get_set, ↓reduceIte, Nat.reduceEqDiff, natA, a0, a1]; rfl) (by first | exact hl | exact e1 | exact e2 | exact e3) | exact op_ext (by simp only [St.ev, ↓Tr.get_set, ↓reduceIte, Nat.reduceEqDiff, natA, a0, a1]; rfl) (by rfl) | exact op_call rfl (by simp only [evL, St.ev, ↓Tr.get_set, ↓reduceIte, Nat.reduceEqDiff, bind, Option.bind_some, natA, a0, a1]; rfl) (by first | exact hl | exact e1 | exact e2 | exact e3) | exact op_pick (by simp only [St.ev, ↓Tr.get_set, ↓reduceIte, Nat.reduceEqDiff, natA, a0, a1]; rfl) (by first | exact .inl ⟨rfl, (by simp only [St.ev, ↓Tr.get_set, ↓reduceIte, Nat.reduceEqDiff, natA, a0, a1]; rfl)⟩ | exact .inr ⟨rfl, (by simp only [St.ev, ↓Tr.get_set, ↓reduceIte, Nat.reduceEqDiff, natA, a0, a1]; rfl)⟩) | exact op_un (by simp only [St.ev, ↓Tr.get_set, ↓reduceIte, Nat.reduceEqDiff, natA, a0, a1]; rfl) (by simp only [unA, a0, a1]; rfl))) | (apply WC.gno'; (· (simp only [St.ev, ↓Tr.get_set, ↓reduceIte, Nat.reduceEqDiff, natA, a0, a1]; rfl)); (· rfl)))
    refine ⟨rfl, W.ret ⟨fun id q => (by cases q), _, by simp only [resL, resA, Tr.get_set, get_bump, next_bump, next_set, next_add, AHeap.get_set, reduceIte, Nat.reduceEqDiff]; rfl, rfl, ?_, fun j => ?_⟩⟩
    · show H.next ≤ H2.next
      omega
    · show H2.get j = _
      rw [hg2, hg1]
  obtain ⟨v, H', h1, rfl, h2, h3⟩ := h
  exact ⟨H', h1, h2, h3⟩

/-- What the search keeps. -/
structure FI (H0 : AHeap) (n B N : Nat) (K : List Nat) (j : Nat) (s : St) : Prop where
  le : j ≤ n
  t0 : s.tm.get 0 = some (.sl B 0 n 6)
  t1 : s.tm.get 1 = some (.fn 76 [.ptr N 0])
  t7 : s.tm.get 7 = some (natA n)
  t8 : s.tm.get 8 = some (natA j)
  all : ∀ i, i < j → K.getD i 0 = 2 ^ n - 1
  nx : H0.next ≤ s.H.next
  fr : ∀ j, s.H.get j = H0.get j

def body83 : XCode := match L83.code with
  | .seq _ (.seq (.seq _ (.block _ (.loop c))) _) => c
  | _ => .skip

theorem body83_ok {k fuel n B N : Nat} {H0 : AHeap} {K : List Nat} (hn : n ≤ 6) (hK : K.length = 6) (hB : H0.get B = some (.cells (K.map u8A) none)) (hN : H0.get N = some (.cells [natA n] none)) (j : Nat) (s : St) (h : FI H0 n B N K j s) :
    W (xcall F 300 (k + 1)) fuel body83 s fun e s' => (e = .normal → ∃ m, FI H0 n B N K m s' ∧ n - m < n - j) ∧ (e ≠ .normal → (e = .exit 0 ∧ FI H0 n B N K n s') ∨ (e = .ret ∧ (∃ m, s'.tm.get 4 = some (natA m)) ∧ compl n K = false ∧ H0.next ≤ s'.H.next)) := by
  obtain ⟨le, t0, t1, t7, t8, all, nx, fr⟩ := h
  obtain ⟨tm, H⟩ := s
  simp only at t0 t1 t7 t8 nx fr
  unfold body83 L83
  dsimp only
  by_cases hj : j < n
  · have hd : decide ((j : Int) < (n : Int)) = true := by simpa using hj
    have hw : wrapA .i64 ((j : Int) + Int.ofNat 1) = ((j + 1 : Nat) : Int) := by
      show wrapA .i64 ((j : Int) + 1) = _
      rw [wrapI _ (by omega) (by omega)]; rfl
    obtain ⟨m, hm⟩ : ∃ m, K[j]? = some m := ⟨_, List.getElem?_eq_getElem (by omega)⟩
    have hmK : K.getD j 0 = m := by rw [List.getD_eq_getElem?_getD, hm]; rfl
    refine W.seqN ?_
    refine W.rg 1 rfl (fun H1 hg1 hn1 => ?_)
    refine WO.op (by simp only [xval, xop, AR.ofV, St.ev, Tr.get_set, get_bump, next_bump, next_set, next_add, AHeap.get_set, reduceIte, Nat.reduceEqDiff, evL, evParts, fillA, AV.cells, natA, binA, intCmpA, unA, minA, maxA, t8, t7, hd]; rfl) ?_
    refine WO.nil ⟨rfl, W.seqN (W.condT (by simp only [St.ev, Tr.get_set, get_bump, next_bump, next_set, next_add, AHeap.get_set, reduceIte, Nat.reduceEqDiff] <;> rfl) (W.skip ⟨rfl, ?_⟩))⟩
    refine W.seq (W.block (W.seqN ?_))
    refine W.rg 2 rfl (fun H2 hg2 hn2 => ?_)
    refine WO.op (by simp only [xval, xop, AR.ofV, St.ev, Tr.get_set, get_bump, next_bump, next_set, next_add, AHeap.get_set, reduceIte, Nat.reduceEqDiff, evL, evParts, fillA, AV.cells, natA, binA, intCmpA, unA, minA, maxA, t8]; rfl) ?_
    refine WO.op (by simp only [xval, xop, AR.ofV, St.ev, Tr.get_set, get_bump, next_bump, next_set, next_add, AHeap.get_set, reduceIte, Nat.reduceEqDiff, evL, evParts, fillA, AV.cells, natA, binA, intCmpA, unA, minA, maxA, t8]; rfl) ?_
    refine WO.nil ⟨rfl, W.seqN ?_⟩
    refine W.rg 6 rfl (fun H3 hg3 hn3 => ?_)
    refine WO.op (by simp only [xval, xop, AR.ofV, St.ev, Tr.get_set, get_bump, next_bump, next_set, next_add, AHeap.get_set, reduceIte, Nat.reduceEqDiff, evL, evParts, fillA, AV.cells, natA, binA, intCmpA, unA, minA, maxA, t0, t1]; rfl) ?_
    refine WO.op (by simp only [xval, xop, AR.ofV, St.ev, Tr.get_set, get_bump, next_bump, next_set, next_add, AHeap.get_set, reduceIte, Nat.reduceEqDiff, evL, evParts, fillA, AV.cells, natA, binA, intCmpA, unA, minA, maxA, t0, t1]; rfl) ?_
    refine WO.op (by simp only [xval, xop, AR.ofV, St.ev, Tr.get_set, get_bump, next_bump, next_set, next_add, AHeap.get_set, reduceIte, Nat.reduceEqDiff, evL, evParts, fillA, AV.cells, natA, binA, intCmpA, unA, minA, maxA, t0, t1]; rfl) ?_
    have hix := idxOk_lt hj
    refine WO.op (v := .ptr B j) (op_ia (a := .sl B 0 n 6) (b := natA j) (by simp only [St.ev, Tr.get_set, get_bump, next_bump, next_set, next_add, AHeap.get_set, reduceIte, Nat.reduceEqDiff]) (by simp only [St.ev, Tr.get_set, get_bump, next_bump, next_set, next_add, AHeap.get_set, reduceIte, Nat.reduceEqDiff] <;> rfl) (by simp only [iaddrA, natA, hix, if_true, Int.toNat_natCast, Nat.zero_add, Nat.mul_one])) ?_
    refine WO.op (v := u8A m) (op_load (a := .ptr B j) (by simp only [St.ev, Tr.get_set, get_bump, next_bump, next_set, next_add, AHeap.get_set, reduceIte, Nat.reduceEqDiff]) (by simp only [loadA, cellsAt, hg3, hg2, hg1, fr, hB, List.getElem?_drop, Nat.add_zero, List.getElem?_map, hm, Option.map_some])) ?_
    obtain ⟨H4, c4, nx4, fr4⟩ := x76 (k := k) (m := m) (H := H3) hn (by rw [hg3, hg2, hg1, fr]; exact hN)
    refine WO.op (v := .bool (!(m == 2 ^ n - 1))) (H1 := H4) (op_call (g := 76) (cs := [.ptr N 0]) (l := [u8A m]) (by simp only [St.ev, Tr.get_set, get_bump, next_bump, next_set, next_add, AHeap.get_set, reduceIte, Nat.reduceEqDiff]) (by simp only [evL, St.ev, Tr.get_set, get_bump, next_bump, next_set, next_add, AHeap.get_set, reduceIte, Nat.reduceEqDiff, bind, Option.bind_some]) c4) ?_
    refine WO.nil ⟨rfl, ?_⟩
    by_cases hmf : m = 2 ^ n - 1
    · have hb : (!(m == 2 ^ n - 1)) = false := by simp [hmf]
      refine W.condF (by simp only [St.ev, Tr.get_set, get_bump, next_bump, next_set, next_add, AHeap.get_set, reduceIte, Nat.reduceEqDiff, hb]) (W.skip (bN (pN ?_)))
      repeat (first | refine W.seq ?_ | refine W.block ?_ | refine W.skip ?_ | refine W.ret ?_ | refine W.exit ?_ | (apply W.reg; · (simp only [List.length_cons, List.length_nil, Nat.reduceAdd]; rfl)) | (apply W.regd0; · (simp only [List.length_cons, List.length_nil, Nat.reduceAdd]; rfl)) | refine WO.nil ?_ | (apply WO.op; · first | exact op_mv (by simp only [St.ev, ↓Tr.get_set, ↓reduceIte, Nat.reduceEqDiff, natA, t8, hw]; rfl) | exact op_bin (by simp only [St.ev, ↓Tr.get_set, ↓reduceIte, Nat.reduceEqDiff, natA, t8, hw]; rfl) (by simp only [St.ev, ↓Tr.get_set, ↓reduceIte, Nat.reduceEqDiff, natA, t8, hw]; rfl) (by simp only [binA, intCmpA, strA, natA, t8, hw]; rfl) | exact op_slen (by simp only [St.ev, ↓Tr.get_set, ↓reduceIte, Nat.reduceEqDiff, natA, t8, hw]; rfl) | exact op_faddr (by simp only [St.ev, ↓Tr.get_set, ↓reduceIte, Nat.reduceEqDiff, natA, t8, hw]; rfl) | exact op_nilc (by simp only [St.ev, ↓Tr.get_set, ↓reduceIte, Nat.reduceEqDiff, natA, t8, hw]; rfl) | exact op_ext (by simp only [St.ev, ↓Tr.get_set, ↓reduceIte, Nat.reduceEqDiff, natA, t8, hw]; rfl) (by rfl) | exact op_pick (by simp only [St.ev, ↓Tr.get_set, ↓reduceIte, Nat.reduceEqDiff, natA, t8, hw]; rfl) (by first | exact .inl ⟨rfl, (by simp only [St.ev, ↓Tr.get_set, ↓reduceIte, Nat.reduceEqDiff, natA, t8, hw]; rfl)⟩ | exact .inr ⟨rfl, (by simp only [St.ev, ↓Tr.get_set, ↓reduceIte, Nat.reduceEqDiff, natA, t8, hw]; rfl)⟩) | exact op_un (by simp only [St.ev, ↓Tr.get_set, ↓reduceIte, Nat.reduceEqDiff, natA, t8, hw]; rfl) (by simp only [unA, t8, hw]; rfl) | (simp only [xval, xop, AR.ofV, St.ev, Tr.get_set, get_bump, next_bump, next_set, next_add, AHeap.get_set, reduceIte, Nat.reduceEqDiff, evL, evParts, fillA, AV.cells, natA, binA, intCmpA, unA, minA, maxA, Nat.add_assoc, Nat.reduceAdd, Nat.add_left_cancel_iff, Nat.add_eq_left, Nat.left_eq_add, loadA, cellsAt, storeA, Option.bind_some, iaddrA, aaddrA, t8, hw]; rfl)) | (apply WO.opn; · (simp only [xval, xop, AR.ofV, St.ev, Tr.get_set, get_bump, next_bump, next_set, next_add, AHeap.get_set, reduceIte, Nat.reduceEqDiff, evL, evParts, fillA, AV.cells, natA, binA, intCmpA, unA, minA, maxA, Nat.add_assoc, Nat.reduceAdd, Nat.add_left_cancel_iff, Nat.add_eq_left, Nat.left_eq_add, loadA, cellsAt, storeA, Option.bind_some, iaddrA, aaddrA, t8, hw]; rfl)) | (apply WO.gop'; (· (simp only [St.ev, ↓Tr.get_set, ↓reduceIte, Nat.reduceEqDiff, natA, t8, hw]; rfl)); (· rfl); (· first | exact op_mv (by simp only [St.ev, ↓Tr.get_set, ↓reduceIte, Nat.reduceEqDiff, natA, t8, hw]; rfl) | exact op_bin (by simp only [St.ev, ↓Tr.get_set, ↓reduceIte, Nat.reduceEqDiff, natA, t8, hw]; rfl) (by simp only [St.ev, ↓Tr.get_set, ↓reduceIte, Nat.reduceEqDiff, natA, t8, hw]; rfl) (by simp only [binA, intCmpA, strA, natA, t8, hw]; rfl) | exact op_slen (by simp only [St.ev, ↓Tr.get_set, ↓reduceIte, Nat.reduceEqDiff, natA, t8, hw]; rfl) | exact op_faddr (by simp only [St.ev, ↓Tr.get_set, ↓reduceIte, Nat.reduceEqDiff, natA, t8, hw]; rfl) | exact op_nilc (by simp only [St.ev, ↓Tr.get_set, ↓reduceIte, Nat.reduceEqDiff, natA, t8, hw]; rfl) | exact op_ext (by simp only [St.ev, ↓Tr.get_set, ↓reduceIte, Nat.reduceEqDiff, natA, t8, hw]; rfl) (by rfl) | exact op_pick (by simp only [St.ev, ↓Tr.get_set, ↓reduceIte, Nat.reduceEqDiff, natA, t8, hw]; rfl) (by first | exact .inl ⟨rfl, (by simp only [St.ev, ↓Tr.get_set, ↓reduceIte, Nat.reduceEqDiff, natA, t8, hw]; rfl)⟩ | exact .inr ⟨rfl, (by simp only [St.ev, ↓Tr.get_set, ↓reduceIte, Nat.reduceEqDiff, natA, t8, hw]; rfl)⟩) | exact op_un (by simp only [St.ev, ↓Tr.get_set, ↓reduceIte, Nat.reduceEqDiff, natA, t8, hw]; rfl) (by simp only [unA, t8, hw]; rfl) | (simp only [xval, xop, AR.ofV, St.ev, Tr.get_set, get_bump, next_bump, next_set, next_add, AHeap.get_set, reduceIte, Nat.reduceEqDiff, evL, evParts, fillA, AV.cells, natA, binA, intCmpA, unA, minA, maxA, Nat.add_assoc, Nat.reduceAdd, Nat.add_left_cancel_iff, Nat.add_eq_left, Nat.left_eq_add, loadA, cellsAt, storeA, Option.bind_some, iaddrA, aaddrA, t8, hw]; rfl))) | (apply WO.gno'; (· (simp only [St.ev, ↓Tr.get_set, ↓reduceIte, Nat.reduceEqDiff, natA, t8, hw]; rfl)); (· rfl)) | refine pN ?_ | refine pR ?_ | refine pX ?_ | refine bN ?_ | refine bR ?_ | refine bX ?_ | refine bO (by decide) ?_ | (apply W.condT'; (· (simp only [St.ev, ↓Tr.get_set, ↓reduceIte, Nat.reduceEqDiff, natA, t8, hw]; rfl)); (· rfl)) | (apply W.condF'; (· (simp only [St.ev, ↓Tr.get_set, ↓reduceIte, Nat.reduceEqDiff, natA, t8, hw]; rfl)); (· rfl)))
      refine ⟨j + 1, ⟨by omega, ?_, ?_, ?_, ?_, fun i hi => ?_, by simp only [next_bump]; omega, fun o => ?_⟩, by omega⟩
      · simp only [Tr.get_set, get_bump, next_bump, next_set, next_add, AHeap.get_set, reduceIte, Nat.reduceEqDiff] <;> assumption
      · simp only [Tr.get_set, get_bump, next_bump, next_set, next_add, AHeap.get_set, reduceIte, Nat.reduceEqDiff] <;> assumption
      · simp only [Tr.get_set, get_bump, next_bump, next_set, next_add, AHeap.get_set, reduceIte, Nat.reduceEqDiff] <;> assumption
      · simp only [Tr.get_set, get_bump, next_bump, next_set, next_add, AHeap.get_set, reduceIte, Nat.reduceEqDiff] <;> rfl
      · by_cases q : i = j
        · rw [q, hmK, hmf]
        · exact all i (by omega)
      · show H4.get o = _
        rw [fr4, hg3, hg2, hg1, fr]
    · have hb : (!(m == 2 ^ n - 1)) = true := by simp [hmf]
      refine W.condT (by simp only [St.ev, Tr.get_set, get_bump, next_bump, next_set, next_add, AHeap.get_set, reduceIte, Nat.reduceEqDiff, hb]) ?_
      repeat (first | refine W.seq ?_ | refine W.block ?_ | refine W.skip ?_ | refine W.ret ?_ | refine W.exit ?_ | (apply W.reg; · (simp only [List.length_cons, List.length_nil, Nat.reduceAdd]; rfl)) | (apply W.regd0; · (simp only [List.length_cons, List.length_nil, Nat.reduceAdd]; rfl)) | refine WO.nil ?_ | (apply WO.op; · first | exact op_mv (by simp only [St.ev, ↓Tr.get_set, ↓reduceIte, Nat.reduceEqDiff, natA, t8]; rfl) | exact op_bin (by simp only [St.ev, ↓Tr.get_set, ↓reduceIte, Nat.reduceEqDiff, natA, t8]; rfl) (by simp only [St.ev, ↓Tr.get_set, ↓reduceIte, Nat.reduceEqDiff, natA, t8]; rfl) (by simp only [binA, intCmpA, strA, natA, t8]; rfl) | exact op_slen (by simp only [St.ev, ↓Tr.get_set, ↓reduceIte, Nat.reduceEqDiff, natA, t8]; rfl) | exact op_faddr (by simp only [St.ev, ↓Tr.get_set, ↓reduceIte, Nat.reduceEqDiff, natA, t8]; rfl) | exact op_nilc (by simp only [St.ev, ↓Tr.get_set, ↓reduceIte, Nat.reduceEqDiff, natA, t8]; rfl) | exact op_ext (by simp only [St.ev, ↓Tr.get_set, ↓reduceIte, Nat.reduceEqDiff, natA, t8]; rfl) (by rfl) | exact op_pick (by simp only [St.ev, ↓Tr.get_set, ↓reduceIte, Nat.reduceEqDiff, natA, t8]; rfl) (by first | exact .inl ⟨rfl, (by simp only [St.ev, ↓Tr.get_set, ↓reduceIte, Nat.reduceEqDiff, natA, t8]; rfl)⟩ | exact .inr ⟨rfl, (by simp only [St.ev, ↓Tr.get_set, ↓reduceIte, Nat.reduceEqDiff, natA, t8]; rfl)⟩) | exact op_un (by simp only [St.ev, ↓Tr.get_set, ↓reduceIte, Nat.reduceEqDiff, natA, t8]; rfl) (by simp only [unA, t8]; rfl) | (simp only [xval, xop, AR.ofV, St.ev, Tr.get_set, get_bump, next_bump, next_set, next_add, AHeap.get_set, reduceIte, Nat.reduceEqDiff, evL, evParts, fillA, AV.cells, natA, binA, intCmpA, unA, minA, maxA, Nat.add_assoc, Nat.reduceAdd, Nat.add_left_cancel_iff, Nat.add_eq_left, Nat.left_eq_add, loadA, cellsAt, storeA, Option.bind_some, iaddrA, aaddrA, t8]; rfl)) | (apply WO.opn; · (simp only [xval, xop, AR.ofV, St.ev, Tr.get_set, get_bump, next_bump, next_set, next_add, AHeap.get_set, reduceIte, Nat.reduceEqDiff, evL, evParts, fillA, AV.cells, natA, binA, intCmpA, unA, minA, maxA, Nat.add_assoc, Nat.reduceAdd, Nat.add_left_cancel_iff, Nat.add_eq_left, Nat.left_eq_add, loadA, cellsAt, storeA, Option.bind_some, iaddrA, aaddrA, t8]; rfl)) | (apply WO.gop'; (· (simp only [St.ev, ↓Tr.get_set, ↓reduceIte, Nat.reduceEqDiff, natA, t8]; rfl)); (· rfl); (· first | exact op_mv (by simp only [St.ev, ↓Tr.get_set, ↓reduceIte, Nat.reduceEqDiff, natA, t8]; rfl) | exact op_bin (by simp only [St.ev, ↓Tr.get_set, ↓reduceIte, Nat.reduceEqDiff, natA, t8]; rfl) (by simp only [St.ev, ↓Tr.get_set, ↓reduceIte, Nat.reduceEqDiff, natA, t8]; rfl) (by simp only [binA, intCmpA, strA, natA, t8]; rfl) | exact op_slen (by simp only [St.ev, ↓Tr.get_set, ↓reduceIte, Nat.reduceEqDiff, natA, t8]; rfl) | exact op_faddr (by simp only [St.ev, ↓Tr.get_set, ↓reduceIte, Nat.reduceEqDiff, natA, t8]; rfl) | exact op_nilc (by simp only [St.ev, ↓Tr.get_set, ↓reduceIte, Nat.reduceEqDiff, natA, t8]; rfl) | exact op_ext (by simp only [St.ev, ↓Tr.get_set, ↓reduceIte, Nat.reduceEqDiff, natA, t8]; rfl) (by rfl) | exact op_pick (by simp only [St.ev, ↓Tr.get_set, ↓reduceIte, Nat.reduceEqDiff, natA, t8]; rfl) (by first | exact .inl ⟨rfl, (by simp only [St.ev, ↓Tr.get_set, ↓reduceIte, Nat.reduceEqDiff, natA, t8]; rfl)⟩ | exact .inr ⟨rfl, (by simp only [St.ev, ↓Tr.get_set, ↓reduceIte, Nat.reduceEqDiff, natA, t8]; rfl)⟩) | exact op_un (by simp only [St.ev, ↓Tr.get_set, ↓reduceIte, Nat.reduceEqDiff, natA, t8]; rfl) (by simp only [unA, t8]; rfl) | (simp only [xval, xop, AR.ofV, St.ev, Tr.get_set, get_bump, next_bump, next_set, next_add, AHeap.get_set, reduceIte, Nat.reduceEqDiff, evL, evParts, fillA, AV.cells, natA, binA, intCmpA, unA, minA, maxA, Nat.add_assoc, Nat.reduceAdd, Nat.add_left_cancel_iff, Nat.add_eq_left, Nat.left_eq_add, loadA, cellsAt, storeA, Option.bind_some, iaddrA, aaddrA, t8]; rfl))) | (apply WO.gno'; (· (simp only [St.ev, ↓Tr.get_set, ↓reduceIte, Nat.reduceEqDiff, natA, t8]; rfl)); (· rfl)) | refine pN ?_ | refine pR ?_ | refine pX ?_ | refine bN ?_ | refine bR ?_ | refine bX ?_ | refine bO (by decide) ?_ | (apply W.condT'; (· (simp only [St.ev, ↓Tr.get_set, ↓reduceIte, Nat.reduceEqDiff, natA, t8]; rfl)); (· rfl)) | (apply W.condF'; (· (simp only [St.ev, ↓Tr.get_set, ↓reduceIte, Nat.reduceEqDiff, natA, t8]; rfl)); (· rfl)))
      refine .inr ⟨rfl, ⟨j, by simp only [Tr.get_set, get_bump, next_bump, next_set, next_add, AHeap.get_set, reduceIte, Nat.reduceEqDiff] <;> rfl⟩, ?_, by simp only [next_bump]; omega⟩
      unfold compl
      rw [List.all_eq_false]
      exact ⟨j, List.mem_range.2 hj, by rw [hmK]; simpa using hmf⟩
  · have hjl : j = n := by omega
    have hd : decide ((j : Int) < (n : Int)) = false := by simp; omega
    repeat (first | refine W.seq ?_ | refine W.block ?_ | refine W.skip ?_ | refine W.ret ?_ | refine W.exit ?_ | (apply W.reg; · (simp only [List.length_cons, List.length_nil, Nat.reduceAdd]; rfl)) | (apply W.regd0; · (simp only [List.length_cons, List.length_nil, Nat.reduceAdd]; rfl)) | refine WO.nil ?_ | (apply WO.op; · first | exact op_mv (by simp only [St.ev, ↓Tr.get_set, ↓reduceIte, Nat.reduceEqDiff, natA, t8, t7, hd]; rfl) | exact op_bin (by simp only [St.ev, ↓Tr.get_set, ↓reduceIte, Nat.reduceEqDiff, natA, t8, t7, hd]; rfl) (by simp only [St.ev, ↓Tr.get_set, ↓reduceIte, Nat.reduceEqDiff, natA, t8, t7, hd]; rfl) (by simp only [binA, intCmpA, strA, natA, t8, t7, hd]; rfl) | exact op_slen (by simp only [St.ev, ↓Tr.get_set, ↓reduceIte, Nat.reduceEqDiff, natA, t8, t7, hd]; rfl) | exact op_faddr (by simp only [St.ev, ↓Tr.get_set, ↓reduceIte, Nat.reduceEqDiff, natA, t8, t7, hd]; rfl) | exact op_nilc (by simp only [St.ev, ↓Tr.get_set, ↓reduceIte, Nat.reduceEqDiff, natA, t8, t7, hd]; rfl) | exact op_ext (by simp only [St.ev, ↓Tr.get_set, ↓reduceIte, Nat.reduceEqDiff, natA, t8, t7, hd]; rfl) (by rfl) | exact op_pick (by simp only [St.ev, ↓Tr.get_set, ↓reduceIte, Nat.reduceEqDiff, natA, t8, t7, hd]; rfl) (by first | exact .inl ⟨rfl, (by simp only [St.ev, ↓Tr.get_set, ↓reduceIte, Nat.reduceEqDiff, natA, t8, t7, hd]; rfl)⟩ | exact .inr ⟨rfl, (by simp only [St.ev, ↓Tr.get_set, ↓reduceIte, Nat.reduceEqDiff, natA, t8, t7, hd]; rfl)⟩) | exact op_un (by simp only [St.ev, ↓Tr.get_set, ↓reduceIte, Nat.reduceEqDiff, natA, t8, t7, hd]; rfl) (by simp only [unA, t8, t7, hd]; rfl) | (simp only [xval, xop, AR.ofV, St.ev, Tr.get_set, get_bump, next_bump, next_set, next_add, AHeap.get_set, reduceIte, Nat.reduceEqDiff, evL, evParts, fillA, AV.cells, natA, binA, intCmpA, unA, minA, maxA, Nat.add_assoc, Nat.reduceAdd, Nat.add_left_cancel_iff, Nat.add_eq_left, Nat.left_eq_add, loadA, cellsAt, storeA, Option.bind_some, iaddrA, aaddrA, t8, t7, hd]; rfl)) | (apply WO.opn; · (simp only [xval, xop, AR.ofV, St.ev, Tr.get_set, get_bump, next_bump, next_set, next_add, AHeap.get_set, reduceIte, Nat.reduceEqDiff, evL, evParts, fillA, AV.cells, natA, binA, intCmpA, unA, minA, maxA, Nat.add_assoc, Nat.reduceAdd, Nat.add_left_cancel_iff, Nat.add_eq_left, Nat.left_eq_add, loadA, cellsAt, storeA, Option.bind_some, iaddrA, aaddrA, t8, t7, hd]; rfl)) | (apply WO.gop'; (· (simp only [St.ev, ↓Tr.get_set, ↓reduceIte, Nat.reduceEqDiff, natA, t8, t7, hd]; rfl)); (· rfl); (· first | exact op_mv (by simp only [St.ev, ↓Tr.get_set, ↓reduceIte, Nat.reduceEqDiff, natA, t8, t7, hd]; rfl) | exact op_bin (by simp only [St.ev, ↓Tr.get_set, ↓reduceIte, Nat.reduceEqDiff, natA, t8, t7, hd]; rfl) (by simp only [St.ev, ↓Tr.get_set, ↓reduceIte, Nat.reduceEqDiff, natA, t8, t7, hd]; rfl) (by simp only [binA, intCmpA, strA, natA, t8, t7, hd]; rfl) | exact op_slen (by simp only [St.ev, ↓Tr.get_set, ↓reduceIte, Nat.reduceEqDiff, natA, t8, t7, hd]; rfl) | exact op_faddr (by simp only [St.ev, ↓Tr.get_set, ↓reduceIte, Nat.reduceEqDiff, natA, t8, t7, hd]; rfl) | exact op_nilc (by simp only [St.ev, ↓Tr.get_set, ↓reduceIte, Nat.reduceEqDiff, natA, t8, t7, hd]; rfl) | exact op_ext (by simp only [St.ev, ↓Tr.get_set, ↓reduceIte, Nat.reduceEqDiff, natA, t8, t7, hd]; rfl) (by rfl) | exact op_pick (by simp only [St.ev, ↓Tr.get_set, ↓reduceIte, Nat.reduceEqDiff, natA, t8, t7, hd]; rfl) (by first | exact .inl ⟨rfl, (by simp only [St.ev, ↓Tr.get_set, ↓reduceIte, Nat.reduceEqDiff, natA, t8, t7, hd]; rfl)⟩ | exact .inr ⟨rfl, (by simp only [St.ev, ↓Tr.get_set, ↓reduceIte, Nat.reduceEqDiff, natA, t8, t7, hd]; rfl)⟩) | exact op_un (by simp only [St.ev, ↓Tr.get_set, ↓reduceIte, Nat.reduceEqDiff, natA, t8, t7, hd]; rfl) (by simp only [unA, t8, t7, hd]; rfl) | (simp only [xval, xop, AR.ofV, St.ev, Tr.get_set, get_bump, next_bump, next_set, next_add, AHeap.get_set, reduceIte, Nat.reduceEqDiff, evL, evParts, fillA, AV.cells, natA, binA, intCmpA, unA, minA, maxA, Nat.add_assoc, Nat.reduceAdd, Nat.add_left_cancel_iff, Nat.add_eq_left, Nat.left_eq_add, loadA, cellsAt, storeA, Option.bind_some, iaddrA, aaddrA, t8, t7, hd]; rfl))) | (apply WO.gno'; (· (simp only [St.ev, ↓Tr.get_set, ↓reduceIte, Nat.reduceEqDiff, natA, t8, t7, hd]; rfl)); (· rfl)) | refine pN ?_ | refine pR ?_ | refine pX ?_ | refine bN ?_ | refine bR ?_ | refine bX ?_ | refine bO (by decide) ?_ | (apply W.condT'; (· (simp only [St.ev, ↓Tr.get_set, ↓reduceIte, Nat.reduceEqDiff, natA, t8, t7, hd]; rfl)); (· rfl)) | (apply W.condF'; (· (simp only [St.ev, ↓Tr.get_set, ↓reduceIte, Nat.reduceEqDiff, natA, t8, t7, hd]; rfl)); (· rfl)))
    subst hjl
    refine .inl ⟨rfl, ⟨Nat.le_refl _, ?_, ?_, ?_, ?_, all, by simp only [next_bump]; omega, fr⟩⟩
    all_goals (simp only [Tr.get_set, get_bump, next_bump, next_set, next_add, AHeap.get_set, reduceIte, Nat.reduceEqDiff] <;> assumption)
end Go.Proofs.Ytpbighinamljbaa.PA
