/- known.done, over the abstract machine: whether all know all. No condition. -/
import Derived.Test.YtpbighinamljbaaDone1
set_option linter.unusedSimpArgs false
set_option linter.unusedVariables false
namespace Go.Proofs.Ytpbighinamljbaa.PA
open Go Go.Eng Go.Proofs
theorem compl_true {n : Nat} {K : List Nat} (h : ∀ i, i < n → K.getD i 0 = 2 ^ n - 1) : compl n K = true := by
  unfold compl
  rw [List.all_eq_true]
  intro i hi
  simpa using h i (List.mem_range.1 hi)
theorem x83 {k n B N : Nat} {H : AHeap} {K : List Nat} (hn : n ≤ 6) (hK : K.length = 6) (hB : H.get B = some (.cells (K.map u8A) none)) (hN : H.get N = some (.cells [natA n] none)) :
    ∃ H' r, xcall F 300 (k + 2) 83 [.sl B 0 n 6, .fn 76 [.ptr N 0]] H = some (.int .i64 r, H') ∧ decide (r ≥ 0) = !(compl n K) ∧ H.next ≤ H'.next := by
  have h : ∃ v H', xfunc (xcall F 300 (k + 1)) 300 L83 [.sl B 0 n 6, .fn 76 [.ptr N 0]] H = some (v, H') ∧ (∃ r, v = .int .i64 r ∧ decide (r ≥ 0) = !(compl n K)) ∧ H.next ≤ H'.next := by
    refine xfunc_of rfl (by show 2 ≤ 19; omega) ?_
    have a0 : (argsT [.sl B 0 n 6, .fn 76 [.ptr N 0]] 0 .e).get 0 = some (.sl B 0 n 6) := rfl
    have a1 : (argsT [.sl B 0 n 6, .fn 76 [.ptr N 0]] 0 .e).get 1 = some (.fn 76 [.ptr N 0]) := rfl
    generalize argsT [.sl B 0 n 6, .fn 76 [.ptr N 0]] 0 .e = tm at a0 a1
    unfold L83
    dsimp only
    refine W.seqN ?_
    refine W.rg 1 rfl (fun H1 hg1 hn1 => ?_)
    refine WO.op (by simp only [xval, xop, AR.ofV, St.ev, Tr.get_set, get_bump, next_bump, next_set, next_add, AHeap.get_set, reduceIte, Nat.reduceEqDiff, evL, evParts, fillA, AV.cells, natA, binA, intCmpA, unA, minA, maxA]; rfl) ?_
    refine WO.nil ⟨rfl, W.seq (W.seqN ?_)⟩
    refine W.rg 3 rfl (fun H2 hg2 hn2 => ?_)
    refine WO.op (by simp only [xval, xop, AR.ofV, St.ev, Tr.get_set, get_bump, next_bump, next_set, next_add, AHeap.get_set, reduceIte, Nat.reduceEqDiff, evL, evParts, fillA, AV.cells, natA, binA, intCmpA, unA, minA, maxA, a0]; rfl) ?_
    refine WO.op (by simp only [xval, xop, AR.ofV, St.ev, Tr.get_set, get_bump, next_bump, next_set, next_add, AHeap.get_set, reduceIte, Nat.reduceEqDiff, evL, evParts, fillA, AV.cells, natA, binA, intCmpA, unA, minA, maxA, a0]; rfl) ?_
    refine WO.op (by simp only [xval, xop, AR.ofV, St.ev, Tr.get_set, get_bump, next_bump, next_set, next_add, AHeap.get_set, reduceIte, Nat.reduceEqDiff, evL, evParts, fillA, AV.cells, natA, binA, intCmpA, unA, minA, maxA, a0]; rfl) ?_
    refine WO.nil ⟨rfl, W.block ?_⟩
    refine W.mono (W.loop (FI H n B N K) (fun j => n - j) 0 (Q := fun e s' => (e = .exit 0 ∧ FI H n B N K n s') ∨ (e = .ret ∧ (∃ m, s'.tm.get 4 = some (natA m)) ∧ compl n K = false ∧ H.next ≤ s'.H.next)) ⟨by omega, ?_, ?_, ?_, ?_, fun i hi => by omega, by show H.next ≤ H2.next; omega, fun j => ?_⟩ (by omega) (fun j s h => body83_ok hn hK hB hN j s h)) (fun e s' q => ?_)
    · simp only [Tr.get_set, get_bump, next_bump, next_set, next_add, AHeap.get_set, reduceIte, Nat.reduceEqDiff] <;> assumption
    · simp only [Tr.get_set, get_bump, next_bump, next_set, next_add, AHeap.get_set, reduceIte, Nat.reduceEqDiff] <;> assumption
    · simp only [Tr.get_set, get_bump, next_bump, next_set, next_add, AHeap.get_set, reduceIte, Nat.reduceEqDiff] <;> rfl
    · simp only [Tr.get_set, get_bump, next_bump, next_set, next_add, AHeap.get_set, reduceIte, Nat.reduceEqDiff] <;> rfl
    · show H2.get j = _
      rw [hg2, hg1]
    obtain ⟨tm', H'⟩ := s'
    rcases q with ⟨he, ⟨_, _, _, _, _, all, nx, fr⟩⟩ | ⟨he, ⟨m, hm⟩, hc, nx⟩
    · subst he
      simp only at nx
      refine bX (pN ?_)
      repeat (first | refine W.seq ?_ | refine W.block ?_ | refine W.skip ?_ | refine W.ret ?_ | refine W.exit ?_ | (apply W.reg; · (simp only [List.length_cons, List.length_nil, Nat.reduceAdd]; rfl)) | (apply W.regd0; · (simp only [List.length_cons, List.length_nil, Nat.reduceAdd]; rfl)) | refine WO.nil ?_ | (apply WO.op; · first | exact op_mv (by simp only [St.ev, ↓Tr.get_set, ↓reduceIte, Nat.reduceEqDiff, natA]; rfl) | exact op_bin (by simp only [St.ev, ↓Tr.get_set, ↓reduceIte, Nat.reduceEqDiff, natA]; rfl) (by simp only [St.ev, ↓Tr.get_set, ↓reduceIte, Nat.reduceEqDiff, natA]; rfl) (by simp only [binA, intCmpA, strA, natA]; rfl) | exact op_slen (by simp only [St.ev, ↓Tr.get_set, ↓reduceIte, Nat.reduceEqDiff, natA]; rfl) | exact op_faddr (by simp only [St.ev, ↓Tr.get_set, ↓reduceIte, Nat.reduceEqDiff, natA]; rfl) | exact op_nilc (by simp only [St.ev, ↓Tr.get_set, ↓reduceIte, Nat.reduceEqDiff, natA]; rfl) | exact op_ext (by simp only [St.ev, ↓Tr.get_set, ↓reduceIte, Nat.reduceEqDiff, natA]; rfl) (by rfl) | exact op_pick (by simp only [St.ev, ↓Tr.get_set, ↓reduceIte, Nat.reduceEqDiff, natA]; rfl) (by first | exact .inl ⟨rfl, (by simp only [St.ev, ↓Tr.get_set, ↓reduceIte, Nat.reduceEqDiff, natA]; rfl)⟩ | exact .inr ⟨rfl, (by simp only [St.ev, ↓Tr.get_set, ↓reduceIte, Nat.reduceEqDiff, natA]; rfl)⟩) | exact op_un (by simp only [St.ev, ↓Tr.get_set, ↓reduceIte, Nat.reduceEqDiff, natA]; rfl) (by simp only [unA]; rfl) | (simp only [xval, xop, AR.ofV, St.ev, Tr.get_set, get_bump, next_bump, next_set, next_add, AHeap.get_set, reduceIte, Nat.reduceEqDiff, evL, evParts, fillA, AV.cells, natA, binA, intCmpA, unA, minA, maxA, Nat.add_assoc, Nat.reduceAdd, Nat.add_left_cancel_iff, Nat.add_eq_left, Nat.left_eq_add, loadA, cellsAt, storeA, Option.bind_some, iaddrA, aaddrA]; rfl)) | (apply WO.opn; · (simp only [xval, xop, AR.ofV, St.ev, Tr.get_set, get_bump, next_bump, next_set, next_add, AHeap.get_set, reduceIte, Nat.reduceEqDiff, evL, evParts, fillA, AV.cells, natA, binA, intCmpA, unA, minA, maxA, Nat.add_assoc, Nat.reduceAdd, Nat.add_left_cancel_iff, Nat.add_eq_left, Nat.left_eq_add, loadA, cellsAt, storeA, Option.bind_some, iaddrA, aaddrA]; rfl)) | (apply WO.gop'; (· (simp only [St.ev, ↓Tr.get_set, ↓reduceIte, Nat.reduceEqDiff, natA]; rfl)); (· rfl); (· first | exact op_mv (by simp only [St.ev, ↓Tr.get_set, ↓reduceIte, Nat.reduceEqDiff, natA]; rfl) | exact op_bin (by simp only [St.ev, ↓Tr.get_set, ↓reduceIte, Nat.reduceEqDiff, natA]; rfl) (by simp only [St.ev, ↓Tr.get_set, ↓reduceIte, Nat.reduceEqDiff, natA]; rfl) (by simp only [binA, intCmpA, strA, natA]; rfl) | exact op_slen (by simp only [St.ev, ↓Tr.get_set, ↓reduceIte, Nat.reduceEqDiff, natA]; rfl) | exact op_faddr (by simp only [St.ev, ↓Tr.get_set, ↓reduceIte, Nat.reduceEqDiff, natA]; rfl) | exact op_nilc (by simp only [St.ev, ↓Tr.get_set, ↓reduceIte, Nat.reduceEqDiff, natA]; rfl) | exact op_ext (by simp only [St.ev, ↓Tr.get_set, ↓reduceIte, Nat.reduceEqDiff, natA]; rfl) (by rfl) | exact op_pick (by simp only [St.ev, ↓Tr.get_set, ↓reduceIte, Nat.reduceEqDiff, natA]; rfl) (by first | exact .inl ⟨rfl, (by simp only [St.ev, ↓Tr.get_set, ↓reduceIte, Nat.reduceEqDiff, natA]; rfl)⟩ | exact .inr ⟨rfl, (by simp only [St.ev, ↓Tr.get_set, ↓reduceIte, Nat.reduceEqDiff, natA]; rfl)⟩) | exact op_un (by simp only [St.ev, ↓Tr.get_set, ↓reduceIte, Nat.reduceEqDiff, natA]; rfl) (by simp only [unA]; rfl) | (simp only [xval, xop, AR.ofV, St.ev, Tr.get_set, get_bump, next_bump, next_set, next_add, AHeap.get_set, reduceIte, Nat.reduceEqDiff, evL, evParts, fillA, AV.cells, natA, binA, intCmpA, unA, minA, maxA, Nat.add_assoc, Nat.reduceAdd, Nat.add_left_cancel_iff, Nat.add_eq_left, Nat.left_eq_add, loadA, cellsAt, storeA, Option.bind_some, iaddrA, aaddrA]; rfl))) | (apply WO.gno'; (· (simp only [St.ev, ↓Tr.get_set, ↓reduceIte, Nat.reduceEqDiff, natA]; rfl)); (· rfl)) | refine pN ?_ | refine pR ?_ | refine pX ?_ | refine bN ?_ | refine bR ?_ | refine bX ?_ | refine bO (by decide) ?_ | (apply W.condT'; (· (simp only [St.ev, ↓Tr.get_set, ↓reduceIte, Nat.reduceEqDiff, natA]; rfl)); (· rfl)) | (apply W.condF'; (· (simp only [St.ev, ↓Tr.get_set, ↓reduceIte, Nat.reduceEqDiff, natA]; rfl)); (· rfl)))
      refine ⟨fun id q => (by cases q), _, by simp only [resL, resA, Tr.get_set, get_bump, next_bump, next_set, next_add, AHeap.get_set, reduceIte, Nat.reduceEqDiff]; rfl, ⟨_, rfl, ?_⟩, by simp only [next_bump]; omega⟩
      rw [compl_true all]
      rfl
    · subst he
      simp only at hm nx
      refine bR (pR ?_)
      refine ⟨fun id q => (by cases q), _, by simp only [resL, resA, hm]; rfl, ⟨_, rfl, ?_⟩, nx⟩
      rw [hc]
      simp
  obtain ⟨v, H', h1, ⟨r, rfl, h2⟩, h3⟩ := h
  exact ⟨H', r, h1, h2, h3⟩
theorem x58 {k n : Nat} {H : AHeap} {K : List Nat} (hn : n ≤ 6) (hK : K.length = 6) :
    ∃ H', xcall F 300 (k + 4) 58 [.agg (K.map u8A), natA n] H = some (.bool (compl n K), H') := by
  have h75 : ∀ (B N : Nat) (H : AHeap), H.get B = some (.cells (K.map u8A) none) → H.get N = some (.cells [natA n] none) → ∃ H', xcall F 300 (k + 3) 75 [.sl B 0 n 6, .fn 76 [.ptr N 0]] H = some (.bool (!(compl n K)), H') ∧ H.next ≤ H'.next := by
    intro B N H hB hN
    have h : ∃ v H', xfunc (xcall F 300 (k + 2)) 300 L75 [.sl B 0 n 6, .fn 76 [.ptr N 0]] H = some (v, H') ∧ v = .bool (!(compl n K)) ∧ H.next ≤ H'.next := by
      refine xfunc_of rfl (by show 2 ≤ 9; omega) ?_
      have a0 : (argsT [.sl B 0 n 6, .fn 76 [.ptr N 0]] 0 .e).get 0 = some (.sl B 0 n 6) := rfl
      have a1 : (argsT [.sl B 0 n 6, .fn 76 [.ptr N 0]] 0 .e).get 1 = some (.fn 76 [.ptr N 0]) := rfl
      generalize argsT [.sl B 0 n 6, .fn 76 [.ptr N 0]] 0 .e = tm at a0 a1
      unfold L75
      dsimp only
      refine W.seqN ?_
      refine W.rg 1 rfl (fun H1 hg1 hn1 => ?_)
      refine WO.op (by simp only [xval, xop, AR.ofV, St.ev, Tr.get_set, get_bump, next_bump, next_set, next_add, AHeap.get_set, reduceIte, Nat.reduceEqDiff, evL, evParts, fillA, AV.cells, natA, binA, intCmpA, unA, minA, maxA]; rfl) ?_
      refine WO.nil ⟨rfl, W.seqN ?_⟩
      refine W.rg 5 rfl (fun H2 hg2 hn2 => ?_)
      refine WO.op (by simp only [xval, xop, AR.ofV, St.ev, Tr.get_set, get_bump, next_bump, next_set, next_add, AHeap.get_set, reduceIte, Nat.reduceEqDiff, evL, evParts, fillA, AV.cells, natA, binA, intCmpA, unA, minA, maxA, a0, a1]; rfl) ?_
      refine WO.op (by simp only [xval, xop, AR.ofV, St.ev, Tr.get_set, get_bump, next_bump, next_set, next_add, AHeap.get_set, reduceIte, Nat.reduceEqDiff, evL, evParts, fillA, AV.cells, natA, binA, intCmpA, unA, minA, maxA, a0, a1]; rfl) ?_
      obtain ⟨H3, r, c3, hr, nx3⟩ := x83 (k := k) (H := H2) hn hK (by rw [hg2, hg1]; exact hB) (by rw [hg2, hg1]; exact hN)
      refine WO.op (v := .int .i64 r) (H1 := H3) (op_call (g := 83) (cs := []) (l := [.sl B 0 n 6, .fn 76 [.ptr N 0]]) rfl (by simp only [evL, St.ev, Tr.get_set, get_bump, next_bump, next_set, next_add, AHeap.get_set, reduceIte, Nat.reduceEqDiff, bind, Option.bind_some]) c3) ?_
      have hr' : decide (r ≥ Int.ofNat 0) = !(compl n K) := hr
      refine WO.op (by simp only [xval, xop, AR.ofV, St.ev, Tr.get_set, get_bump, next_bump, next_set, next_add, AHeap.get_set, reduceIte, Nat.reduceEqDiff, evL, evParts, fillA, AV.cells, natA, binA, intCmpA, unA, minA, maxA, hr']; rfl) ?_
      refine WO.op (by simp only [xval, xop, AR.ofV, St.ev, Tr.get_set, get_bump, next_bump, next_set, next_add, AHeap.get_set, reduceIte, Nat.reduceEqDiff, evL, evParts, fillA, AV.cells, natA, binA, intCmpA, unA, minA, maxA]; rfl) ?_
      refine WO.nil ⟨rfl, W.ret ⟨fun id q => (by cases q), _, by simp only [resL, resA, Tr.get_set, get_bump, next_bump, next_set, next_add, AHeap.get_set, reduceIte, Nat.reduceEqDiff]; rfl, rfl, ?_⟩⟩
      show H.next ≤ H3.next
      omega
    obtain ⟨v, H', h1, rfl, h2⟩ := h
    exact ⟨H', h1, h2⟩
  have h : ∃ v H', xfunc (xcall F 300 (k + 3)) 300 L58 [.agg (K.map u8A), natA n] H = some (v, H') ∧ v = .bool (compl n K) := by
    refine xfunc_of rfl (by show 2 ≤ 10; omega) ?_
    have a0 : (argsT [.agg (K.map u8A), natA n] 0 .e).get 0 = some (.agg (K.map u8A)) := rfl
    have a1 : (argsT [.agg (K.map u8A), natA n] 0 .e).get 1 = some (natA n) := rfl
    generalize argsT [.agg (K.map u8A), natA n] 0 .e = tm at a0 a1
    unfold L58
    dsimp only
    refine W.seqN ?_
    refine W.rg 3 rfl (fun H1 hg1 hn1 => ?_)
    refine WO.op (v := .ptr H.next 0) (H1 := H1.set H.next (some (.cells (K.map u8A) none))) (by simp only [xval, xop, AR.ofV, St.ev, Tr.get_set, get_bump, next_bump, next_set, next_add, AHeap.get_set, reduceIte, Nat.reduceEqDiff, evL, evParts, fillA, AV.cells, natA, binA, intCmpA, unA, minA, maxA, a0] <;> rfl) ?_
    refine WO.op (v := .ptr (H.next + 1) 0) (H1 := (H1.set H.next (some (.cells (K.map u8A) none))).set (H.next + 1) (some (.cells [natA n] none))) (by simp only [xval, xop, AR.ofV, St.ev, Tr.get_set, get_bump, next_bump, next_set, next_add, AHeap.get_set, reduceIte, Nat.reduceEqDiff, evL, evParts, fillA, AV.cells, natA, binA, intCmpA, unA, minA, maxA, a1] <;> rfl) ?_
    refine WO.op (by simp only [xval, xop, AR.ofV, St.ev, Tr.get_set, get_bump, next_bump, next_set, next_add, AHeap.get_set, reduceIte, Nat.reduceEqDiff, evL, evParts, fillA, AV.cells, natA, binA, intCmpA, unA, minA, maxA]; rfl) ?_
    refine WO.nil ⟨rfl, ?_⟩
    refine W.named (fun H2 hH2 => ?_)
    have hB : H2.get H.next = some (.cells (K.map u8A) none) := by rw [hH2, AHeap.get_set, if_neg (by omega), AHeap.get_set, if_pos rfl]
    have hN : H2.get (H.next + 1) = some (.cells [natA n] none) := by rw [hH2, AHeap.get_set, if_pos rfl]; rfl
    clear hH2
    refine W.seqN ?_
    refine W.rg 6 rfl (fun H3 hg3 hn3 => ?_)
    refine WO.op (v := natA n) (op_load (a := .ptr (H.next + 1) 0) (by simp only [St.ev, Tr.get_set, get_bump, next_bump, next_set, next_add, AHeap.get_set, reduceIte, Nat.reduceEqDiff]) (by simp only [loadA, cellsAt, hg3, hN] <;> rfl)) ?_
    have hb1 : bndA 6 (natA n) = some n := bndA_nat hn
    refine WO.op (v := .sl H.next 0 n 6) (H1 := H3) (by
      simp only [xval, xop, AR.ofV, St.ev, Tr.get_set, get_bump, next_bump, next_set, next_add, AHeap.get_set, reduceIte, Nat.reduceEqDiff, evL, evParts, fillA, AV.cells, natA, binA, intCmpA, unA, minA, maxA, acutA, bounds, obnd, hiBnd, Option.bind_some]
      rw [show bndA 6 (AV.int .i64 (n : Int)) = some n from hb1, if_neg (by decide)]
      simp) ?_
    refine WO.op (by simp only [xval, xop, AR.ofV, St.ev, Tr.get_set, get_bump, next_bump, next_set, next_add, AHeap.get_set, reduceIte, Nat.reduceEqDiff, evL, evParts, fillA, AV.cells, natA, binA, intCmpA, unA, minA, maxA]; rfl) ?_
    obtain ⟨H4, c4, nx4⟩ := h75 H.next (H.next + 1) H3 (by rw [hg3]; exact hB) (by rw [hg3]; exact hN)
    refine WO.op (v := .bool (!(compl n K))) (H1 := H4) (op_call (g := 75) (cs := []) (l := [.sl H.next 0 n 6, .fn 76 [.ptr (H.next + 1) 0]]) rfl (by simp only [evL, St.ev, Tr.get_set, get_bump, next_bump, next_set, next_add, AHeap.get_set, reduceIte, Nat.reduceEqDiff, bind, Option.bind_some]) c4) ?_
    refine WO.op (v := .bool (compl n K)) (H1 := H4) (op_un (a := .bool (!(compl n K))) (by simp only [St.ev, Tr.get_set, get_bump, next_bump, next_set, next_add, AHeap.get_set, reduceIte, Nat.reduceEqDiff]) (by simp [unA])) ?_
    refine WO.op (by simp only [xval, xop, AR.ofV, St.ev, Tr.get_set, get_bump, next_bump, next_set, next_add, AHeap.get_set, reduceIte, Nat.reduceEqDiff, evL, evParts, fillA, AV.cells, natA, binA, intCmpA, unA, minA, maxA]; rfl) ?_
    refine WO.nil ⟨rfl, W.ret ⟨fun id q => (by cases q), _, by simp only [resL, resA, Tr.get_set, get_bump, next_bump, next_set, next_add, AHeap.get_set, reduceIte, Nat.reduceEqDiff]; rfl, rfl⟩⟩
  obtain ⟨v, H', h1, rfl⟩ := h
  exact ⟨H', h1⟩
end Go.Proofs.Ytpbighinamljbaa.PA
