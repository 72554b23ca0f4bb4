/- news.Knows, over the abstract machine: the lists of items. No condition. -/
import Derived.Test.YtpbighinamljbaaKnow1
set_option linter.unusedSimpArgs false
set_option linter.unusedVariables false
namespace Go.Proofs.Ytpbighinamljbaa.PA
open Go Go.Eng Go.Proofs
theorem tabBit : ((List.range 64).all fun m => (List.range 6).all fun i => (match binA .shr (u8A m) (natA i) with
    | some y => AV.beq y (u8A (m >>> i)) && (match binA .and y (.int .u8 (.ofNat 1)) with
      | some z => AV.beq z (u8A (if m.testBit i then 1 else 0)) && (match binA .eql z (.int .u8 (.ofNat 1)) with
        | some b => AV.beq b (.bool (m.testBit i))
        | none => false)
      | none => false)
    | none => false)) = true := by kernel_rfl
theorem bit_ops {m i : Nat} (hm : m < 64) (hi : i < 6) : binA .shr (u8A m) (natA i) = some (u8A (m >>> i)) ∧ binA .and (u8A (m >>> i)) (.int .u8 (.ofNat 1)) = some (u8A (if m.testBit i then 1 else 0)) ∧ binA .eql (u8A (if m.testBit i then 1 else 0)) (.int .u8 (.ofNat 1)) = some (.bool (m.testBit i)) := by
  have h := tabBit
  rw [List.all_eq_true] at h
  have h1 := h m (List.mem_range.2 hm)
  rw [List.all_eq_true] at h1
  have h2 := h1 i (List.mem_range.2 hi)
  split at h2
  · rename_i y hy
    rw [Bool.and_eq_true] at h2
    have e1 := AV.beq_sound h2.1
    subst e1
    have h3 := h2.2
    split at h3
    · rename_i z hz
      rw [Bool.and_eq_true] at h3
      have e2 := AV.beq_sound h3.1
      subst e2
      have h4 := h3.2
      split at h4
      · rename_i b hb
        have e3 := AV.beq_sound h4
        subst e3
        exact ⟨hy, hz, hb⟩
      · cases h4
    · cases h3
  · cases h2
theorem memb_succ (j m : Nat) : memb (j + 1) m = memb j m ++ (if m.testBit j then [j] else []) := by
  unfold memb
  rw [List.range_succ, List.filter_append]
  simp [List.filter_cons]
/-- What the loop over one person's items keeps. -/
structure II (H0 : AHeap) (tm0 : Tr AV) (n m : Nat) (j : Nat) (s : St) : Prop where
  le : j ≤ n
  t40 : s.tm.get 40 = some (natA n)
  t41 : s.tm.get 41 = some (natA j)
  t12 : s.tm.get 12 = some (u8A m)
  row : ∃ v, s.tm.get 13 = some v ∧ Row 1 s.H v (memb j m).length ((memb j m).map natA) ∧ (∀ o, v.own = some o → H0.next ≤ o)
  k0 : s.tm.get 0 = tm0.get 0
  k10 : s.tm.get 10 = tm0.get 10
  k34 : s.tm.get 34 = tm0.get 34
  k35 : s.tm.get 35 = tm0.get 35
  k36 : s.tm.get 36 = tm0.get 36
  nx : H0.next ≤ s.H.next
  fr : ∀ j, j < H0.next → s.H.get j = H0.get j
def outer38 : XCode := match L38.code with
  | .seq _ (.seq _ (.seq _ (.seq _ (.seq _ (.seq (.seq _ (.block _ (.loop c))) _))))) => c
  | _ => .skip
def inner38 : XCode := match outer38 with
  | .seq _ (.seq _ (.seq (.block _ (.seq _ (.seq _ (.seq (.seq _ (.block _ (.loop c))) _)))) _)) => c
  | _ => .skip
theorem memb_le (j m : Nat) : (memb j m).length ≤ j := by
  unfold memb
  have := List.length_filter_le (fun i => m.testBit i) (List.range j)
  simpa using this
set_option maxHeartbeats 4000000 in
theorem inner38_ok {cf : CF} {fuel n m : Nat} {H0 : AHeap} {tm0 : Tr AV} (hn : n ≤ 6) (hm : m < 64) (j : Nat) (s : St) (h : II H0 tm0 n m j s) :
    W cf fuel inner38 s fun e s' => (e = .normal → ∃ i, II H0 tm0 n m i s' ∧ n - i < n - j) ∧ (e ≠ .normal → e = .exit 4 ∧ II H0 tm0 n m n s') := by
  obtain ⟨le, t40, t41, t12, ⟨v, t13, R, ho⟩, k0, k10, k34, k35, k36, nx, fr⟩ := h
  obtain ⟨tm, H⟩ := s
  simp only at t40 t41 t12 t13 R k0 k10 k34 k35 k36 nx fr
  unfold inner38 outer38 L38
  dsimp only
  by_cases hj : j < n
  · have hd : decide ((j : Int) < (n : Int)) = true := by simpa using hj
    have hw : wrapA .i64 ((j : Int) + Int.ofNat 1) = ((j + 1 : Nat) : Int) := by
      show wrapA .i64 ((j : Int) + 1) = _
      rw [wrapI _ (by omega) (by omega)]; rfl
    obtain ⟨b1, b2, b3⟩ := bit_ops hm (show j < 6 by omega)
    have hlen := memb_le j m
    refine W.seqN ?_
    refine W.rg 1 rfl (fun H1 hg1 hn1 => ?_)
    refine WO.op (by simp only [xval, xop, AR.ofV, St.ev, Tr.get_set, get_bump, next_bump, next_set, next_add, AHeap.get_set, reduceIte, Nat.reduceEqDiff, evL, evParts, fillA, AV.cells, natA, binA, intCmpA, unA, minA, maxA, t41, t40, hd]; rfl) ?_
    refine WO.nil ⟨rfl, W.seqN (W.condT (by simp only [St.ev, Tr.get_set, get_bump, next_bump, next_set, next_add, AHeap.get_set, reduceIte, Nat.reduceEqDiff] <;> rfl) (W.skip ⟨rfl, ?_⟩))⟩
    refine W.seq (W.block (W.seqN ?_))
    refine W.rg 2 rfl (fun H2 hg2 hn2 => ?_)
    refine WO.op (by simp only [xval, xop, AR.ofV, St.ev, Tr.get_set, get_bump, next_bump, next_set, next_add, AHeap.get_set, reduceIte, Nat.reduceEqDiff, evL, evParts, fillA, AV.cells, natA, binA, intCmpA, unA, minA, maxA, t41]; rfl) ?_
    refine WO.op (by simp only [xval, xop, AR.ofV, St.ev, Tr.get_set, get_bump, next_bump, next_set, next_add, AHeap.get_set, reduceIte, Nat.reduceEqDiff, evL, evParts, fillA, AV.cells, natA, binA, intCmpA, unA, minA, maxA, t41]; rfl) ?_
    refine WO.nil ⟨rfl, W.seqN ?_⟩
    refine W.rg 5 rfl (fun H3 hg3 hn3 => ?_)
    refine WO.op (op_mv (v := u8A m) (by simp only [St.ev, Tr.get_set, get_bump, next_bump, next_set, next_add, AHeap.get_set, reduceIte, Nat.reduceEqDiff, t12])) ?_
    refine WO.op (op_mv (v := natA j) (by simp only [St.ev, Tr.get_set, get_bump, next_bump, next_set, next_add, AHeap.get_set, reduceIte, Nat.reduceEqDiff] <;> rfl)) ?_
    refine WO.op (op_bin (a := u8A m) (b := natA j) (by simp only [St.ev, Tr.get_set, get_bump, next_bump, next_set, next_add, AHeap.get_set, reduceIte, Nat.reduceEqDiff]) (by simp only [St.ev, Tr.get_set, get_bump, next_bump, next_set, next_add, AHeap.get_set, reduceIte, Nat.reduceEqDiff]) b1) ?_
    refine WO.op (op_bin (a := u8A (m >>> j)) (b := .int .u8 (.ofNat 1)) (by simp only [St.ev, Tr.get_set, get_bump, next_bump, next_set, next_add, AHeap.get_set, reduceIte, Nat.reduceEqDiff]) rfl b2) ?_
    refine WO.op (op_bin (a := u8A (if m.testBit j then 1 else 0)) (b := .int .u8 (.ofNat 1)) (by simp only [St.ev, Tr.get_set, get_bump, next_bump, next_set, next_add, AHeap.get_set, reduceIte, Nat.reduceEqDiff]) rfl b3) ?_
    refine WO.nil ⟨rfl, ?_⟩
    have R3 : Row 1 H3 v (memb j m).length ((memb j m).map natA) := R.frame (by omega) (fun o _ => by rw [hg3, hg2, hg1])
    have own3 : ∀ o, v.own = some o → o < H.next := fun o q => R.own_lt q
    cases hb : m.testBit j with
    | true =>
      have ems : memb (j + 1) m = memb j m ++ [j] := by rw [memb_succ, hb]; rfl
      refine W.condT (by simp only [St.ev, Tr.get_set, get_bump, next_bump, next_set, next_add, AHeap.get_set, reduceIte, Nat.reduceEqDiff, hb]) ?_
      refine W.rg 5 rfl (fun H5 hg5 hn5 => ?_)
      refine WO.op (by simp only [xval, xop, AR.ofV, St.ev, Tr.get_set, get_bump, next_bump, next_set, next_add, AHeap.get_set, reduceIte, Nat.reduceEqDiff, evL, evParts, fillA, AV.cells, natA, binA, intCmpA, unA, minA, maxA, t13]; rfl) ?_
      refine WO.op (by simp only [xval, xop, AR.ofV, St.ev, Tr.get_set, get_bump, next_bump, next_set, next_add, AHeap.get_set, reduceIte, Nat.reduceEqDiff, evL, evParts, fillA, AV.cells, natA, binA, intCmpA, unA, minA, maxA, t13]; rfl) ?_
      refine WO.append1 (n := H3.next + 1 + 1) (l := (memb j m).length) (cs := (memb j m).map natA) (new := [natA j]) (v := v) (R3.frame (by omega) (fun o _ => hg5 o)) (by simp only [St.ev, Tr.get_set, get_bump, next_bump, next_set, next_add, AHeap.get_set, reduceIte, Nat.reduceEqDiff, t13]) (by simp only [xval, xop, AR.ofV, St.ev, Tr.get_set, get_bump, next_bump, next_set, next_add, AHeap.get_set, reduceIte, Nat.reduceEqDiff, evL, evParts, fillA, AV.cells, natA, binA, intCmpA, unA, minA, maxA]; rfl) (by omega) (by omega) (by omega) rfl rfl (by omega) (fun q => by have := own3 _ q; omega) (fun v' H6 R6 hn6 hg6 ho6 => ?_)
      refine WO.op (by simp only [xval, xop, AR.ofV, St.ev, Tr.get_set, get_bump, next_bump, next_set, next_add, AHeap.get_set, reduceIte, Nat.reduceEqDiff, evL, evParts, fillA, AV.cells, natA, binA, intCmpA, unA, minA, maxA]; rfl) ?_
      refine WO.nil (bN (pN ?_))
      repeat (first | refine W.seq ?_ | refine W.block ?_ | refine W.skip ?_ | refine W.ret ?_ | refine W.exit ?_ | (apply W.reg; · (simp only [List.length_cons, List.length_nil, Nat.reduceAdd]; rfl)) | (apply W.regd0; · (simp only [List.length_cons, List.length_nil, Nat.reduceAdd]; rfl)) | refine WO.nil ?_ | (apply WO.op; · first | exact op_mv (by simp only [St.ev, ↓Tr.get_set, ↓reduceIte, Nat.reduceEqDiff, natA, t41, hw]; rfl) | exact op_bin (by simp only [St.ev, ↓Tr.get_set, ↓reduceIte, Nat.reduceEqDiff, natA, t41, hw]; rfl) (by simp only [St.ev, ↓Tr.get_set, ↓reduceIte, Nat.reduceEqDiff, natA, t41, hw]; rfl) (by simp only [binA, intCmpA, strA, natA, t41, hw]; rfl) | exact op_slen (by simp only [St.ev, ↓Tr.get_set, ↓reduceIte, Nat.reduceEqDiff, natA, t41, hw]; rfl) | exact op_faddr (by simp only [St.ev, ↓Tr.get_set, ↓reduceIte, Nat.reduceEqDiff, natA, t41, hw]; rfl) | exact op_nilc (by simp only [St.ev, ↓Tr.get_set, ↓reduceIte, Nat.reduceEqDiff, natA, t41, hw]; rfl) | exact op_ext (by simp only [St.ev, ↓Tr.get_set, ↓reduceIte, Nat.reduceEqDiff, natA, t41, hw]; rfl) (by rfl) | exact op_pick (by simp only [St.ev, ↓Tr.get_set, ↓reduceIte, Nat.reduceEqDiff, natA, t41, hw]; rfl) (by first | exact .inl ⟨rfl, (by simp only [St.ev, ↓Tr.get_set, ↓reduceIte, Nat.reduceEqDiff, natA, t41, hw]; rfl)⟩ | exact .inr ⟨rfl, (by simp only [St.ev, ↓Tr.get_set, ↓reduceIte, Nat.reduceEqDiff, natA, t41, hw]; rfl)⟩) | exact op_un (by simp only [St.ev, ↓Tr.get_set, ↓reduceIte, Nat.reduceEqDiff, natA, t41, hw]; rfl) (by simp only [unA, t41, hw]; rfl) | (simp only [xval, xop, AR.ofV, St.ev, Tr.get_set, get_bump, next_bump, next_set, next_add, AHeap.get_set, reduceIte, Nat.reduceEqDiff, evL, evParts, fillA, AV.cells, natA, binA, intCmpA, unA, minA, maxA, Nat.add_assoc, Nat.reduceAdd, Nat.add_left_cancel_iff, Nat.add_eq_left, Nat.left_eq_add, loadA, cellsAt, storeA, Option.bind_some, iaddrA, aaddrA, t41, hw]; rfl)) | (apply WO.opn; · (simp only [xval, xop, AR.ofV, St.ev, Tr.get_set, get_bump, next_bump, next_set, next_add, AHeap.get_set, reduceIte, Nat.reduceEqDiff, evL, evParts, fillA, AV.cells, natA, binA, intCmpA, unA, minA, maxA, Nat.add_assoc, Nat.reduceAdd, Nat.add_left_cancel_iff, Nat.add_eq_left, Nat.left_eq_add, loadA, cellsAt, storeA, Option.bind_some, iaddrA, aaddrA, t41, hw]; rfl)) | (apply WO.gop'; (· (simp only [St.ev, ↓Tr.get_set, ↓reduceIte, Nat.reduceEqDiff, natA, t41, hw]; rfl)); (· rfl); (· first | exact op_mv (by simp only [St.ev, ↓Tr.get_set, ↓reduceIte, Nat.reduceEqDiff, natA, t41, hw]; rfl) | exact op_bin (by simp only [St.ev, ↓Tr.get_set, ↓reduceIte, Nat.reduceEqDiff, natA, t41, hw]; rfl) (by simp only [St.ev, ↓Tr.get_set, ↓reduceIte, Nat.reduceEqDiff, natA, t41, hw]; rfl) (by simp only [binA, intCmpA, strA, natA, t41, hw]; rfl) | exact op_slen (by simp only [St.ev, ↓Tr.get_set, ↓reduceIte, Nat.reduceEqDiff, natA, t41, hw]; rfl) | exact op_faddr (by simp only [St.ev, ↓Tr.get_set, ↓reduceIte, Nat.reduceEqDiff, natA, t41, hw]; rfl) | exact op_nilc (by simp only [St.ev, ↓Tr.get_set, ↓reduceIte, Nat.reduceEqDiff, natA, t41, hw]; rfl) | exact op_ext (by simp only [St.ev, ↓Tr.get_set, ↓reduceIte, Nat.reduceEqDiff, natA, t41, hw]; rfl) (by rfl) | exact op_pick (by simp only [St.ev, ↓Tr.get_set, ↓reduceIte, Nat.reduceEqDiff, natA, t41, hw]; rfl) (by first | exact .inl ⟨rfl, (by simp only [St.ev, ↓Tr.get_set, ↓reduceIte, Nat.reduceEqDiff, natA, t41, hw]; rfl)⟩ | exact .inr ⟨rfl, (by simp only [St.ev, ↓Tr.get_set, ↓reduceIte, Nat.reduceEqDiff, natA, t41, hw]; rfl)⟩) | exact op_un (by simp only [St.ev, ↓Tr.get_set, ↓reduceIte, Nat.reduceEqDiff, natA, t41, hw]; rfl) (by simp only [unA, t41, hw]; rfl) | (simp only [xval, xop, AR.ofV, St.ev, Tr.get_set, get_bump, next_bump, next_set, next_add, AHeap.get_set, reduceIte, Nat.reduceEqDiff, evL, evParts, fillA, AV.cells, natA, binA, intCmpA, unA, minA, maxA, Nat.add_assoc, Nat.reduceAdd, Nat.add_left_cancel_iff, Nat.add_eq_left, Nat.left_eq_add, loadA, cellsAt, storeA, Option.bind_some, iaddrA, aaddrA, t41, hw]; rfl))) | (apply WO.gno'; (· (simp only [St.ev, ↓Tr.get_set, ↓reduceIte, Nat.reduceEqDiff, natA, t41, hw]; rfl)); (· rfl)) | refine pN ?_ | refine pR ?_ | refine pX ?_ | refine bN ?_ | refine bR ?_ | refine bX ?_ | refine bO (by decide) ?_ | (apply W.condT'; (· (simp only [St.ev, ↓Tr.get_set, ↓reduceIte, Nat.reduceEqDiff, natA, t41, hw]; rfl)); (· rfl)) | (apply W.condF'; (· (simp only [St.ev, ↓Tr.get_set, ↓reduceIte, Nat.reduceEqDiff, natA, t41, hw]; rfl)); (· rfl)))
      refine ⟨j + 1, ⟨by omega, ?_, ?_, ?_, ⟨v', ?_, by rw [ems, List.length_append, List.map_append]; exact R6.frame (by simp only [next_bump]; omega) (fun _ _ => rfl), fun o q => ?_⟩, ?_, ?_, ?_, ?_, ?_, by simp only [next_bump]; omega, fun o q => ?_⟩, by omega⟩
      · simp only [Tr.get_set, get_bump, next_bump, next_set, next_add, AHeap.get_set, reduceIte, Nat.reduceEqDiff] <;> assumption
      · simp only [Tr.get_set, get_bump, next_bump, next_set, next_add, AHeap.get_set, reduceIte, Nat.reduceEqDiff] <;> rfl
      · simp only [Tr.get_set, get_bump, next_bump, next_set, next_add, AHeap.get_set, reduceIte, Nat.reduceEqDiff] <;> assumption
      · simp only [Tr.get_set, get_bump, next_bump, next_set, next_add, AHeap.get_set, reduceIte, Nat.reduceEqDiff]
      · rcases ho6 o q with p | p
        · exact ho o p
        · omega
      · simp only [Tr.get_set, get_bump, next_bump, next_set, next_add, AHeap.get_set, reduceIte, Nat.reduceEqDiff] <;> assumption
      · simp only [Tr.get_set, get_bump, next_bump, next_set, next_add, AHeap.get_set, reduceIte, Nat.reduceEqDiff] <;> assumption
      · simp only [Tr.get_set, get_bump, next_bump, next_set, next_add, AHeap.get_set, reduceIte, Nat.reduceEqDiff] <;> assumption
      · simp only [Tr.get_set, get_bump, next_bump, next_set, next_add, AHeap.get_set, reduceIte, Nat.reduceEqDiff] <;> assumption
      · simp only [Tr.get_set, get_bump, next_bump, next_set, next_add, AHeap.get_set, reduceIte, Nat.reduceEqDiff] <;> assumption
      · show H6.get o = _
        rw [hg6 o (by omega) (by omega) (fun p => by have := ho o p; omega), hg5, hg3, hg2, hg1]
        exact fr o q
    | false =>
      have ems : memb (j + 1) m = memb j m := by rw [memb_succ, hb]; simp
      refine W.condF (by simp only [St.ev, Tr.get_set, get_bump, next_bump, next_set, next_add, AHeap.get_set, reduceIte, Nat.reduceEqDiff, hb]) ?_
      repeat (first | refine W.seq ?_ | refine W.block ?_ | refine W.skip ?_ | refine W.ret ?_ | refine W.exit ?_ | (apply W.reg; · (simp only [List.length_cons, List.length_nil, Nat.reduceAdd]; rfl)) | (apply W.regd0; · (simp only [List.length_cons, List.length_nil, Nat.reduceAdd]; rfl)) | refine WO.nil ?_ | (apply WO.op; · first | exact op_mv (by simp only [St.ev, ↓Tr.get_set, ↓reduceIte, Nat.reduceEqDiff, natA, t41, hw]; rfl) | exact op_bin (by simp only [St.ev, ↓Tr.get_set, ↓reduceIte, Nat.reduceEqDiff, natA, t41, hw]; rfl) (by simp only [St.ev, ↓Tr.get_set, ↓reduceIte, Nat.reduceEqDiff, natA, t41, hw]; rfl) (by simp only [binA, intCmpA, strA, natA, t41, hw]; rfl) | exact op_slen (by simp only [St.ev, ↓Tr.get_set, ↓reduceIte, Nat.reduceEqDiff, natA, t41, hw]; rfl) | exact op_faddr (by simp only [St.ev, ↓Tr.get_set, ↓reduceIte, Nat.reduceEqDiff, natA, t41, hw]; rfl) | exact op_nilc (by simp only [St.ev, ↓Tr.get_set, ↓reduceIte, Nat.reduceEqDiff, natA, t41, hw]; rfl) | exact op_ext (by simp only [St.ev, ↓Tr.get_set, ↓reduceIte, Nat.reduceEqDiff, natA, t41, hw]; rfl) (by rfl) | exact op_pick (by simp only [St.ev, ↓Tr.get_set, ↓reduceIte, Nat.reduceEqDiff, natA, t41, hw]; rfl) (by first | exact .inl ⟨rfl, (by simp only [St.ev, ↓Tr.get_set, ↓reduceIte, Nat.reduceEqDiff, natA, t41, hw]; rfl)⟩ | exact .inr ⟨rfl, (by simp only [St.ev, ↓Tr.get_set, ↓reduceIte, Nat.reduceEqDiff, natA, t41, hw]; rfl)⟩) | exact op_un (by simp only [St.ev, ↓Tr.get_set, ↓reduceIte, Nat.reduceEqDiff, natA, t41, hw]; rfl) (by simp only [unA, t41, hw]; rfl) | (simp only [xval, xop, AR.ofV, St.ev, Tr.get_set, get_bump, next_bump, next_set, next_add, AHeap.get_set, reduceIte, Nat.reduceEqDiff, evL, evParts, fillA, AV.cells, natA, binA, intCmpA, unA, minA, maxA, Nat.add_assoc, Nat.reduceAdd, Nat.add_left_cancel_iff, Nat.add_eq_left, Nat.left_eq_add, loadA, cellsAt, storeA, Option.bind_some, iaddrA, aaddrA, t41, hw]; rfl)) | (apply WO.opn; · (simp only [xval, xop, AR.ofV, St.ev, Tr.get_set, get_bump, next_bump, next_set, next_add, AHeap.get_set, reduceIte, Nat.reduceEqDiff, evL, evParts, fillA, AV.cells, natA, binA, intCmpA, unA, minA, maxA, Nat.add_assoc, Nat.reduceAdd, Nat.add_left_cancel_iff, Nat.add_eq_left, Nat.left_eq_add, loadA, cellsAt, storeA, Option.bind_some, iaddrA, aaddrA, t41, hw]; rfl)) | (apply WO.gop'; (· (simp only [St.ev, ↓Tr.get_set, ↓reduceIte, Nat.reduceEqDiff, natA, t41, hw]; rfl)); (· rfl); (· first | exact op_mv (by simp only [St.ev, ↓Tr.get_set, ↓reduceIte, Nat.reduceEqDiff, natA, t41, hw]; rfl) | exact op_bin (by simp only [St.ev, ↓Tr.get_set, ↓reduceIte, Nat.reduceEqDiff, natA, t41, hw]; rfl) (by simp only [St.ev, ↓Tr.get_set, ↓reduceIte, Nat.reduceEqDiff, natA, t41, hw]; rfl) (by simp only [binA, intCmpA, strA, natA, t41, hw]; rfl) | exact op_slen (by simp only [St.ev, ↓Tr.get_set, ↓reduceIte, Nat.reduceEqDiff, natA, t41, hw]; rfl) | exact op_faddr (by simp only [St.ev, ↓Tr.get_set, ↓reduceIte, Nat.reduceEqDiff, natA, t41, hw]; rfl) | exact op_nilc (by simp only [St.ev, ↓Tr.get_set, ↓reduceIte, Nat.reduceEqDiff, natA, t41, hw]; rfl) | exact op_ext (by simp only [St.ev, ↓Tr.get_set, ↓reduceIte, Nat.reduceEqDiff, natA, t41, hw]; rfl) (by rfl) | exact op_pick (by simp only [St.ev, ↓Tr.get_set, ↓reduceIte, Nat.reduceEqDiff, natA, t41, hw]; rfl) (by first | exact .inl ⟨rfl, (by simp only [St.ev, ↓Tr.get_set, ↓reduceIte, Nat.reduceEqDiff, natA, t41, hw]; rfl)⟩ | exact .inr ⟨rfl, (by simp only [St.ev, ↓Tr.get_set, ↓reduceIte, Nat.reduceEqDiff, natA, t41, hw]; rfl)⟩) | exact op_un (by simp only [St.ev, ↓Tr.get_set, ↓reduceIte, Nat.reduceEqDiff, natA, t41, hw]; rfl) (by simp only [unA, t41, hw]; rfl) | (simp only [xval, xop, AR.ofV, St.ev, Tr.get_set, get_bump, next_bump, next_set, next_add, AHeap.get_set, reduceIte, Nat.reduceEqDiff, evL, evParts, fillA, AV.cells, natA, binA, intCmpA, unA, minA, maxA, Nat.add_assoc, Nat.reduceAdd, Nat.add_left_cancel_iff, Nat.add_eq_left, Nat.left_eq_add, loadA, cellsAt, storeA, Option.bind_some, iaddrA, aaddrA, t41, hw]; rfl))) | (apply WO.gno'; (· (simp only [St.ev, ↓Tr.get_set, ↓reduceIte, Nat.reduceEqDiff, natA, t41, hw]; rfl)); (· rfl)) | refine pN ?_ | refine pR ?_ | refine pX ?_ | refine bN ?_ | refine bR ?_ | refine bX ?_ | refine bO (by decide) ?_ | (apply W.condT'; (· (simp only [St.ev, ↓Tr.get_set, ↓reduceIte, Nat.reduceEqDiff, natA, t41, hw]; rfl)); (· rfl)) | (apply W.condF'; (· (simp only [St.ev, ↓Tr.get_set, ↓reduceIte, Nat.reduceEqDiff, natA, t41, hw]; rfl)); (· rfl)))
      refine ⟨j + 1, ⟨by omega, ?_, ?_, ?_, ⟨v, ?_, by rw [ems]; exact R3.frame (by simp only [next_bump]; omega) (fun _ _ => rfl), ho⟩, ?_, ?_, ?_, ?_, ?_, by simp only [next_bump]; omega, fun o q => ?_⟩, by omega⟩
      · simp only [Tr.get_set, get_bump, next_bump, next_set, next_add, AHeap.get_set, reduceIte, Nat.reduceEqDiff] <;> assumption
      · simp only [Tr.get_set, get_bump, next_bump, next_set, next_add, AHeap.get_set, reduceIte, Nat.reduceEqDiff] <;> rfl
      · simp only [Tr.get_set, get_bump, next_bump, next_set, next_add, AHeap.get_set, reduceIte, Nat.reduceEqDiff] <;> assumption
      · simp only [Tr.get_set, get_bump, next_bump, next_set, next_add, AHeap.get_set, reduceIte, Nat.reduceEqDiff] <;> assumption
      · simp only [Tr.get_set, get_bump, next_bump, next_set, next_add, AHeap.get_set, reduceIte, Nat.reduceEqDiff] <;> assumption
      · simp only [Tr.get_set, get_bump, next_bump, next_set, next_add, AHeap.get_set, reduceIte, Nat.reduceEqDiff] <;> assumption
      · simp only [Tr.get_set, get_bump, next_bump, next_set, next_add, AHeap.get_set, reduceIte, Nat.reduceEqDiff] <;> assumption
      · simp only [Tr.get_set, get_bump, next_bump, next_set, next_add, AHeap.get_set, reduceIte, Nat.reduceEqDiff] <;> assumption
      · simp only [Tr.get_set, get_bump, next_bump, next_set, next_add, AHeap.get_set, reduceIte, Nat.reduceEqDiff] <;> assumption
      · show H3.get o = _
        rw [hg3, hg2, hg1]
        exact fr o q
  · have hjn : j = n := by omega
    have hd : decide ((j : Int) < (n : Int)) = false := by simp; omega
    repeat (first | refine W.seq ?_ | refine W.block ?_ | refine W.skip ?_ | refine W.ret ?_ | refine W.exit ?_ | (apply W.reg; · (simp only [List.length_cons, List.length_nil, Nat.reduceAdd]; rfl)) | (apply W.regd0; · (simp only [List.length_cons, List.length_nil, Nat.reduceAdd]; rfl)) | refine WO.nil ?_ | (apply WO.op; · first | exact op_mv (by simp only [St.ev, ↓Tr.get_set, ↓reduceIte, Nat.reduceEqDiff, natA, t41, t40, hd]; rfl) | exact op_bin (by simp only [St.ev, ↓Tr.get_set, ↓reduceIte, Nat.reduceEqDiff, natA, t41, t40, hd]; rfl) (by simp only [St.ev, ↓Tr.get_set, ↓reduceIte, Nat.reduceEqDiff, natA, t41, t40, hd]; rfl) (by simp only [binA, intCmpA, strA, natA, t41, t40, hd]; rfl) | exact op_slen (by simp only [St.ev, ↓Tr.get_set, ↓reduceIte, Nat.reduceEqDiff, natA, t41, t40, hd]; rfl) | exact op_faddr (by simp only [St.ev, ↓Tr.get_set, ↓reduceIte, Nat.reduceEqDiff, natA, t41, t40, hd]; rfl) | exact op_nilc (by simp only [St.ev, ↓Tr.get_set, ↓reduceIte, Nat.reduceEqDiff, natA, t41, t40, hd]; rfl) | exact op_ext (by simp only [St.ev, ↓Tr.get_set, ↓reduceIte, Nat.reduceEqDiff, natA, t41, t40, hd]; rfl) (by rfl) | exact op_pick (by simp only [St.ev, ↓Tr.get_set, ↓reduceIte, Nat.reduceEqDiff, natA, t41, t40, hd]; rfl) (by first | exact .inl ⟨rfl, (by simp only [St.ev, ↓Tr.get_set, ↓reduceIte, Nat.reduceEqDiff, natA, t41, t40, hd]; rfl)⟩ | exact .inr ⟨rfl, (by simp only [St.ev, ↓Tr.get_set, ↓reduceIte, Nat.reduceEqDiff, natA, t41, t40, hd]; rfl)⟩) | exact op_un (by simp only [St.ev, ↓Tr.get_set, ↓reduceIte, Nat.reduceEqDiff, natA, t41, t40, hd]; rfl) (by simp only [unA, t41, t40, hd]; rfl) | (simp only [xval, xop, AR.ofV, St.ev, Tr.get_set, get_bump, next_bump, next_set, next_add, AHeap.get_set, reduceIte, Nat.reduceEqDiff, evL, evParts, fillA, AV.cells, natA, binA, intCmpA, unA, minA, maxA, Nat.add_assoc, Nat.reduceAdd, Nat.add_left_cancel_iff, Nat.add_eq_left, Nat.left_eq_add, loadA, cellsAt, storeA, Option.bind_some, iaddrA, aaddrA, t41, t40, hd]; rfl)) | (apply WO.opn; · (simp only [xval, xop, AR.ofV, St.ev, Tr.get_set, get_bump, next_bump, next_set, next_add, AHeap.get_set, reduceIte, Nat.reduceEqDiff, evL, evParts, fillA, AV.cells, natA, binA, intCmpA, unA, minA, maxA, Nat.add_assoc, Nat.reduceAdd, Nat.add_left_cancel_iff, Nat.add_eq_left, Nat.left_eq_add, loadA, cellsAt, storeA, Option.bind_some, iaddrA, aaddrA, t41, t40, hd]; rfl)) | (apply WO.gop'; (· (simp only [St.ev, ↓Tr.get_set, ↓reduceIte, Nat.reduceEqDiff, natA, t41, t40, hd]; rfl)); (· rfl); (· first | exact op_mv (by simp only [St.ev, ↓Tr.get_set, ↓reduceIte, Nat.reduceEqDiff, natA, t41, t40, hd]; rfl) | exact op_bin (by simp only [St.ev, ↓Tr.get_set, ↓reduceIte, Nat.reduceEqDiff, natA, t41, t40, hd]; rfl) (by simp only [St.ev, ↓Tr.get_set, ↓reduceIte, Nat.reduceEqDiff, natA, t41, t40, hd]; rfl) (by simp only [binA, intCmpA, strA, natA, t41, t40, hd]; rfl) | exact op_slen (by simp only [St.ev, ↓Tr.get_set, ↓reduceIte, Nat.reduceEqDiff, natA, t41, t40, hd]; rfl) | exact op_faddr (by simp only [St.ev, ↓Tr.get_set, ↓reduceIte, Nat.reduceEqDiff, natA, t41, t40, hd]; rfl) | exact op_nilc (by simp only [St.ev, ↓Tr.get_set, ↓reduceIte, Nat.reduceEqDiff, natA, t41, t40, hd]; rfl) | exact op_ext (by simp only [St.ev, ↓Tr.get_set, ↓reduceIte, Nat.reduceEqDiff, natA, t41, t40, hd]; rfl) (by rfl) | exact op_pick (by simp only [St.ev, ↓Tr.get_set, ↓reduceIte, Nat.reduceEqDiff, natA, t41, t40, hd]; rfl) (by first | exact .inl ⟨rfl, (by simp only [St.ev, ↓Tr.get_set, ↓reduceIte, Nat.reduceEqDiff, natA, t41, t40, hd]; rfl)⟩ | exact .inr ⟨rfl, (by simp only [St.ev, ↓Tr.get_set, ↓reduceIte, Nat.reduceEqDiff, natA, t41, t40, hd]; rfl)⟩) | exact op_un (by simp only [St.ev, ↓Tr.get_set, ↓reduceIte, Nat.reduceEqDiff, natA, t41, t40, hd]; rfl) (by simp only [unA, t41, t40, hd]; rfl) | (simp only [xval, xop, AR.ofV, St.ev, Tr.get_set, get_bump, next_bump, next_set, next_add, AHeap.get_set, reduceIte, Nat.reduceEqDiff, evL, evParts, fillA, AV.cells, natA, binA, intCmpA, unA, minA, maxA, Nat.add_assoc, Nat.reduceAdd, Nat.add_left_cancel_iff, Nat.add_eq_left, Nat.left_eq_add, loadA, cellsAt, storeA, Option.bind_some, iaddrA, aaddrA, t41, t40, hd]; rfl))) | (apply WO.gno'; (· (simp only [St.ev, ↓Tr.get_set, ↓reduceIte, Nat.reduceEqDiff, natA, t41, t40, hd]; rfl)); (· rfl)) | refine pN ?_ | refine pR ?_ | refine pX ?_ | refine bN ?_ | refine bR ?_ | refine bX ?_ | refine bO (by decide) ?_ | (apply W.condT'; (· (simp only [St.ev, ↓Tr.get_set, ↓reduceIte, Nat.reduceEqDiff, natA, t41, t40, hd]; rfl)); (· rfl)) | (apply W.condF'; (· (simp only [St.ev, ↓Tr.get_set, ↓reduceIte, Nat.reduceEqDiff, natA, t41, t40, hd]; rfl)); (· rfl)))
    subst hjn
    refine ⟨rfl, ⟨Nat.le_refl _, ?_, ?_, ?_, ⟨v, ?_, R.frame (by simp only [next_bump]; omega) (fun _ _ => rfl), ho⟩, ?_, ?_, ?_, ?_, ?_, by simp only [next_bump]; omega, fr⟩⟩
    all_goals (simp only [Tr.get_set, get_bump, next_bump, next_set, next_add, AHeap.get_set, reduceIte, Nat.reduceEqDiff] <;> assumption)
/-- What the loop over the persons keeps. -/
structure OI (H0 : AHeap) (n : Nat) (K : List Nat) (R : Nat) (i : Nat) (s : St) : Prop where
  le : i ≤ n
  t0 : s.tm.get 0 = some (natA n)
  t34 : s.tm.get 34 = some (.sl R 0 n 6)
  t35 : s.tm.get 35 = some (natA n)
  t36 : s.tm.get 36 = some (natA i)
  row : ∃ v vs, s.tm.get 10 = some v ∧ Row 1 s.H v i vs ∧ (∀ o, v.own = some o → H0.next ≤ o ∧ o ≠ R) ∧
    ∀ j, j < i → ∃ u, vs[j]? = some u ∧ Row 1 s.H u (memb n (K.getD j 0)).length ((memb n (K.getD j 0)).map natA) ∧ (∀ o, u.own = some o → H0.next ≤ o ∧ v.own ≠ some o)
  box : s.H.get R = some (.cells (K.map u8A) none)
  hR : H0.next ≤ R ∧ R < s.H.next
  nx : H0.next ≤ s.H.next
  fr : ∀ j, j < H0.next → s.H.get j = H0.get j
theorem row_own1 {z l : Nat} {H : AHeap} {v : AV} {cs : List AV} (h : Row z H v l cs) : v.oneCell = true := by
  rcases h.2 with ⟨rfl, _⟩ | ⟨i, full, rfl, _⟩ <;> rfl
theorem row_cells {z l : Nat} {H : AHeap} {v : AV} {cs : List AV} (h : Row z H v l cs) : v.cells = [v] := by
  rcases h.2 with ⟨rfl, _⟩ | ⟨i, full, rfl, _⟩ <;> rfl
set_option maxHeartbeats 4000000 in
theorem outer38_ok {cf : CF} {fuel n : Nat} {H0 : AHeap} {K : List Nat} {R : Nat} (hn : n ≤ 6) (hK : K.length = 6) (hlt : ∀ m ∈ K, m < 64) (hf : 6 < fuel) (i : Nat) (s : St) (h : OI H0 n K R i s) :
    W cf fuel outer38 s fun e s' => (e = .normal → ∃ j, OI H0 n K R j s' ∧ n - j < n - i) ∧ (e ≠ .normal → e = .exit 2 ∧ OI H0 n K R n s') := by
  obtain ⟨le, t0, t34, t35, t36, ⟨v, vs, t10, Rv, ho, hin⟩, box, hR, nx, fr⟩ := h
  obtain ⟨tm, H⟩ := s
  simp only at t0 t34 t35 t36 t10 Rv hin box hR nx fr
  unfold outer38 L38
  dsimp only
  by_cases hi : i < n
  · have hd : decide ((i : Int) < (n : Int)) = true := by simpa using hi
    have hw : wrapA .i64 ((i : Int) + Int.ofNat 1) = ((i + 1 : Nat) : Int) := by
      show wrapA .i64 ((i : Int) + 1) = _
      rw [wrapI _ (by omega) (by omega)]; rfl
    obtain ⟨m, hm⟩ : ∃ m, K[i]? = some m := ⟨_, List.getElem?_eq_getElem (by omega)⟩
    have hmK : K.getD i 0 = m := by rw [List.getD_eq_getElem?_getD, hm]; rfl
    have hm64 := hlt m (List.mem_of_getElem? hm)
    have hix := idxOk_lt hi
    refine W.seqN ?_
    refine W.rg 1 rfl (fun H1 hg1 hn1 => ?_)
    refine WO.op (by simp only [xval, xop, AR.ofV, St.ev, Tr.get_set, get_bump, next_bump, next_set, next_add, AHeap.get_set, reduceIte, Nat.reduceEqDiff, evL, evParts, fillA, AV.cells, natA, binA, intCmpA, unA, minA, maxA, t36, t35, hd]; rfl) ?_
    refine WO.nil ⟨rfl, W.seqN (W.condT (by simp only [St.ev, Tr.get_set, get_bump, next_bump, next_set, next_add, AHeap.get_set, reduceIte, Nat.reduceEqDiff] <;> rfl) (W.skip ⟨rfl, ?_⟩))⟩
    refine W.seq (W.block (W.seqN ?_))
    refine W.rg 3 rfl (fun H2 hg2 hn2 => ?_)
    have box2 : H2.get R = some (.cells (K.map u8A) none) := by rw [hg2, hg1]; exact box
    refine WO.op (v := .ptr R i) (H1 := H2) (by simp only [xval, xop, AR.ofV, St.ev, Tr.get_set, get_bump, next_bump, next_set, next_add, AHeap.get_set, reduceIte, Nat.reduceEqDiff, evL, evParts, fillA, AV.cells, natA, binA, intCmpA, unA, minA, maxA, t34, t36, iaddrA, hix, Int.toNat_natCast, if_true, Nat.zero_add, Nat.mul_one]) ?_
    refine WO.op (v := u8A m) (op_load (a := .ptr R i) (by simp only [St.ev, Tr.get_set, get_bump, next_bump, next_set, next_add, AHeap.get_set, reduceIte, Nat.reduceEqDiff]) (by simp only [loadA, cellsAt, box2, List.getElem?_drop, Nat.add_zero, List.getElem?_map, hm, Option.map_some])) ?_
    refine WO.op (op_mv (v := u8A m) (by simp only [St.ev, Tr.get_set, get_bump, next_bump, next_set, next_add, AHeap.get_set, reduceIte, Nat.reduceEqDiff])) ?_
    refine WO.nil ⟨rfl, W.seqN ?_⟩
    refine W.rg 1 rfl (fun H3 hg3 hn3 => ?_)
    refine WO.op (by simp only [xval, xop, AR.ofV, St.ev, Tr.get_set, get_bump, next_bump, next_set, next_add, AHeap.get_set, reduceIte, Nat.reduceEqDiff, evL, evParts, fillA, AV.cells, natA, binA, intCmpA, unA, minA, maxA]; rfl) ?_
    refine WO.nil ⟨rfl, W.seq (W.seqN ?_)⟩
    refine W.rg 2 rfl (fun H4 hg4 hn4 => ?_)
    refine WO.op (by simp only [xval, xop, AR.ofV, St.ev, Tr.get_set, get_bump, next_bump, next_set, next_add, AHeap.get_set, reduceIte, Nat.reduceEqDiff, evL, evParts, fillA, AV.cells, natA, binA, intCmpA, unA, minA, maxA, t0]; rfl) ?_
    refine WO.op (by simp only [xval, xop, AR.ofV, St.ev, Tr.get_set, get_bump, next_bump, next_set, next_add, AHeap.get_set, reduceIte, Nat.reduceEqDiff, evL, evParts, fillA, AV.cells, natA, binA, intCmpA, unA, minA, maxA, t0]; rfl) ?_
    refine WO.nil ⟨rfl, W.block ?_⟩
    have hnx4 : H.next ≤ H4.next := by omega
    have hget4 : ∀ j, H4.get j = H.get j := fun j => by rw [hg4, hg3, hg2, hg1]
    generalize htm4 : (((((((tm.set 37 (some (AV.bool true))).set 38 (some (AV.ptr R i))).set 39 (some (u8A m))).set 12 (some (u8A m))).set 13 (some AV.nils)).set 40 (some (natA n))).set 41 (some (natA 0))) = tm4
    have e4 : ((((((((tm.set 37 (some (AV.bool true))).set 38 (some (AV.ptr R i))).set 39 (some (u8A m))).set 12 (some (u8A m))).set 13 (some AV.nils)).set 40 (some (AV.int IntKind.i64 ↑n))).set 41 (some (AV.int IntKind.i64 (Int.ofNat 0))))) = tm4 := htm4
    have g0 : tm4.get 0 = some (natA n) := by rw [← htm4]; simp only [Tr.get_set, get_bump, next_bump, next_set, next_add, AHeap.get_set, reduceIte, Nat.reduceEqDiff] <;> assumption
    have g10 : tm4.get 10 = some v := by rw [← htm4]; simp only [Tr.get_set, get_bump, next_bump, next_set, next_add, AHeap.get_set, reduceIte, Nat.reduceEqDiff] <;> assumption
    have g34 : tm4.get 34 = some (.sl R 0 n 6) := by rw [← htm4]; simp only [Tr.get_set, get_bump, next_bump, next_set, next_add, AHeap.get_set, reduceIte, Nat.reduceEqDiff] <;> assumption
    have g35 : tm4.get 35 = some (natA n) := by rw [← htm4]; simp only [Tr.get_set, get_bump, next_bump, next_set, next_add, AHeap.get_set, reduceIte, Nat.reduceEqDiff] <;> assumption
    have g36 : tm4.get 36 = some (natA i) := by rw [← htm4]; simp only [Tr.get_set, get_bump, next_bump, next_set, next_add, AHeap.get_set, reduceIte, Nat.reduceEqDiff] <;> assumption
    have g40 : tm4.get 40 = some (natA n) := by rw [← htm4]; simp only [Tr.get_set, get_bump, next_bump, next_set, next_add, AHeap.get_set, reduceIte, Nat.reduceEqDiff]
    have g41 : tm4.get 41 = some (natA 0) := by rw [← htm4]; simp only [Tr.get_set, get_bump, next_bump, next_set, next_add, AHeap.get_set, reduceIte, Nat.reduceEqDiff]
    have g12 : tm4.get 12 = some (u8A m) := by rw [← htm4]; simp only [Tr.get_set, get_bump, next_bump, next_set, next_add, AHeap.get_set, reduceIte, Nat.reduceEqDiff]
    have g13 : tm4.get 13 = some .nils := by rw [← htm4]; simp only [Tr.get_set, get_bump, next_bump, next_set, next_add, AHeap.get_set, reduceIte, Nat.reduceEqDiff]
    rw [e4]
    clear e4 htm4
    refine W.mono (W.loop (II H4 tm4 n m) (fun j => n - j) 0 (Q := fun e s' => e = .exit 4 ∧ II H4 tm4 n m n s') ⟨Nat.zero_le _, g40, g41, g12, ⟨.nils, g13, Row.nil 1 H4, fun o q => by cases q⟩, rfl, rfl, rfl, rfl, rfl, Nat.le_refl _, fun _ _ => rfl⟩ (by omega) (fun j s h => inner38_ok hn hm64 j s h)) (fun e s' ⟨q1, q2⟩ => ?_)
    subst q1
    refine bX (pN ?_)
    obtain ⟨_, p40, p41, p12, ⟨u, p13, Ru, hou⟩, k0, k10, k34, k35, k36, nx5, fr5⟩ := q2
    obtain ⟨tm5, H5⟩ := s'
    simp only at p40 p41 p12 p13 Ru k0 k10 k34 k35 k36 nx5 fr5
    rw [g0] at k0; rw [g10] at k10; rw [g34] at k34; rw [g35] at k35; rw [g36] at k36
    have f5 : ∀ j, j < H4.next → H5.get j = H.get j := fun j hj => by rw [fr5 j hj, hget4]
    refine W.rg 5 rfl (fun H6 hg6 hn6 => ?_)
    refine WO.op (by simp only [xval, xop, AR.ofV, St.ev, Tr.get_set, get_bump, next_bump, next_set, next_add, AHeap.get_set, reduceIte, Nat.reduceEqDiff, evL, evParts, fillA, AV.cells, natA, binA, intCmpA, unA, minA, maxA, k10, p13]; rfl) ?_
    refine WO.op (by simp only [xval, xop, AR.ofV, St.ev, Tr.get_set, get_bump, next_bump, next_set, next_add, AHeap.get_set, reduceIte, Nat.reduceEqDiff, evL, evParts, fillA, AV.cells, natA, binA, intCmpA, unA, minA, maxA, k10, p13]; rfl) ?_
    refine WO.append1 (n := H5.next + 1 + 1) (l := i) (cs := vs) (new := [u]) (v := v) (Rv.frame (by omega) (fun o q => by rw [hg6, f5 o (by have := Rv.own_lt q; omega)])) (by simp only [St.ev, Tr.get_set, get_bump, next_bump, next_set, next_add, AHeap.get_set, reduceIte, Nat.reduceEqDiff, k10]) (by simp only [evParts, ev_t, Tr.get_set, get_bump, next_bump, next_set, next_add, AHeap.get_set, reduceIte, Nat.reduceEqDiff, p13, bind, Option.bind_some, fillA, row_cells Ru, List.length_singleton]; rfl) (by omega) (by omega) (by omega) rfl (by simp only [List.all_cons, List.all_nil, row_own1 Ru]; rfl) (by omega) (fun q => by have := Rv.own_lt q; omega) (fun v' H7 R7 hn7 hg7 ho7 => ?_)
    refine WO.op (by simp only [xval, xop, AR.ofV, St.ev, Tr.get_set, get_bump, next_bump, next_set, next_add, AHeap.get_set, reduceIte, Nat.reduceEqDiff, evL, evParts, fillA, AV.cells, natA, binA, intCmpA, unA, minA, maxA]; rfl) ?_
    refine WO.nil (bN (pN ?_))
    repeat (first | refine W.seq ?_ | refine W.block ?_ | refine W.skip ?_ | refine W.ret ?_ | refine W.exit ?_ | (apply W.reg; · (simp only [List.length_cons, List.length_nil, Nat.reduceAdd]; rfl)) | (apply W.regd0; · (simp only [List.length_cons, List.length_nil, Nat.reduceAdd]; rfl)) | refine WO.nil ?_ | (apply WO.op; · first | exact op_mv (by simp only [St.ev, ↓Tr.get_set, ↓reduceIte, Nat.reduceEqDiff, natA, k36, hw]; rfl) | exact op_bin (by simp only [St.ev, ↓Tr.get_set, ↓reduceIte, Nat.reduceEqDiff, natA, k36, hw]; rfl) (by simp only [St.ev, ↓Tr.get_set, ↓reduceIte, Nat.reduceEqDiff, natA, k36, hw]; rfl) (by simp only [binA, intCmpA, strA, natA, k36, hw]; rfl) | exact op_slen (by simp only [St.ev, ↓Tr.get_set, ↓reduceIte, Nat.reduceEqDiff, natA, k36, hw]; rfl) | exact op_faddr (by simp only [St.ev, ↓Tr.get_set, ↓reduceIte, Nat.reduceEqDiff, natA, k36, hw]; rfl) | exact op_nilc (by simp only [St.ev, ↓Tr.get_set, ↓reduceIte, Nat.reduceEqDiff, natA, k36, hw]; rfl) | exact op_ext (by simp only [St.ev, ↓Tr.get_set, ↓reduceIte, Nat.reduceEqDiff, natA, k36, hw]; rfl) (by rfl) | exact op_pick (by simp only [St.ev, ↓Tr.get_set, ↓reduceIte, Nat.reduceEqDiff, natA, k36, hw]; rfl) (by first | exact .inl ⟨rfl, (by simp only [St.ev, ↓Tr.get_set, ↓reduceIte, Nat.reduceEqDiff, natA, k36, hw]; rfl)⟩ | exact .inr ⟨rfl, (by simp only [St.ev, ↓Tr.get_set, ↓reduceIte, Nat.reduceEqDiff, natA, k36, hw]; rfl)⟩) | exact op_un (by simp only [St.ev, ↓Tr.get_set, ↓reduceIte, Nat.reduceEqDiff, natA, k36, hw]; rfl) (by simp only [unA, k36, hw]; rfl) | (simp only [xval, xop, AR.ofV, St.ev, Tr.get_set, get_bump, next_bump, next_set, next_add, AHeap.get_set, reduceIte, Nat.reduceEqDiff, evL, evParts, fillA, AV.cells, natA, binA, intCmpA, unA, minA, maxA, Nat.add_assoc, Nat.reduceAdd, Nat.add_left_cancel_iff, Nat.add_eq_left, Nat.left_eq_add, loadA, cellsAt, storeA, Option.bind_some, iaddrA, aaddrA, k36, hw]; rfl)) | (apply WO.opn; · (simp only [xval, xop, AR.ofV, St.ev, Tr.get_set, get_bump, next_bump, next_set, next_add, AHeap.get_set, reduceIte, Nat.reduceEqDiff, evL, evParts, fillA, AV.cells, natA, binA, intCmpA, unA, minA, maxA, Nat.add_assoc, Nat.reduceAdd, Nat.add_left_cancel_iff, Nat.add_eq_left, Nat.left_eq_add, loadA, cellsAt, storeA, Option.bind_some, iaddrA, aaddrA, k36, hw]; rfl)) | (apply WO.gop'; (· (simp only [St.ev, ↓Tr.get_set, ↓reduceIte, Nat.reduceEqDiff, natA, k36, hw]; rfl)); (· rfl); (· first | exact op_mv (by simp only [St.ev, ↓Tr.get_set, ↓reduceIte, Nat.reduceEqDiff, natA, k36, hw]; rfl) | exact op_bin (by simp only [St.ev, ↓Tr.get_set, ↓reduceIte, Nat.reduceEqDiff, natA, k36, hw]; rfl) (by simp only [St.ev, ↓Tr.get_set, ↓reduceIte, Nat.reduceEqDiff, natA, k36, hw]; rfl) (by simp only [binA, intCmpA, strA, natA, k36, hw]; rfl) | exact op_slen (by simp only [St.ev, ↓Tr.get_set, ↓reduceIte, Nat.reduceEqDiff, natA, k36, hw]; rfl) | exact op_faddr (by simp only [St.ev, ↓Tr.get_set, ↓reduceIte, Nat.reduceEqDiff, natA, k36, hw]; rfl) | exact op_nilc (by simp only [St.ev, ↓Tr.get_set, ↓reduceIte, Nat.reduceEqDiff, natA, k36, hw]; rfl) | exact op_ext (by simp only [St.ev, ↓Tr.get_set, ↓reduceIte, Nat.reduceEqDiff, natA, k36, hw]; rfl) (by rfl) | exact op_pick (by simp only [St.ev, ↓Tr.get_set, ↓reduceIte, Nat.reduceEqDiff, natA, k36, hw]; rfl) (by first | exact .inl ⟨rfl, (by simp only [St.ev, ↓Tr.get_set, ↓reduceIte, Nat.reduceEqDiff, natA, k36, hw]; rfl)⟩ | exact .inr ⟨rfl, (by simp only [St.ev, ↓Tr.get_set, ↓reduceIte, Nat.reduceEqDiff, natA, k36, hw]; rfl)⟩) | exact op_un (by simp only [St.ev, ↓Tr.get_set, ↓reduceIte, Nat.reduceEqDiff, natA, k36, hw]; rfl) (by simp only [unA, k36, hw]; rfl) | (simp only [xval, xop, AR.ofV, St.ev, Tr.get_set, get_bump, next_bump, next_set, next_add, AHeap.get_set, reduceIte, Nat.reduceEqDiff, evL, evParts, fillA, AV.cells, natA, binA, intCmpA, unA, minA, maxA, Nat.add_assoc, Nat.reduceAdd, Nat.add_left_cancel_iff, Nat.add_eq_left, Nat.left_eq_add, loadA, cellsAt, storeA, Option.bind_some, iaddrA, aaddrA, k36, hw]; rfl))) | (apply WO.gno'; (· (simp only [St.ev, ↓Tr.get_set, ↓reduceIte, Nat.reduceEqDiff, natA, k36, hw]; rfl)); (· rfl)) | refine pN ?_ | refine pR ?_ | refine pX ?_ | refine bN ?_ | refine bR ?_ | refine bX ?_ | refine bO (by decide) ?_ | (apply W.condT'; (· (simp only [St.ev, ↓Tr.get_set, ↓reduceIte, Nat.reduceEqDiff, natA, k36, hw]; rfl)); (· rfl)) | (apply W.condF'; (· (simp only [St.ev, ↓Tr.get_set, ↓reduceIte, Nat.reduceEqDiff, natA, k36, hw]; rfl)); (· rfl)))
    have own7 : ∀ o, v.own = some o → o < H.next := fun o q => Rv.own_lt q
    have h7 : ∀ o, o < H5.next → v.own ≠ some o → H7.get o = H5.get o := fun o p q => by rw [hg7 o (by omega) (by omega) q, hg6]
    refine ⟨i + 1, ⟨by omega, ?_, ?_, ?_, ?_, ⟨v', vs ++ [u], ?_, R7.frame (by simp only [next_bump]; omega) (fun _ _ => rfl), fun o q => ?_, fun j hj => ?_⟩, ?_, ⟨hR.1, by simp only [next_bump]; omega⟩, by simp only [next_bump]; omega, fun o q => ?_⟩, by omega⟩
    · simp only [Tr.get_set, get_bump, next_bump, next_set, next_add, AHeap.get_set, reduceIte, Nat.reduceEqDiff] <;> assumption
    · simp only [Tr.get_set, get_bump, next_bump, next_set, next_add, AHeap.get_set, reduceIte, Nat.reduceEqDiff] <;> assumption
    · simp only [Tr.get_set, get_bump, next_bump, next_set, next_add, AHeap.get_set, reduceIte, Nat.reduceEqDiff] <;> assumption
    · simp only [Tr.get_set, get_bump, next_bump, next_set, next_add, AHeap.get_set, reduceIte, Nat.reduceEqDiff] <;> rfl
    · simp only [Tr.get_set, get_bump, next_bump, next_set, next_add, AHeap.get_set, reduceIte, Nat.reduceEqDiff]
    · rcases ho7 o q with p | p
      · exact ho o p
      · omega
    · by_cases hji : j < i
      · obtain ⟨w, w1, w2, w3⟩ := hin j hji
        have wl : ∀ o, w.own = some o → o < H.next := fun o q => w2.own_lt q
        refine ⟨w, by rw [List.getElem?_append_left (by have := Rv.1; omega)]; exact w1, w2.frame (by simp only [next_bump]; omega) (fun o q => ?_), fun o q => ⟨(w3 o q).1, fun p => ?_⟩⟩
        · show H7.get o = _
          have := wl o q
          rw [h7 o (by omega) (w3 o q).2, f5 o (by omega)]
        · have := wl o q
          rcases ho7 o p with p' | p'
          · exact (w3 o q).2 p'
          · omega
      · have hji' : j = i := by omega
        subst hji'
        rw [hmK]
        have hl : vs.length = j := by have := Rv.1; omega
        refine ⟨u, by rw [List.getElem?_append_right (by omega), hl, Nat.sub_self]; rfl, Ru.frame (by simp only [next_bump]; omega) (fun o q => ?_), fun o q => ⟨by have := hou o q; omega, fun p => ?_⟩⟩
        · show H7.get o = _
          have := hou o q
          exact h7 o (Ru.own_lt q) (fun p => by have := own7 o p; omega)
        · have h1 := hou o q
          have h2 : o < H5.next := Ru.own_lt q
          rcases ho7 o p with p' | p'
          · have := own7 o p'; omega
          · omega
    · show H7.get R = _
      rw [h7 R (by omega) (fun p => (ho R p).2 rfl), f5 R (by omega)]
      exact box
    · show H7.get o = _
      rw [h7 o (by omega) (fun p => by have := (ho o p).1; omega), f5 o (by omega)]
      exact fr o q
  · have hin' : i = n := by omega
    have hd : decide ((i : Int) < (n : Int)) = false := by simp; omega
    repeat (first | refine W.seq ?_ | refine W.block ?_ | refine W.skip ?_ | refine W.ret ?_ | refine W.exit ?_ | (apply W.reg; · (simp only [List.length_cons, List.length_nil, Nat.reduceAdd]; rfl)) | (apply W.regd0; · (simp only [List.length_cons, List.length_nil, Nat.reduceAdd]; rfl)) | refine WO.nil ?_ | (apply WO.op; · first | exact op_mv (by simp only [St.ev, ↓Tr.get_set, ↓reduceIte, Nat.reduceEqDiff, natA, t36, t35, hd]; rfl) | exact op_bin (by simp only [St.ev, ↓Tr.get_set, ↓reduceIte, Nat.reduceEqDiff, natA, t36, t35, hd]; rfl) (by simp only [St.ev, ↓Tr.get_set, ↓reduceIte, Nat.reduceEqDiff, natA, t36, t35, hd]; rfl) (by simp only [binA, intCmpA, strA, natA, t36, t35, hd]; rfl) | exact op_slen (by simp only [St.ev, ↓Tr.get_set, ↓reduceIte, Nat.reduceEqDiff, natA, t36, t35, hd]; rfl) | exact op_faddr (by simp only [St.ev, ↓Tr.get_set, ↓reduceIte, Nat.reduceEqDiff, natA, t36, t35, hd]; rfl) | exact op_nilc (by simp only [St.ev, ↓Tr.get_set, ↓reduceIte, Nat.reduceEqDiff, natA, t36, t35, hd]; rfl) | exact op_ext (by simp only [St.ev, ↓Tr.get_set, ↓reduceIte, Nat.reduceEqDiff, natA, t36, t35, hd]; rfl) (by rfl) | exact op_pick (by simp only [St.ev, ↓Tr.get_set, ↓reduceIte, Nat.reduceEqDiff, natA, t36, t35, hd]; rfl) (by first | exact .inl ⟨rfl, (by simp only [St.ev, ↓Tr.get_set, ↓reduceIte, Nat.reduceEqDiff, natA, t36, t35, hd]; rfl)⟩ | exact .inr ⟨rfl, (by simp only [St.ev, ↓Tr.get_set, ↓reduceIte, Nat.reduceEqDiff, natA, t36, t35, hd]; rfl)⟩) | exact op_un (by simp only [St.ev, ↓Tr.get_set, ↓reduceIte, Nat.reduceEqDiff, natA, t36, t35, hd]; rfl) (by simp only [unA, t36, t35, hd]; rfl) | (simp only [xval, xop, AR.ofV, St.ev, Tr.get_set, get_bump, next_bump, next_set, next_add, AHeap.get_set, reduceIte, Nat.reduceEqDiff, evL, evParts, fillA, AV.cells, natA, binA, intCmpA, unA, minA, maxA, Nat.add_assoc, Nat.reduceAdd, Nat.add_left_cancel_iff, Nat.add_eq_left, Nat.left_eq_add, loadA, cellsAt, storeA, Option.bind_some, iaddrA, aaddrA, t36, t35, hd]; rfl)) | (apply WO.opn; · (simp only [xval, xop, AR.ofV, St.ev, Tr.get_set, get_bump, next_bump, next_set, next_add, AHeap.get_set, reduceIte, Nat.reduceEqDiff, evL, evParts, fillA, AV.cells, natA, binA, intCmpA, unA, minA, maxA, Nat.add_assoc, Nat.reduceAdd, Nat.add_left_cancel_iff, Nat.add_eq_left, Nat.left_eq_add, loadA, cellsAt, storeA, Option.bind_some, iaddrA, aaddrA, t36, t35, hd]; rfl)) | (apply WO.gop'; (· (simp only [St.ev, ↓Tr.get_set, ↓reduceIte, Nat.reduceEqDiff, natA, t36, t35, hd]; rfl)); (· rfl); (· first | exact op_mv (by simp only [St.ev, ↓Tr.get_set, ↓reduceIte, Nat.reduceEqDiff, natA, t36, t35, hd]; rfl) | exact op_bin (by simp only [St.ev, ↓Tr.get_set, ↓reduceIte, Nat.reduceEqDiff, natA, t36, t35, hd]; rfl) (by simp only [St.ev, ↓Tr.get_set, ↓reduceIte, Nat.reduceEqDiff, natA, t36, t35, hd]; rfl) (by simp only [binA, intCmpA, strA, natA, t36, t35, hd]; rfl) | exact op_slen (by simp only [St.ev, ↓Tr.get_set, ↓reduceIte, Nat.reduceEqDiff, natA, t36, t35, hd]; rfl) | exact op_faddr (by simp only [St.ev, ↓Tr.get_set, ↓reduceIte, Nat.reduceEqDiff, natA, t36, t35, hd]; rfl) | exact op_nilc (by simp only [St.ev, ↓Tr.get_set, ↓reduceIte, Nat.reduceEqDiff, natA, t36, t35, hd]; rfl) | exact op_ext (by simp only [St.ev, ↓Tr.get_set, ↓reduceIte, Nat.reduceEqDiff, natA, t36, t35, hd]; rfl) (by rfl) | exact op_pick (by simp only [St.ev, ↓Tr.get_set, ↓reduceIte, Nat.reduceEqDiff, natA, t36, t35, hd]; rfl) (by first | exact .inl ⟨rfl, (by simp only [St.ev, ↓Tr.get_set, ↓reduceIte, Nat.reduceEqDiff, natA, t36, t35, hd]; rfl)⟩ | exact .inr ⟨rfl, (by simp only [St.ev, ↓Tr.get_set, ↓reduceIte, Nat.reduceEqDiff, natA, t36, t35, hd]; rfl)⟩) | exact op_un (by simp only [St.ev, ↓Tr.get_set, ↓reduceIte, Nat.reduceEqDiff, natA, t36, t35, hd]; rfl) (by simp only [unA, t36, t35, hd]; rfl) | (simp only [xval, xop, AR.ofV, St.ev, Tr.get_set, get_bump, next_bump, next_set, next_add, AHeap.get_set, reduceIte, Nat.reduceEqDiff, evL, evParts, fillA, AV.cells, natA, binA, intCmpA, unA, minA, maxA, Nat.add_assoc, Nat.reduceAdd, Nat.add_left_cancel_iff, Nat.add_eq_left, Nat.left_eq_add, loadA, cellsAt, storeA, Option.bind_some, iaddrA, aaddrA, t36, t35, hd]; rfl))) | (apply WO.gno'; (· (simp only [St.ev, ↓Tr.get_set, ↓reduceIte, Nat.reduceEqDiff, natA, t36, t35, hd]; rfl)); (· rfl)) | refine pN ?_ | refine pR ?_ | refine pX ?_ | refine bN ?_ | refine bR ?_ | refine bX ?_ | refine bO (by decide) ?_ | (apply W.condT'; (· (simp only [St.ev, ↓Tr.get_set, ↓reduceIte, Nat.reduceEqDiff, natA, t36, t35, hd]; rfl)); (· rfl)) | (apply W.condF'; (· (simp only [St.ev, ↓Tr.get_set, ↓reduceIte, Nat.reduceEqDiff, natA, t36, t35, hd]; rfl)); (· rfl)))
    subst hin'
    refine ⟨rfl, ⟨Nat.le_refl _, ?_, ?_, ?_, ?_, ⟨v, vs, ?_, Rv.frame (by simp only [next_bump]; omega) (fun _ _ => rfl), ho, fun j hj => ?_⟩, box, ⟨hR.1, by simp only [next_bump]; omega⟩, by simp only [next_bump]; omega, fr⟩⟩
    · simp only [Tr.get_set, get_bump, next_bump, next_set, next_add, AHeap.get_set, reduceIte, Nat.reduceEqDiff] <;> assumption
    · simp only [Tr.get_set, get_bump, next_bump, next_set, next_add, AHeap.get_set, reduceIte, Nat.reduceEqDiff] <;> assumption
    · simp only [Tr.get_set, get_bump, next_bump, next_set, next_add, AHeap.get_set, reduceIte, Nat.reduceEqDiff] <;> assumption
    · simp only [Tr.get_set, get_bump, next_bump, next_set, next_add, AHeap.get_set, reduceIte, Nat.reduceEqDiff] <;> assumption
    · simp only [Tr.get_set, get_bump, next_bump, next_set, next_add, AHeap.get_set, reduceIte, Nat.reduceEqDiff] <;> assumption
    · obtain ⟨u, u1, u2, u3⟩ := hin j hj
      exact ⟨u, u1, u2.frame (by simp only [next_bump]; omega) (fun _ _ => rfl), u3⟩
end Go.Proofs.Ytpbighinamljbaa.PA
