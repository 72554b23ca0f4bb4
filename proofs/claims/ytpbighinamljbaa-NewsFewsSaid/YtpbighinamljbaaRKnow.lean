/- The reference's Knows, over the abstract machine. No condition. -/
import Derived.Test.YtpbighinamljbaaKnow5
set_option linter.unusedSimpArgs false
set_option linter.unusedVariables false
namespace Go.Eng
theorem overA_set {c : List AV} {a : Nat} {u : AV} (h : a < c.length) : overA c a [u] = c.set a u := by
  rw [List.set_eq_take_append_cons_drop, if_pos h]
  simp [overA]
/-- An element of a row, written. -/
theorem Row.put {H H' : AHeap} {v u : AV} {l a : Nat} {cs : List AV} (h : Row 1 H v l cs) (ha : a < l) {o : Nat} (hv : v.own = some o) {full : List AV} {q : Option Nat} (hg : H.get o = some (.cells full q)) (hg' : H'.get o = some (.cells (overA full a [u]) q)) (hn : H'.next = H.next) : Row 1 H' v l (cs.set a u) := by
  obtain ⟨hl, ⟨rfl, rfl⟩ | ⟨i, full', rfl, h1, h2, h3, h4⟩⟩ := h
  · omega
  · cases hv
    rw [h1] at hg
    cases hg
    refine ⟨by rw [List.length_set]; exact hl, .inr ⟨o, full.set a u, rfl, by rw [hg', overA_set (by omega)], ?_, by rw [List.length_set]; exact h3, by omega⟩⟩
    rw [← h2, List.take_set]
theorem Row.obj {z : Nat} {H : AHeap} {v : AV} {l : Nat} {cs : List AV} (h : Row z H v l cs) (hl : 0 < l) : ∃ o full, v.own = some o ∧ H.get o = some (.cells full (some z)) ∧ l * z ≤ full.length := by
  obtain ⟨_, ⟨rfl, rfl⟩ | ⟨i, full', rfl, h1, h2, h3, h4⟩⟩ := h
  · omega
  · exact ⟨i, full', rfl, h1, h3⟩
end Go.Eng
namespace Go.Proofs.Ytpbighinamljbaa.PA
open Go Go.Eng Go.Proofs
theorem tabShlN : ((List.range 7).all fun n => match binA .shl (.int .i64 (.ofNat 1)) (natA n) with
    | some y => AV.beq y (natA (2 ^ n))
    | none => false) = true := by kernel_rfl
theorem shlN {n : Nat} (hn : n ≤ 6) : binA .shl (.int .i64 (.ofNat 1)) (natA n) = some (natA (2 ^ n)) := by
  have h := tabShlN
  rw [List.all_eq_true] at h
  have h2 := h n (List.mem_range.2 (by omega))
  split at h2
  · rename_i y hy
    have e1 := AV.beq_sound h2
    subst e1
    exact hy
  · cases h2
theorem tabOrN : ((List.range 64).all fun x => (List.range 64).all fun y => match binA .or (natA x) (natA y) with
    | some z => AV.beq z (natA (x ||| y))
    | none => false) = true := by kernel_rfl
theorem orN {x y : Nat} (hx : x < 64) (hy : y < 64) : binA .or (natA x) (natA y) = some (natA (x ||| y)) := by
  have h := tabOrN
  rw [List.all_eq_true] at h
  have h1 := h x (List.mem_range.2 hx)
  rw [List.all_eq_true] at h1
  have h2 := h1 y (List.mem_range.2 hy)
  split at h2
  · rename_i z hz
    have e1 := AV.beq_sound h2
    subst e1
    exact hz
  · cases h2
theorem begM_take {p : Nat} (hp : p ≤ 6) : (begM p).take p = (List.range p).map fun i => 2 ^ i := by
  have h : ((List.range 7).all fun p => (begM p).take p == (List.range p).map fun i => 2 ^ i) = true := by kernel_rfl
  rw [List.all_eq_true] at h
  simpa using h p (List.mem_range.2 (by omega))
/-- What the first loop keeps. -/
structure PI (H0 : AHeap) (p : Nat) (x : AV) (j : Nat) (s : St) : Prop where
  le : j ≤ p
  t0 : s.tm.get 0 = some (natA p)
  t1 : s.tm.get 1 = some x
  t6 : s.tm.get 6 = some (natA j)
  row : ∃ v, s.tm.get 5 = some v ∧ RowE 1 s.H v j ((List.range j).map fun i => natA (2 ^ i)) ∧ (∀ o, v.own = some o → H0.next ≤ o)
  nx : H0.next ≤ s.H.next
  fr : ∀ j, j < H0.next → s.H.get j = H0.get j
def body39a : XCode := match L39.code with
  | .seq _ (.seq _ (.seq (.seq _ (.block _ (.loop c))) _)) => c
  | _ => .skip
def body39b : XCode := match L39.code with
  | .seq _ (.seq _ (.seq _ (.seq (.seq _ (.block _ (.loop c))) _))) => c
  | _ => .skip
set_option maxHeartbeats 4000000 in
theorem body39a_ok {cf : CF} {fuel p : Nat} {H0 : AHeap} {x : AV} (hp : p ≤ 6) (j : Nat) (s : St) (h : PI H0 p x j s) :
    W cf fuel body39a s fun e s' => (e = .normal → ∃ i, PI H0 p x i s' ∧ p - i < p - j) ∧ (e ≠ .normal → e = .exit 0 ∧ PI H0 p x p s') := by
  obtain ⟨le, t0, t1, t6, ⟨v, t5, R, ho⟩, nx, fr⟩ := h
  obtain ⟨tm, H⟩ := s
  simp only at t0 t1 t6 t5 R nx fr
  unfold body39a L39
  dsimp only
  by_cases hj : j < p
  · have hd : decide ((j : Int) < (p : Int)) = true := by simpa using hj
    have hw : wrapA .i64 ((j : Int) + Int.ofNat 1) = ((j + 1 : Nat) : Int) := by
      show wrapA .i64 ((j : Int) + 1) = _
      rw [wrapI _ (by omega) (by omega)]; rfl
    refine W.seqN (W.seqN ?_)
    refine W.rg 3 rfl (fun H1 hg1 hn1 => ?_)
    refine WO.op (by simp only [xval, xop, AR.ofV, St.ev, Tr.get_set, get_bump, next_bump, next_set, next_add, AHeap.get_set, reduceIte, Nat.reduceEqDiff, evL, evParts, fillA, AV.cells, natA, binA, intCmpA, unA, minA, maxA, t6, t0, hd]; rfl) ?_
    refine WO.op (by simp only [xval, xop, AR.ofV, St.ev, Tr.get_set, get_bump, next_bump, next_set, next_add, AHeap.get_set, reduceIte, Nat.reduceEqDiff, evL, evParts, fillA, AV.cells, natA, binA, intCmpA, unA, minA, maxA, t6, t0, hd]; rfl) ?_
    refine WO.op (by simp only [xval, xop, AR.ofV, St.ev, Tr.get_set, get_bump, next_bump, next_set, next_add, AHeap.get_set, reduceIte, Nat.reduceEqDiff, evL, evParts, fillA, AV.cells, natA, binA, intCmpA, unA, minA, maxA, t6, t0, hd]; rfl) ?_
    refine WO.nil ⟨rfl, W.condT (by simp only [St.ev, Tr.get_set, get_bump, next_bump, next_set, next_add, AHeap.get_set, reduceIte, Nat.reduceEqDiff] <;> rfl) (W.skip ⟨rfl, W.seq (W.block ?_)⟩)⟩
    refine W.rg 6 rfl (fun H2 hg2 hn2 => ?_)
    refine WO.op (by simp only [xval, xop, AR.ofV, St.ev, Tr.get_set, get_bump, next_bump, next_set, next_add, AHeap.get_set, reduceIte, Nat.reduceEqDiff, evL, evParts, fillA, AV.cells, natA, binA, intCmpA, unA, minA, maxA, t5, t6]; rfl) ?_
    refine WO.op (by simp only [xval, xop, AR.ofV, St.ev, Tr.get_set, get_bump, next_bump, next_set, next_add, AHeap.get_set, reduceIte, Nat.reduceEqDiff, evL, evParts, fillA, AV.cells, natA, binA, intCmpA, unA, minA, maxA, t5, t6]; rfl) ?_
    refine WO.op (op_bin (a := .int .i64 (.ofNat 1)) (b := natA j) rfl (by simp only [St.ev, Tr.get_set, get_bump, next_bump, next_set, next_add, AHeap.get_set, reduceIte, Nat.reduceEqDiff] <;> rfl) (shlN (by omega))) ?_
    have hown : ∀ o, v.own = some o → o < H.next := fun o q => R.own_lt q
    refine WO.append1E (l := j) (cs := (List.range j).map fun i => natA (2 ^ i)) (new := [natA (2 ^ j)]) (v := v) (R.frame (by omega) (fun o _ => by rw [hg2, hg1])) (by simp only [St.ev, Tr.get_set, get_bump, next_bump, next_set, next_add, AHeap.get_set, reduceIte, Nat.reduceEqDiff]) (by simp only [xval, xop, AR.ofV, St.ev, Tr.get_set, get_bump, next_bump, next_set, next_add, AHeap.get_set, reduceIte, Nat.reduceEqDiff, evL, evParts, fillA, AV.cells, natA, binA, intCmpA, unA, minA, maxA]; rfl) (by omega) (by omega) (by omega) rfl rfl (by omega) (fun q => by have := hown _ q; omega) (fun v' H3 R3 hn3 hg3 ho3 => ?_)
    refine WO.op (by simp only [xval, xop, AR.ofV, St.ev, Tr.get_set, get_bump, next_bump, next_set, next_add, AHeap.get_set, reduceIte, Nat.reduceEqDiff, evL, evParts, fillA, AV.cells, natA, binA, intCmpA, unA, minA, maxA]; rfl) ?_
    refine WO.nil (bN (pN ?_))
    repeat (first | refine W.seq ?_ | refine W.block ?_ | refine W.skip ?_ | refine W.ret ?_ | refine W.exit ?_ | (apply W.reg; · (simp only [List.length_cons, List.length_nil, Nat.reduceAdd]; rfl)) | (apply W.regd0; · (simp only [List.length_cons, List.length_nil, Nat.reduceAdd]; rfl)) | refine WO.nil ?_ | (apply WO.op; · first | exact op_mv (by simp only [St.ev, ↓Tr.get_set, ↓reduceIte, Nat.reduceEqDiff, natA, t6, hw]; rfl) | exact op_bin (by simp only [St.ev, ↓Tr.get_set, ↓reduceIte, Nat.reduceEqDiff, natA, t6, hw]; rfl) (by simp only [St.ev, ↓Tr.get_set, ↓reduceIte, Nat.reduceEqDiff, natA, t6, hw]; rfl) (by simp only [binA, intCmpA, strA, natA, t6, hw]; rfl) | exact op_slen (by simp only [St.ev, ↓Tr.get_set, ↓reduceIte, Nat.reduceEqDiff, natA, t6, hw]; rfl) | exact op_faddr (by simp only [St.ev, ↓Tr.get_set, ↓reduceIte, Nat.reduceEqDiff, natA, t6, hw]; rfl) | exact op_nilc (by simp only [St.ev, ↓Tr.get_set, ↓reduceIte, Nat.reduceEqDiff, natA, t6, hw]; rfl) | exact op_ext (by simp only [St.ev, ↓Tr.get_set, ↓reduceIte, Nat.reduceEqDiff, natA, t6, hw]; rfl) (by rfl) | exact op_pick (by simp only [St.ev, ↓Tr.get_set, ↓reduceIte, Nat.reduceEqDiff, natA, t6, hw]; rfl) (by first | exact .inl ⟨rfl, (by simp only [St.ev, ↓Tr.get_set, ↓reduceIte, Nat.reduceEqDiff, natA, t6, hw]; rfl)⟩ | exact .inr ⟨rfl, (by simp only [St.ev, ↓Tr.get_set, ↓reduceIte, Nat.reduceEqDiff, natA, t6, hw]; rfl)⟩) | exact op_un (by simp only [St.ev, ↓Tr.get_set, ↓reduceIte, Nat.reduceEqDiff, natA, t6, hw]; rfl) (by simp only [unA, t6, hw]; rfl) | (simp only [xval, xop, AR.ofV, St.ev, Tr.get_set, get_bump, next_bump, next_set, next_add, AHeap.get_set, reduceIte, Nat.reduceEqDiff, evL, evParts, fillA, AV.cells, natA, binA, intCmpA, unA, minA, maxA, Nat.add_assoc, Nat.reduceAdd, Nat.add_left_cancel_iff, Nat.add_eq_left, Nat.left_eq_add, loadA, cellsAt, storeA, Option.bind_some, iaddrA, aaddrA, t6, hw]; rfl)) | (apply WO.opn; · (simp only [xval, xop, AR.ofV, St.ev, Tr.get_set, get_bump, next_bump, next_set, next_add, AHeap.get_set, reduceIte, Nat.reduceEqDiff, evL, evParts, fillA, AV.cells, natA, binA, intCmpA, unA, minA, maxA, Nat.add_assoc, Nat.reduceAdd, Nat.add_left_cancel_iff, Nat.add_eq_left, Nat.left_eq_add, loadA, cellsAt, storeA, Option.bind_some, iaddrA, aaddrA, t6, hw]; rfl)) | (apply WO.gop'; (· (simp only [St.ev, ↓Tr.get_set, ↓reduceIte, Nat.reduceEqDiff, natA, t6, hw]; rfl)); (· rfl); (· first | exact op_mv (by simp only [St.ev, ↓Tr.get_set, ↓reduceIte, Nat.reduceEqDiff, natA, t6, hw]; rfl) | exact op_bin (by simp only [St.ev, ↓Tr.get_set, ↓reduceIte, Nat.reduceEqDiff, natA, t6, hw]; rfl) (by simp only [St.ev, ↓Tr.get_set, ↓reduceIte, Nat.reduceEqDiff, natA, t6, hw]; rfl) (by simp only [binA, intCmpA, strA, natA, t6, hw]; rfl) | exact op_slen (by simp only [St.ev, ↓Tr.get_set, ↓reduceIte, Nat.reduceEqDiff, natA, t6, hw]; rfl) | exact op_faddr (by simp only [St.ev, ↓Tr.get_set, ↓reduceIte, Nat.reduceEqDiff, natA, t6, hw]; rfl) | exact op_nilc (by simp only [St.ev, ↓Tr.get_set, ↓reduceIte, Nat.reduceEqDiff, natA, t6, hw]; rfl) | exact op_ext (by simp only [St.ev, ↓Tr.get_set, ↓reduceIte, Nat.reduceEqDiff, natA, t6, hw]; rfl) (by rfl) | exact op_pick (by simp only [St.ev, ↓Tr.get_set, ↓reduceIte, Nat.reduceEqDiff, natA, t6, hw]; rfl) (by first | exact .inl ⟨rfl, (by simp only [St.ev, ↓Tr.get_set, ↓reduceIte, Nat.reduceEqDiff, natA, t6, hw]; rfl)⟩ | exact .inr ⟨rfl, (by simp only [St.ev, ↓Tr.get_set, ↓reduceIte, Nat.reduceEqDiff, natA, t6, hw]; rfl)⟩) | exact op_un (by simp only [St.ev, ↓Tr.get_set, ↓reduceIte, Nat.reduceEqDiff, natA, t6, hw]; rfl) (by simp only [unA, t6, hw]; rfl) | (simp only [xval, xop, AR.ofV, St.ev, Tr.get_set, get_bump, next_bump, next_set, next_add, AHeap.get_set, reduceIte, Nat.reduceEqDiff, evL, evParts, fillA, AV.cells, natA, binA, intCmpA, unA, minA, maxA, Nat.add_assoc, Nat.reduceAdd, Nat.add_left_cancel_iff, Nat.add_eq_left, Nat.left_eq_add, loadA, cellsAt, storeA, Option.bind_some, iaddrA, aaddrA, t6, hw]; rfl))) | (apply WO.gno'; (· (simp only [St.ev, ↓Tr.get_set, ↓reduceIte, Nat.reduceEqDiff, natA, t6, hw]; rfl)); (· rfl)) | refine pN ?_ | refine pR ?_ | refine pX ?_ | refine bN ?_ | refine bR ?_ | refine bX ?_ | refine bO (by decide) ?_ | (apply W.condT'; (· (simp only [St.ev, ↓Tr.get_set, ↓reduceIte, Nat.reduceEqDiff, natA, t6, hw]; rfl)); (· rfl)) | (apply W.condF'; (· (simp only [St.ev, ↓Tr.get_set, ↓reduceIte, Nat.reduceEqDiff, natA, t6, hw]; rfl)); (· rfl)))
    have e2 : (List.range (j + 1)).map (fun i => natA (2 ^ i)) = (List.range j).map (fun i => natA (2 ^ i)) ++ [natA (2 ^ j)] := by rw [List.range_succ, List.map_append]; rfl
    refine ⟨j + 1, ⟨by omega, ?_, ?_, ?_, ⟨v', ?_, .inl (by rw [e2]; exact R3.frame (by simp only [next_bump]; omega) (fun _ _ => rfl)), fun o q => ?_⟩, by simp only [next_bump]; omega, fun o q => ?_⟩, by omega⟩
    · simp only [Tr.get_set, get_bump, next_bump, next_set, next_add, AHeap.get_set, reduceIte, Nat.reduceEqDiff] <;> assumption
    · simp only [Tr.get_set, get_bump, next_bump, next_set, next_add, AHeap.get_set, reduceIte, Nat.reduceEqDiff] <;> assumption
    · simp only [Tr.get_set, get_bump, next_bump, next_set, next_add, AHeap.get_set, reduceIte, Nat.reduceEqDiff] <;> rfl
    · simp only [Tr.get_set, get_bump, next_bump, next_set, next_add, AHeap.get_set, reduceIte, Nat.reduceEqDiff]
    · rcases ho3 o q with p | p
      · exact ho o p
      · omega
    · show H3.get o = _
      rw [hg3 o (by omega) (by omega) (fun p => by have := ho o p; omega), hg2, hg1]
      exact fr o q
  · have hjl : j = p := by omega
    have hd : decide ((j : Int) < (p : Int)) = false := by simp; omega
    repeat (first | refine W.seq ?_ | refine W.block ?_ | refine W.skip ?_ | refine W.ret ?_ | refine W.exit ?_ | (apply W.reg; · (simp only [List.length_cons, List.length_nil, Nat.reduceAdd]; rfl)) | (apply W.regd0; · (simp only [List.length_cons, List.length_nil, Nat.reduceAdd]; rfl)) | refine WO.nil ?_ | (apply WO.op; · first | exact op_mv (by simp only [St.ev, ↓Tr.get_set, ↓reduceIte, Nat.reduceEqDiff, natA, t6, t0, hd]; rfl) | exact op_bin (by simp only [St.ev, ↓Tr.get_set, ↓reduceIte, Nat.reduceEqDiff, natA, t6, t0, hd]; rfl) (by simp only [St.ev, ↓Tr.get_set, ↓reduceIte, Nat.reduceEqDiff, natA, t6, t0, hd]; rfl) (by simp only [binA, intCmpA, strA, natA, t6, t0, hd]; rfl) | exact op_slen (by simp only [St.ev, ↓Tr.get_set, ↓reduceIte, Nat.reduceEqDiff, natA, t6, t0, hd]; rfl) | exact op_faddr (by simp only [St.ev, ↓Tr.get_set, ↓reduceIte, Nat.reduceEqDiff, natA, t6, t0, hd]; rfl) | exact op_nilc (by simp only [St.ev, ↓Tr.get_set, ↓reduceIte, Nat.reduceEqDiff, natA, t6, t0, hd]; rfl) | exact op_ext (by simp only [St.ev, ↓Tr.get_set, ↓reduceIte, Nat.reduceEqDiff, natA, t6, t0, hd]; rfl) (by rfl) | exact op_pick (by simp only [St.ev, ↓Tr.get_set, ↓reduceIte, Nat.reduceEqDiff, natA, t6, t0, hd]; rfl) (by first | exact .inl ⟨rfl, (by simp only [St.ev, ↓Tr.get_set, ↓reduceIte, Nat.reduceEqDiff, natA, t6, t0, hd]; rfl)⟩ | exact .inr ⟨rfl, (by simp only [St.ev, ↓Tr.get_set, ↓reduceIte, Nat.reduceEqDiff, natA, t6, t0, hd]; rfl)⟩) | exact op_un (by simp only [St.ev, ↓Tr.get_set, ↓reduceIte, Nat.reduceEqDiff, natA, t6, t0, hd]; rfl) (by simp only [unA, t6, t0, hd]; rfl) | (simp only [xval, xop, AR.ofV, St.ev, Tr.get_set, get_bump, next_bump, next_set, next_add, AHeap.get_set, reduceIte, Nat.reduceEqDiff, evL, evParts, fillA, AV.cells, natA, binA, intCmpA, unA, minA, maxA, Nat.add_assoc, Nat.reduceAdd, Nat.add_left_cancel_iff, Nat.add_eq_left, Nat.left_eq_add, loadA, cellsAt, storeA, Option.bind_some, iaddrA, aaddrA, t6, t0, hd]; rfl)) | (apply WO.opn; · (simp only [xval, xop, AR.ofV, St.ev, Tr.get_set, get_bump, next_bump, next_set, next_add, AHeap.get_set, reduceIte, Nat.reduceEqDiff, evL, evParts, fillA, AV.cells, natA, binA, intCmpA, unA, minA, maxA, Nat.add_assoc, Nat.reduceAdd, Nat.add_left_cancel_iff, Nat.add_eq_left, Nat.left_eq_add, loadA, cellsAt, storeA, Option.bind_some, iaddrA, aaddrA, t6, t0, hd]; rfl)) | (apply WO.gop'; (· (simp only [St.ev, ↓Tr.get_set, ↓reduceIte, Nat.reduceEqDiff, natA, t6, t0, hd]; rfl)); (· rfl); (· first | exact op_mv (by simp only [St.ev, ↓Tr.get_set, ↓reduceIte, Nat.reduceEqDiff, natA, t6, t0, hd]; rfl) | exact op_bin (by simp only [St.ev, ↓Tr.get_set, ↓reduceIte, Nat.reduceEqDiff, natA, t6, t0, hd]; rfl) (by simp only [St.ev, ↓Tr.get_set, ↓reduceIte, Nat.reduceEqDiff, natA, t6, t0, hd]; rfl) (by simp only [binA, intCmpA, strA, natA, t6, t0, hd]; rfl) | exact op_slen (by simp only [St.ev, ↓Tr.get_set, ↓reduceIte, Nat.reduceEqDiff, natA, t6, t0, hd]; rfl) | exact op_faddr (by simp only [St.ev, ↓Tr.get_set, ↓reduceIte, Nat.reduceEqDiff, natA, t6, t0, hd]; rfl) | exact op_nilc (by simp only [St.ev, ↓Tr.get_set, ↓reduceIte, Nat.reduceEqDiff, natA, t6, t0, hd]; rfl) | exact op_ext (by simp only [St.ev, ↓Tr.get_set, ↓reduceIte, Nat.reduceEqDiff, natA, t6, t0, hd]; rfl) (by rfl) | exact op_pick (by simp only [St.ev, ↓Tr.get_set, ↓reduceIte, Nat.reduceEqDiff, natA, t6, t0, hd]; rfl) (by first | exact .inl ⟨rfl, (by simp only [St.ev, ↓Tr.get_set, ↓reduceIte, Nat.reduceEqDiff, natA, t6, t0, hd]; rfl)⟩ | exact .inr ⟨rfl, (by simp only [St.ev, ↓Tr.get_set, ↓reduceIte, Nat.reduceEqDiff, natA, t6, t0, hd]; rfl)⟩) | exact op_un (by simp only [St.ev, ↓Tr.get_set, ↓reduceIte, Nat.reduceEqDiff, natA, t6, t0, hd]; rfl) (by simp only [unA, t6, t0, hd]; rfl) | (simp only [xval, xop, AR.ofV, St.ev, Tr.get_set, get_bump, next_bump, next_set, next_add, AHeap.get_set, reduceIte, Nat.reduceEqDiff, evL, evParts, fillA, AV.cells, natA, binA, intCmpA, unA, minA, maxA, Nat.add_assoc, Nat.reduceAdd, Nat.add_left_cancel_iff, Nat.add_eq_left, Nat.left_eq_add, loadA, cellsAt, storeA, Option.bind_some, iaddrA, aaddrA, t6, t0, hd]; rfl))) | (apply WO.gno'; (· (simp only [St.ev, ↓Tr.get_set, ↓reduceIte, Nat.reduceEqDiff, natA, t6, t0, hd]; rfl)); (· rfl)) | refine pN ?_ | refine pR ?_ | refine pX ?_ | refine bN ?_ | refine bR ?_ | refine bX ?_ | refine bO (by decide) ?_ | (apply W.condT'; (· (simp only [St.ev, ↓Tr.get_set, ↓reduceIte, Nat.reduceEqDiff, natA, t6, t0, hd]; rfl)); (· rfl)) | (apply W.condF'; (· (simp only [St.ev, ↓Tr.get_set, ↓reduceIte, Nat.reduceEqDiff, natA, t6, t0, hd]; rfl)); (· rfl)))
    subst hjl
    refine ⟨rfl, ⟨Nat.le_refl _, ?_, ?_, ?_, ⟨v, ?_, R.frame (by simp only [next_bump]; omega) (fun _ _ => rfl), ho⟩, by simp only [next_bump]; omega, fr⟩⟩
    all_goals (simp only [Tr.get_set, get_bump, next_bump, next_set, next_add, AHeap.get_set, reduceIte, Nat.reduceEqDiff] <;> assumption)
end Go.Proofs.Ytpbighinamljbaa.PA
