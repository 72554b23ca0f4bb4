/- Knows and Done over whatever machine that knows the calls below. No condition. -/
import Derived.Test.YtpbighinamljbaaKz
set_option linter.unusedSimpArgs false
set_option linter.unusedVariables false
namespace Go.Proofs.Ytpbighinamljbaa.PA
open Go Go.Eng Go.Proofs
set_option maxHeartbeats 4000000 in
theorem knows_okG {cf : CF} {fuel n : Nat} {H : AHeap} {x : AV} {l : Prs}
    (h57 : ∀ H, RowE 2 H x l.length (prsC l) → cf 57 [natA n, x] H = some (.int .i64 0, H)) (h54 : ∀ H, cf 54 [natA n] H = some (.agg ((begM n).map u8A), H))
    (h59 : ∀ k a b H, k.length = 6 → a < 6 → b < 6 → cf 59 [.agg (k.map (AV.int .u8)), .agg [natA a, natA b]] H = some (.agg ((callA k a b).map (.int .u8)), H)) (h1 : 1 ≤ n) (hn : n ≤ 6) (hl : l.length ≤ 60) (hv : Vld n l) (hx : RowE 2 H x l.length (prsC l)) (hf : 60 < fuel) :
    ∃ v H', xfunc cf fuel L38 [natA n, x] H = some (v, H') ∧
      ∃ u, v = .tup [u, natA 0] ∧ Kn H' n (runM (begM n) l) u ∧ H.next ≤ H'.next ∧ ∀ j, j < H.next → H'.get j = H.get j := by
  refine xfunc_of rfl (by show 2 ≤ 60; omega) ?_
  have a0 : (argsT [natA n, x] 0 .e).get 0 = some (natA n) := rfl
  have a1 : (argsT [natA n, x] 0 .e).get 1 = some x := rfl
  generalize argsT [natA n, x] 0 .e = tm at a0 a1
  have xl : ∀ j, x.own = some j → j < H.next := fun j q => hx.own_lt q
  unfold L38
  dsimp only
  refine W.seqN ?_
  refine W.rg 2 rfl (fun H1 hg1 hn1 => ?_)
  refine WO.op (by simp only [xval, xop, AR.ofV, St.ev, Tr.get_set, get_bump, next_bump, next_set, next_add, AHeap.get_set, reduceIte, Nat.reduceEqDiff, evL, evParts, fillA, AV.cells, natA, binA, intCmpA, unA, minA, maxA]; rfl) ?_
  refine WO.op (by simp only [xval, xop, AR.ofV, St.ev, Tr.get_set, get_bump, next_bump, next_set, next_add, AHeap.get_set, reduceIte, Nat.reduceEqDiff, evL, evParts, fillA, AV.cells, natA, binA, intCmpA, unA, minA, maxA]; rfl) ?_
  refine WO.nil ⟨rfl, W.seqN (W.seqN ?_)⟩
  refine W.rg 4 rfl (fun H2 hg2 hn2 => ?_)
  refine WO.op (by simp only [xval, xop, AR.ofV, St.ev, Tr.get_set, get_bump, next_bump, next_set, next_add, AHeap.get_set, reduceIte, Nat.reduceEqDiff, evL, evParts, fillA, AV.cells, natA, binA, intCmpA, unA, minA, maxA, a0, a1]; rfl) ?_
  refine WO.op (by simp only [xval, xop, AR.ofV, St.ev, Tr.get_set, get_bump, next_bump, next_set, next_add, AHeap.get_set, reduceIte, Nat.reduceEqDiff, evL, evParts, fillA, AV.cells, natA, binA, intCmpA, unA, minA, maxA, a0, a1]; rfl) ?_
  refine WO.op (v := .int .i64 0) (H1 := H2) (op_call (g := 57) (cs := []) (l := [natA n, x]) rfl (by simp only [evL, St.ev, Tr.get_set, get_bump, next_bump, next_set, next_add, AHeap.get_set, reduceIte, Nat.reduceEqDiff, a1, bind, Option.bind_some, natA]) (h57 _ (hx.frame (by omega) (fun j q => by rw [hg2, hg1])))) ?_
  refine WO.op (by simp only [xval, xop, AR.ofV, St.ev, Tr.get_set, get_bump, next_bump, next_set, next_add, AHeap.get_set, reduceIte, Nat.reduceEqDiff, evL, evParts, fillA, AV.cells, natA, binA, intCmpA, unA, minA, maxA]; rfl) ?_
  refine WO.nil ⟨rfl, W.seqN ?_⟩
  refine W.rg 2 rfl (fun H3 hg3 hn3 => ?_)
  refine WO.op (by simp only [xval, xop, AR.ofV, St.ev, Tr.get_set, get_bump, next_bump, next_set, next_add, AHeap.get_set, reduceIte, Nat.reduceEqDiff, evL, evParts, fillA, AV.cells, natA, binA, intCmpA, unA, minA, maxA]; rfl) ?_
  refine WO.op (by simp only [xval, xop, AR.ofV, St.ev, Tr.get_set, get_bump, next_bump, next_set, next_add, AHeap.get_set, reduceIte, Nat.reduceEqDiff, evL, evParts, fillA, AV.cells, natA, binA, intCmpA, unA, minA, maxA]; rfl) ?_
  refine WO.nil ⟨rfl, W.condF (by simp only [St.ev, Tr.get_set, get_bump, next_bump, next_set, next_add, AHeap.get_set, reduceIte, Nat.reduceEqDiff] <;> rfl) (W.skip ⟨rfl, W.seqN ?_⟩)⟩
  refine W.rg 4 rfl (fun H4 hg4 hn4 => ?_)
  refine WO.op (by simp only [xval, xop, AR.ofV, St.ev, Tr.get_set, get_bump, next_bump, next_set, next_add, AHeap.get_set, reduceIte, Nat.reduceEqDiff, evL, evParts, fillA, AV.cells, natA, binA, intCmpA, unA, minA, maxA, a0]; rfl) ?_
  refine WO.op (v := .agg ((begM n).map u8A)) (H1 := H4) (op_call (g := 54) (cs := []) (l := [natA n]) rfl (by simp only [evL, St.ev, Tr.get_set, get_bump, next_bump, next_set, next_add, AHeap.get_set, reduceIte, Nat.reduceEqDiff, bind, Option.bind_some, natA]) (h54 _)) ?_
  refine WO.alloc (fun H5 hg5 ho5 hn5 => ?_)
  have bl := (begM_inv n).1
  refine WO.store (v := .agg ((begM n).map u8A)) (by simp only [St.ev, Tr.get_set, get_bump, next_bump, next_set, next_add, AHeap.get_set, reduceIte, Nat.reduceEqDiff] <;> rfl) (by simp only [St.ev, Tr.get_set, get_bump, next_bump, next_set, next_add, AHeap.get_set, reduceIte, Nat.reduceEqDiff] <;> rfl) hg5 (by simp [AV.cells, bl]) (u8A_cells _) (by simp) (fun H6 hg6 ho6 hn6 => ?_)
  refine WO.nil ⟨rfl, W.seqN (W.seqN ?_)⟩
  have hnx6 : H.next ≤ H6.next := by omega
  have hfr6 : ∀ j, j < H.next → H6.get j = H.get j := fun j hj => by rw [ho6 j (by omega), ho5 j (by omega), hg4, hg3, hg2, hg1]
  obtain ⟨R, hR⟩ : ∃ R, H3.next + 1 + 1 = R := ⟨_, rfl⟩
  have hbox : H6.get R = some (.cells ((begM n).map u8A) none) := by
    rw [← hR, hg6]
    simp [overA, AV.cells, bl]
  refine W.rg 3 rfl (fun H7 hg7 hn7 => ?_)
  refine WO.op (op_mv (v := x) (by simp only [St.ev, Tr.get_set, get_bump, next_bump, next_set, next_add, AHeap.get_set, reduceIte, Nat.reduceEqDiff] <;> assumption)) ?_
  refine WO.op (op_lenE (hx.frame (by omega) (fun j q => by rw [hg7, hfr6 j (xl j q)])) (by simp only [St.ev, Tr.get_set, get_bump, next_bump, next_set, next_add, AHeap.get_set, reduceIte, Nat.reduceEqDiff])) ?_
  refine WO.op (by simp only [xval, xop, AR.ofV, St.ev, Tr.get_set, get_bump, next_bump, next_set, next_add, AHeap.get_set, reduceIte, Nat.reduceEqDiff, evL, evParts, fillA, AV.cells, natA, binA, intCmpA, unA, minA, maxA]; rfl) ?_
  refine WO.nil ⟨rfl, W.block ?_⟩
  refine W.mono (W.loop (KI H n x l R) (fun i => l.length - i) 0 (Q := fun e s' => e = .exit 0 ∧ KI H n x l R l.length s') ⟨by omega, ?_, ?_, ?_, ?_, ?_, ?_, ⟨by omega, by show R < H7.next; omega⟩, by show H.next ≤ H7.next; omega, fun j hj => ?_⟩ (by omega) (fun i s h => body38_ok h59 hx hn hl hv i s h)) (fun e s' q => ?_)
  · simp only [Tr.get_set, get_bump, next_bump, next_set, next_add, AHeap.get_set, reduceIte, Nat.reduceEqDiff] <;> assumption
  · simp only [Tr.get_set, get_bump, next_bump, next_set, next_add, AHeap.get_set, reduceIte, Nat.reduceEqDiff]
  · simp only [Tr.get_set, get_bump, next_bump, next_set, next_add, AHeap.get_set, reduceIte, Nat.reduceEqDiff] <;> rfl
  · simp only [Tr.get_set, get_bump, next_bump, next_set, next_add, AHeap.get_set, reduceIte, Nat.reduceEqDiff] <;> rfl
  · simp only [Tr.get_set, get_bump, next_bump, next_set, next_add, AHeap.get_set, reduceIte, Nat.reduceEqDiff, hR]
  · show H7.get R = _
    rw [hg7, hbox]; rfl
  · show H7.get j = _
    rw [hg7, hfr6 j hj]
  obtain ⟨he, ⟨_, t0, _, _, _, t7, box, hRR, nx, fr⟩⟩ := q
  subst he
  obtain ⟨tm8, H8⟩ := s'
  simp only at t0 t7 box hRR nx fr
  obtain ⟨k1, k2⟩ := runM_inv l (begM n) bl (begM_inv n).2
  rw [List.take_length] at box
  refine bX ⟨rfl, W.seqN ?_⟩
  refine W.rg 1 rfl (fun H9 hg9 hn9 => ?_)
  refine WO.op (by simp only [xval, xop, AR.ofV, St.ev, Tr.get_set, get_bump, next_bump, next_set, next_add, AHeap.get_set, reduceIte, Nat.reduceEqDiff, evL, evParts, fillA, AV.cells, natA, binA, intCmpA, unA, minA, maxA]; rfl) ?_
  refine WO.nil ⟨rfl, W.seqN (W.seqN ?_)⟩
  refine W.rg 4 rfl (fun H10 hg10 hn10 => ?_)
  refine WO.op (by simp only [xval, xop, AR.ofV, St.ev, Tr.get_set, get_bump, next_bump, next_set, next_add, AHeap.get_set, reduceIte, Nat.reduceEqDiff, evL, evParts, fillA, AV.cells, natA, binA, intCmpA, unA, minA, maxA, t0]; rfl) ?_
  have hb1 : bndA 6 (natA n) = some n := bndA_nat hn
  refine WO.op (v := .sl R 0 n 6) (H1 := H10) (by
    simp only [xval, xop, AR.ofV, St.ev, Tr.get_set, get_bump, next_bump, next_set, next_add, AHeap.get_set, reduceIte, Nat.reduceEqDiff, evL, evParts, fillA, AV.cells, natA, binA, intCmpA, unA, minA, maxA, t7, acutA, bounds, obnd, hiBnd, Option.bind_some]
    rw [show bndA 6 (AV.int .i64 (n : Int)) = some n from hb1, if_neg (by decide)]
    simp) ?_
  refine WO.op (by simp only [xval, xop, AR.ofV, St.ev, Tr.get_set, get_bump, next_bump, next_set, next_add, AHeap.get_set, reduceIte, Nat.reduceEqDiff, evL, evParts, fillA, AV.cells, natA, binA, intCmpA, unA, minA, maxA]; rfl) ?_
  refine WO.op (by simp only [xval, xop, AR.ofV, St.ev, Tr.get_set, get_bump, next_bump, next_set, next_add, AHeap.get_set, reduceIte, Nat.reduceEqDiff, evL, evParts, fillA, AV.cells, natA, binA, intCmpA, unA, minA, maxA]; rfl) ?_
  refine WO.nil ⟨rfl, W.block ?_⟩
  refine W.mono (W.loop (OI H n (runM (begM n) l) R) (fun i => n - i) 0 (Q := fun e s' => e = .exit 2 ∧ OI H n (runM (begM n) l) R n s') ⟨by omega, ?_, ?_, ?_, ?_, ⟨.nils, [], ?_, Row.nil 1 _, (fun o q => by cases q), fun j hj => absurd hj (by omega)⟩, ?_, ⟨hRR.1, by show R < H10.next; omega⟩, by show H.next ≤ H10.next; omega, fun j hj => ?_⟩ (by omega) (fun i s h => outer38_ok hn k1 k2 (by omega) i s h)) (fun e s' q => ?_)
  · simp only [Tr.get_set, get_bump, next_bump, next_set, next_add, AHeap.get_set, reduceIte, Nat.reduceEqDiff] <;> assumption
  · simp only [Tr.get_set, get_bump, next_bump, next_set, next_add, AHeap.get_set, reduceIte, Nat.reduceEqDiff]
  · simp only [Tr.get_set, get_bump, next_bump, next_set, next_add, AHeap.get_set, reduceIte, Nat.reduceEqDiff] <;> rfl
  · simp only [Tr.get_set, get_bump, next_bump, next_set, next_add, AHeap.get_set, reduceIte, Nat.reduceEqDiff] <;> rfl
  · simp only [Tr.get_set, get_bump, next_bump, next_set, next_add, AHeap.get_set, reduceIte, Nat.reduceEqDiff]
  · show H10.get R = _
    rw [hg10, hg9, box]
  · show H10.get j = _
    rw [hg10, hg9, fr j hj]
  obtain ⟨he, ⟨_, t0, _, _, _, ⟨v, vs, t10, Rv, ho, hin⟩, _, _, nx, fr⟩⟩ := q
  subst he
  obtain ⟨tm11, H11⟩ := s'
  simp only at t0 t10 Rv hin nx fr
  refine bX ⟨rfl, ?_⟩
  repeat (first | refine W.seq ?_ | refine W.block ?_ | refine W.skip ?_ | refine W.ret ?_ | refine W.exit ?_ | (apply W.reg; · (simp only [List.length_cons, List.length_nil, Nat.reduceAdd]; rfl)) | (apply W.regd0; · (simp only [List.length_cons, List.length_nil, Nat.reduceAdd]; rfl)) | refine WO.nil ?_ | (apply WO.op; · first | exact op_mv (by simp only [St.ev, ↓Tr.get_set, ↓reduceIte, Nat.reduceEqDiff, natA, t10]; rfl) | exact op_bin (by simp only [St.ev, ↓Tr.get_set, ↓reduceIte, Nat.reduceEqDiff, natA, t10]; rfl) (by simp only [St.ev, ↓Tr.get_set, ↓reduceIte, Nat.reduceEqDiff, natA, t10]; rfl) (by simp only [binA, intCmpA, strA, natA, t10]; rfl) | exact op_slen (by simp only [St.ev, ↓Tr.get_set, ↓reduceIte, Nat.reduceEqDiff, natA, t10]; rfl) | exact op_faddr (by simp only [St.ev, ↓Tr.get_set, ↓reduceIte, Nat.reduceEqDiff, natA, t10]; rfl) | exact op_nilc (by simp only [St.ev, ↓Tr.get_set, ↓reduceIte, Nat.reduceEqDiff, natA, t10]; rfl) | exact op_ext (by simp only [St.ev, ↓Tr.get_set, ↓reduceIte, Nat.reduceEqDiff, natA, t10]; rfl) (by rfl) | exact op_pick (by simp only [St.ev, ↓Tr.get_set, ↓reduceIte, Nat.reduceEqDiff, natA, t10]; rfl) (by first | exact .inl ⟨rfl, (by simp only [St.ev, ↓Tr.get_set, ↓reduceIte, Nat.reduceEqDiff, natA, t10]; rfl)⟩ | exact .inr ⟨rfl, (by simp only [St.ev, ↓Tr.get_set, ↓reduceIte, Nat.reduceEqDiff, natA, t10]; rfl)⟩) | exact op_un (by simp only [St.ev, ↓Tr.get_set, ↓reduceIte, Nat.reduceEqDiff, natA, t10]; rfl) (by simp only [unA, t10]; rfl) | (simp only [xval, xop, AR.ofV, St.ev, Tr.get_set, get_bump, next_bump, next_set, next_add, AHeap.get_set, reduceIte, Nat.reduceEqDiff, evL, evParts, fillA, AV.cells, natA, binA, intCmpA, unA, minA, maxA, Nat.add_assoc, Nat.reduceAdd, Nat.add_left_cancel_iff, Nat.add_eq_left, Nat.left_eq_add, loadA, cellsAt, storeA, Option.bind_some, iaddrA, aaddrA, t10]; rfl)) | (apply WO.opn; · (simp only [xval, xop, AR.ofV, St.ev, Tr.get_set, get_bump, next_bump, next_set, next_add, AHeap.get_set, reduceIte, Nat.reduceEqDiff, evL, evParts, fillA, AV.cells, natA, binA, intCmpA, unA, minA, maxA, Nat.add_assoc, Nat.reduceAdd, Nat.add_left_cancel_iff, Nat.add_eq_left, Nat.left_eq_add, loadA, cellsAt, storeA, Option.bind_some, iaddrA, aaddrA, t10]; rfl)) | (apply WO.gop'; (· (simp only [St.ev, ↓Tr.get_set, ↓reduceIte, Nat.reduceEqDiff, natA, t10]; rfl)); (· rfl); (· first | exact op_mv (by simp only [St.ev, ↓Tr.get_set, ↓reduceIte, Nat.reduceEqDiff, natA, t10]; rfl) | exact op_bin (by simp only [St.ev, ↓Tr.get_set, ↓reduceIte, Nat.reduceEqDiff, natA, t10]; rfl) (by simp only [St.ev, ↓Tr.get_set, ↓reduceIte, Nat.reduceEqDiff, natA, t10]; rfl) (by simp only [binA, intCmpA, strA, natA, t10]; rfl) | exact op_slen (by simp only [St.ev, ↓Tr.get_set, ↓reduceIte, Nat.reduceEqDiff, natA, t10]; rfl) | exact op_faddr (by simp only [St.ev, ↓Tr.get_set, ↓reduceIte, Nat.reduceEqDiff, natA, t10]; rfl) | exact op_nilc (by simp only [St.ev, ↓Tr.get_set, ↓reduceIte, Nat.reduceEqDiff, natA, t10]; rfl) | exact op_ext (by simp only [St.ev, ↓Tr.get_set, ↓reduceIte, Nat.reduceEqDiff, natA, t10]; rfl) (by rfl) | exact op_pick (by simp only [St.ev, ↓Tr.get_set, ↓reduceIte, Nat.reduceEqDiff, natA, t10]; rfl) (by first | exact .inl ⟨rfl, (by simp only [St.ev, ↓Tr.get_set, ↓reduceIte, Nat.reduceEqDiff, natA, t10]; rfl)⟩ | exact .inr ⟨rfl, (by simp only [St.ev, ↓Tr.get_set, ↓reduceIte, Nat.reduceEqDiff, natA, t10]; rfl)⟩) | exact op_un (by simp only [St.ev, ↓Tr.get_set, ↓reduceIte, Nat.reduceEqDiff, natA, t10]; rfl) (by simp only [unA, t10]; rfl) | (simp only [xval, xop, AR.ofV, St.ev, Tr.get_set, get_bump, next_bump, next_set, next_add, AHeap.get_set, reduceIte, Nat.reduceEqDiff, evL, evParts, fillA, AV.cells, natA, binA, intCmpA, unA, minA, maxA, Nat.add_assoc, Nat.reduceAdd, Nat.add_left_cancel_iff, Nat.add_eq_left, Nat.left_eq_add, loadA, cellsAt, storeA, Option.bind_some, iaddrA, aaddrA, t10]; rfl))) | (apply WO.gno'; (· (simp only [St.ev, ↓Tr.get_set, ↓reduceIte, Nat.reduceEqDiff, natA, t10]; rfl)); (· rfl)) | refine pN ?_ | refine pR ?_ | refine pX ?_ | refine bN ?_ | refine bR ?_ | refine bX ?_ | refine bO (by decide) ?_ | (apply W.condT'; (· (simp only [St.ev, ↓Tr.get_set, ↓reduceIte, Nat.reduceEqDiff, natA, t10]; rfl)); (· rfl)) | (apply W.condF'; (· (simp only [St.ev, ↓Tr.get_set, ↓reduceIte, Nat.reduceEqDiff, natA, t10]; rfl)); (· rfl)))
  refine ⟨fun id q => (by cases q), _, by simp only [resL, resA, Tr.get_set, get_bump, next_bump, next_set, next_add, AHeap.get_set, reduceIte, Nat.reduceEqDiff]; rfl, v, rfl, ⟨vs, Rv.frame (by simp only [next_bump]; omega) (fun _ _ => rfl), fun j hj => ?_⟩, by simp only [next_bump]; omega, fr⟩
  obtain ⟨u, u1, u2, u3⟩ := hin j hj
  exact ⟨u, u1, u2.frame (by simp only [next_bump]; omega) (fun _ _ => rfl), fun o q => (u3 o q).2⟩
set_option maxHeartbeats 4000000 in
theorem body34_okG {cf : CF} {fuel n R : Nat} {H0 : AHeap} {x : AV} {l : Prs}
    (h58 : ∀ (K : List Nat) H, K.length = 6 → cf 58 [.agg (K.map u8A), natA n] H = some (.bool (compl n K), H))
    (h59 : ∀ (K : List Nat) (a b : Nat) H, K.length = 6 → (∀ m ∈ K, m < 64) → a < 6 → b < 6 → cf 59 [.agg (K.map u8A), .agg [natA a, natA b]] H = some (.agg ((callM K a b).map u8A), H))
    (hx : RowE 2 H0 x l.length (prsC l)) (hn : n ≤ 6) (hl : l.length ≤ 60) (hv : Vld n l) (i : Nat) (s : St)
    (h : EI H0 n x l R i s ∧ ∀ j, j < i → compl n (runM (begM n) (l.take j)) = false) :
    W cf fuel body34 s fun e s' => (e = .normal → ∃ j, (EI H0 n x l R j s' ∧ ∀ q, q < j → compl n (runM (begM n) (l.take q)) = false) ∧ l.length - j < l.length - i) ∧
      (e ≠ .normal → e = .ret ∧ (∃ a b, s'.tm.get 4 = some a ∧ s'.tm.get 5 = some b ∧ DoneR n l a b) ∧ H0.next ≤ s'.H.next ∧ ∀ j, j < H0.next → s'.H.get j = H0.get j) := by
  obtain ⟨⟨le, t0, t1, t7, t8, box, hR, nx, fr⟩, hno⟩ := h
  obtain ⟨tm, H⟩ := s
  simp only at t0 t1 t7 t8 box hR nx fr
  unfold body34 L34
  dsimp only
  obtain ⟨k1, k2⟩ := runM_inv (l.take i) (begM n) (begM_inv n).1 (begM_inv n).2
  obtain ⟨K, hK⟩ : ∃ K, runM (begM n) (l.take i) = K := ⟨_, rfl⟩
  rw [hK] at k1 k2 box
  refine W.seq (W.block (W.seq (W.seqN ?_)))
  refine W.rg 3 rfl (fun H1 hg1 hn1 => ?_)
  refine WO.op (v := .agg (K.map u8A)) (op_load (a := .ptr R 0) (by simp only [St.ev, Tr.get_set, get_bump, next_bump, next_set, next_add, AHeap.get_set, reduceIte, Nat.reduceEqDiff, t7]) (by simp only [loadA, cellsAt, hg1, box, List.drop_zero, List.length_map, k1, Nat.le_refl, if_true]; rw [List.take_of_length_le (by simp [k1])])) ?_
  refine WO.op (by simp only [xval, xop, AR.ofV, St.ev, Tr.get_set, get_bump, next_bump, next_set, next_add, AHeap.get_set, reduceIte, Nat.reduceEqDiff, evL, evParts, fillA, AV.cells, natA, binA, intCmpA, unA, minA, maxA, t0]; rfl) ?_
  refine WO.op (v := .bool (compl n K)) (H1 := H1) (op_call (g := 58) (cs := []) (l := [.agg (K.map u8A), natA n]) rfl (by simp only [evL, St.ev, Tr.get_set, get_bump, next_bump, next_set, next_add, AHeap.get_set, reduceIte, Nat.reduceEqDiff, bind, Option.bind_some, natA]) (h58 K H1 k1)) ?_
  refine WO.nil ⟨rfl, ?_⟩
  cases hc : compl n K with
  | true =>
    refine W.condT (by simp only [St.ev, Tr.get_set, get_bump, next_bump, next_set, next_add, AHeap.get_set, reduceIte, Nat.reduceEqDiff, hc]) ?_
    repeat (first | refine W.seq ?_ | refine W.block ?_ | refine W.skip ?_ | refine W.ret ?_ | refine W.exit ?_ | (apply W.reg; · (simp only [List.length_cons, List.length_nil, Nat.reduceAdd]; rfl)) | (apply W.regd0; · (simp only [List.length_cons, List.length_nil, Nat.reduceAdd]; rfl)) | refine WO.nil ?_ | (apply WO.op; · first | exact op_mv (by simp only [St.ev, ↓Tr.get_set, ↓reduceIte, Nat.reduceEqDiff, natA, t8]; rfl) | exact op_bin (by simp only [St.ev, ↓Tr.get_set, ↓reduceIte, Nat.reduceEqDiff, natA, t8]; rfl) (by simp only [St.ev, ↓Tr.get_set, ↓reduceIte, Nat.reduceEqDiff, natA, t8]; rfl) (by simp only [binA, intCmpA, strA, natA, t8]; rfl) | exact op_slen (by simp only [St.ev, ↓Tr.get_set, ↓reduceIte, Nat.reduceEqDiff, natA, t8]; rfl) | exact op_faddr (by simp only [St.ev, ↓Tr.get_set, ↓reduceIte, Nat.reduceEqDiff, natA, t8]; rfl) | exact op_nilc (by simp only [St.ev, ↓Tr.get_set, ↓reduceIte, Nat.reduceEqDiff, natA, t8]; rfl) | exact op_ext (by simp only [St.ev, ↓Tr.get_set, ↓reduceIte, Nat.reduceEqDiff, natA, t8]; rfl) (by rfl) | exact op_pick (by simp only [St.ev, ↓Tr.get_set, ↓reduceIte, Nat.reduceEqDiff, natA, t8]; rfl) (by first | exact .inl ⟨rfl, (by simp only [St.ev, ↓Tr.get_set, ↓reduceIte, Nat.reduceEqDiff, natA, t8]; rfl)⟩ | exact .inr ⟨rfl, (by simp only [St.ev, ↓Tr.get_set, ↓reduceIte, Nat.reduceEqDiff, natA, t8]; rfl)⟩) | exact op_un (by simp only [St.ev, ↓Tr.get_set, ↓reduceIte, Nat.reduceEqDiff, natA, t8]; rfl) (by simp only [unA, t8]; rfl) | (simp only [xval, xop, AR.ofV, St.ev, Tr.get_set, get_bump, next_bump, next_set, next_add, AHeap.get_set, reduceIte, Nat.reduceEqDiff, evL, evParts, fillA, AV.cells, natA, binA, intCmpA, unA, minA, maxA, Nat.add_assoc, Nat.reduceAdd, Nat.add_left_cancel_iff, Nat.add_eq_left, Nat.left_eq_add, loadA, cellsAt, storeA, Option.bind_some, iaddrA, aaddrA, t8]; rfl)) | (apply WO.opn; · (simp only [xval, xop, AR.ofV, St.ev, Tr.get_set, get_bump, next_bump, next_set, next_add, AHeap.get_set, reduceIte, Nat.reduceEqDiff, evL, evParts, fillA, AV.cells, natA, binA, intCmpA, unA, minA, maxA, Nat.add_assoc, Nat.reduceAdd, Nat.add_left_cancel_iff, Nat.add_eq_left, Nat.left_eq_add, loadA, cellsAt, storeA, Option.bind_some, iaddrA, aaddrA, t8]; rfl)) | (apply WO.gop'; (· (simp only [St.ev, ↓Tr.get_set, ↓reduceIte, Nat.reduceEqDiff, natA, t8]; rfl)); (· rfl); (· first | exact op_mv (by simp only [St.ev, ↓Tr.get_set, ↓reduceIte, Nat.reduceEqDiff, natA, t8]; rfl) | exact op_bin (by simp only [St.ev, ↓Tr.get_set, ↓reduceIte, Nat.reduceEqDiff, natA, t8]; rfl) (by simp only [St.ev, ↓Tr.get_set, ↓reduceIte, Nat.reduceEqDiff, natA, t8]; rfl) (by simp only [binA, intCmpA, strA, natA, t8]; rfl) | exact op_slen (by simp only [St.ev, ↓Tr.get_set, ↓reduceIte, Nat.reduceEqDiff, natA, t8]; rfl) | exact op_faddr (by simp only [St.ev, ↓Tr.get_set, ↓reduceIte, Nat.reduceEqDiff, natA, t8]; rfl) | exact op_nilc (by simp only [St.ev, ↓Tr.get_set, ↓reduceIte, Nat.reduceEqDiff, natA, t8]; rfl) | exact op_ext (by simp only [St.ev, ↓Tr.get_set, ↓reduceIte, Nat.reduceEqDiff, natA, t8]; rfl) (by rfl) | exact op_pick (by simp only [St.ev, ↓Tr.get_set, ↓reduceIte, Nat.reduceEqDiff, natA, t8]; rfl) (by first | exact .inl ⟨rfl, (by simp only [St.ev, ↓Tr.get_set, ↓reduceIte, Nat.reduceEqDiff, natA, t8]; rfl)⟩ | exact .inr ⟨rfl, (by simp only [St.ev, ↓Tr.get_set, ↓reduceIte, Nat.reduceEqDiff, natA, t8]; rfl)⟩) | exact op_un (by simp only [St.ev, ↓Tr.get_set, ↓reduceIte, Nat.reduceEqDiff, natA, t8]; rfl) (by simp only [unA, t8]; rfl) | (simp only [xval, xop, AR.ofV, St.ev, Tr.get_set, get_bump, next_bump, next_set, next_add, AHeap.get_set, reduceIte, Nat.reduceEqDiff, evL, evParts, fillA, AV.cells, natA, binA, intCmpA, unA, minA, maxA, Nat.add_assoc, Nat.reduceAdd, Nat.add_left_cancel_iff, Nat.add_eq_left, Nat.left_eq_add, loadA, cellsAt, storeA, Option.bind_some, iaddrA, aaddrA, t8]; rfl))) | (apply WO.gno'; (· (simp only [St.ev, ↓Tr.get_set, ↓reduceIte, Nat.reduceEqDiff, natA, t8]; rfl)); (· rfl)) | refine pN ?_ | refine pR ?_ | refine pX ?_ | refine bN ?_ | refine bR ?_ | refine bX ?_ | refine bO (by decide) ?_ | (apply W.condT'; (· (simp only [St.ev, ↓Tr.get_set, ↓reduceIte, Nat.reduceEqDiff, natA, t8]; rfl)); (· rfl)) | (apply W.condF'; (· (simp only [St.ev, ↓Tr.get_set, ↓reduceIte, Nat.reduceEqDiff, natA, t8]; rfl)); (· rfl)))
    refine ⟨rfl, ⟨_, _, by simp only [Tr.get_set, get_bump, next_bump, next_set, next_add, AHeap.get_set, reduceIte, Nat.reduceEqDiff] <;> rfl, by simp only [Tr.get_set, get_bump, next_bump, next_set, next_add, AHeap.get_set, reduceIte, Nat.reduceEqDiff] <;> rfl, .inl ⟨i, le, by rw [hK]; exact hc, hno, rfl, rfl⟩⟩, by simp only [next_bump]; omega, fun j hj => ?_⟩
    show H1.get j = _
    rw [hg1, fr j hj]
  | false =>
    refine W.condF (by simp only [St.ev, Tr.get_set, get_bump, next_bump, next_set, next_add, AHeap.get_set, reduceIte, Nat.reduceEqDiff, hc]) (W.skip (pN (W.seq (W.seqN ?_))))
    have hno' : ∀ q, q < i + 1 → compl n (runM (begM n) (l.take q)) = false := fun q hq => by
      by_cases h : q = i
      · rw [h, hK]; exact hc
      · exact hno q (by omega)
    have hxH : RowE 2 H x l.length (prsC l) := hx.frame nx (fun j hj => fr j (hx.own_lt hj))
    refine W.rg 4 rfl (fun H2 hg2 hn2 => ?_)
    refine WO.op (by simp only [xval, xop, AR.ofV, St.ev, Tr.get_set, get_bump, next_bump, next_set, next_add, AHeap.get_set, reduceIte, Nat.reduceEqDiff, evL, evParts, fillA, AV.cells, natA, binA, intCmpA, unA, minA, maxA, t8, t1]; rfl) ?_
    refine WO.op (by simp only [xval, xop, AR.ofV, St.ev, Tr.get_set, get_bump, next_bump, next_set, next_add, AHeap.get_set, reduceIte, Nat.reduceEqDiff, evL, evParts, fillA, AV.cells, natA, binA, intCmpA, unA, minA, maxA, t8, t1]; rfl) ?_
    refine WO.op (op_lenE (hxH.frame (H' := H2) (by omega) (fun j hj => by rw [hg2, hg1])) (by simp only [St.ev, Tr.get_set, get_bump, next_bump, next_set, next_add, AHeap.get_set, reduceIte, Nat.reduceEqDiff])) ?_
    by_cases hi : i < l.length
    · have hd : ((i : Int) == (l.length : Int)) = false := by rw [beq_eq_false_iff_ne]; omega
      refine WO.op (by simp only [xval, xop, AR.ofV, St.ev, Tr.get_set, get_bump, next_bump, next_set, next_add, AHeap.get_set, reduceIte, Nat.reduceEqDiff, evL, evParts, fillA, AV.cells, natA, binA, intCmpA, unA, minA, maxA, hd]; rfl) ?_
      refine WO.nil ⟨rfl, W.condF (by simp only [St.ev, Tr.get_set, get_bump, next_bump, next_set, next_add, AHeap.get_set, reduceIte, Nat.reduceEqDiff] <;> rfl) (W.skip (pN ?_))⟩
      refine W.regd0 7 rfl ?_
      refine WO.named (fun H3 hH3 => ?_)
      have hg3 : ∀ j, H3.get j = H2.get j := fun j => by rw [hH3]; rfl
      have hn3 : H3.next = H2.next + 7 := by rw [hH3]; rfl
      clear hH3
      obtain ⟨p, hp⟩ : ∃ p, l[i]? = some p := ⟨_, List.getElem?_eq_getElem hi⟩
      obtain ⟨a, b⟩ := p
      obtain ⟨ha, hb, hab⟩ := hv (a, b) (List.mem_of_getElem? hp)
      simp only at ha hb hab
      have hw : wrapA .i64 ((i : Int) + Int.ofNat 1) = ((i + 1 : Nat) : Int) := by
        show wrapA .i64 ((i : Int) + 1) = _
        rw [wrapI _ (by omega) (by omega)]; rfl
      have hnext : callM K a b = runM (begM n) (l.take (i + 1)) := by
        rw [List.take_add_one, hp, ← hK]
        simp [runM]
      have hxR : Row 2 H x l.length (prsC l) := by
        rcases hxH with q | ⟨q, _⟩
        · exact q
        · omega
      have box3 : H3.get R = some (.cells (K.map u8A) none) := by rw [hg3, hg2, hg1]; exact box
      refine WO.op (v := .agg (K.map u8A)) (op_load (a := .ptr R 0) (by simp only [St.ev, Tr.get_set, get_bump, next_bump, next_set, next_add, AHeap.get_set, reduceIte, Nat.reduceEqDiff, t7]) (by simp only [loadA, cellsAt, box3, List.drop_zero, List.length_map, k1, Nat.le_refl, if_true]; rw [List.take_of_length_le (by simp [k1])])) ?_
      refine WO.op (by simp only [xval, xop, AR.ofV, St.ev, Tr.get_set, get_bump, next_bump, next_set, next_add, AHeap.get_set, reduceIte, Nat.reduceEqDiff, evL, evParts, fillA, AV.cells, natA, binA, intCmpA, unA, minA, maxA, t1]; rfl) ?_
      refine WO.op (by simp only [xval, xop, AR.ofV, St.ev, Tr.get_set, get_bump, next_bump, next_set, next_add, AHeap.get_set, reduceIte, Nat.reduceEqDiff, evL, evParts, fillA, AV.cells, natA, binA, intCmpA, unA, minA, maxA, t8]; rfl) ?_
      refine WO.cell2 (j := i) (c0 := natA a) (c1 := natA b) (hxR.frame (by omega) (fun j hj => by rw [hg3, hg2, hg1])) (by simp only [St.ev, Tr.get_set, get_bump, next_bump, next_set, next_add, AHeap.get_set, reduceIte, Nat.reduceEqDiff]) (by simp only [St.ev, Tr.get_set, get_bump, next_bump, next_set, next_add, AHeap.get_set, reduceIte, Nat.reduceEqDiff] <;> rfl) hi (prsC_at hp) (fun ow how => ?_)
      refine WO.op (v := .agg ((callM K a b).map u8A)) (H1 := H3) (op_call (g := 59) (cs := []) (l := [.agg (K.map u8A), .agg [natA a, natA b]]) rfl (by simp only [evL, St.ev, Tr.get_set, get_bump, next_bump, next_set, next_add, AHeap.get_set, reduceIte, Nat.reduceEqDiff, bind, Option.bind_some]) (h59 K a b H3 k1 k2 (by omega) (by omega))) ?_
      refine WO.store (i := R) (o := 0) (c := K.map u8A) (opn := none) (v := .agg ((callM K a b).map u8A)) (by simp only [St.ev, Tr.get_set, get_bump, next_bump, next_set, next_add, AHeap.get_set, reduceIte, Nat.reduceEqDiff, t7]) (by simp only [St.ev, Tr.get_set, get_bump, next_bump, next_set, next_add, AHeap.get_set, reduceIte, Nat.reduceEqDiff]) box3 (by simp [AV.cells, callM_len, k1]) (u8A_cells _) (by simp [k1]) (fun H6 hg6 ho6 hn6 => ?_)
      refine WO.nil (bN (pN ?_))
      repeat (first | refine W.seq ?_ | refine W.block ?_ | refine W.skip ?_ | refine W.ret ?_ | refine W.exit ?_ | (apply W.reg; · (simp only [List.length_cons, List.length_nil, Nat.reduceAdd]; rfl)) | (apply W.regd0; · (simp only [List.length_cons, List.length_nil, Nat.reduceAdd]; rfl)) | refine WO.nil ?_ | (apply WO.op; · first | exact op_mv (by simp only [St.ev, ↓Tr.get_set, ↓reduceIte, Nat.reduceEqDiff, natA, t8, hw]; rfl) | exact op_bin (by simp only [St.ev, ↓Tr.get_set, ↓reduceIte, Nat.reduceEqDiff, natA, t8, hw]; rfl) (by simp only [St.ev, ↓Tr.get_set, ↓reduceIte, Nat.reduceEqDiff, natA, t8, hw]; rfl) (by simp only [binA, intCmpA, strA, natA, t8, hw]; rfl) | exact op_slen (by simp only [St.ev, ↓Tr.get_set, ↓reduceIte, Nat.reduceEqDiff, natA, t8, hw]; rfl) | exact op_faddr (by simp only [St.ev, ↓Tr.get_set, ↓reduceIte, Nat.reduceEqDiff, natA, t8, hw]; rfl) | exact op_nilc (by simp only [St.ev, ↓Tr.get_set, ↓reduceIte, Nat.reduceEqDiff, natA, t8, hw]; rfl) | exact op_ext (by simp only [St.ev, ↓Tr.get_set, ↓reduceIte, Nat.reduceEqDiff, natA, t8, hw]; rfl) (by rfl) | exact op_pick (by simp only [St.ev, ↓Tr.get_set, ↓reduceIte, Nat.reduceEqDiff, natA, t8, hw]; rfl) (by first | exact .inl ⟨rfl, (by simp only [St.ev, ↓Tr.get_set, ↓reduceIte, Nat.reduceEqDiff, natA, t8, hw]; rfl)⟩ | exact .inr ⟨rfl, (by simp only [St.ev, ↓Tr.get_set, ↓reduceIte, Nat.reduceEqDiff, natA, t8, hw]; rfl)⟩) | exact op_un (by simp only [St.ev, ↓Tr.get_set, ↓reduceIte, Nat.reduceEqDiff, natA, t8, hw]; rfl) (by simp only [unA, t8, hw]; rfl) | (simp only [xval, xop, AR.ofV, St.ev, Tr.get_set, get_bump, next_bump, next_set, next_add, AHeap.get_set, reduceIte, Nat.reduceEqDiff, evL, evParts, fillA, AV.cells, natA, binA, intCmpA, unA, minA, maxA, Nat.add_assoc, Nat.reduceAdd, Nat.add_left_cancel_iff, Nat.add_eq_left, Nat.left_eq_add, loadA, cellsAt, storeA, Option.bind_some, iaddrA, aaddrA, t8, hw]; rfl)) | (apply WO.opn; · (simp only [xval, xop, AR.ofV, St.ev, Tr.get_set, get_bump, next_bump, next_set, next_add, AHeap.get_set, reduceIte, Nat.reduceEqDiff, evL, evParts, fillA, AV.cells, natA, binA, intCmpA, unA, minA, maxA, Nat.add_assoc, Nat.reduceAdd, Nat.add_left_cancel_iff, Nat.add_eq_left, Nat.left_eq_add, loadA, cellsAt, storeA, Option.bind_some, iaddrA, aaddrA, t8, hw]; rfl)) | (apply WO.gop'; (· (simp only [St.ev, ↓Tr.get_set, ↓reduceIte, Nat.reduceEqDiff, natA, t8, hw]; rfl)); (· rfl); (· first | exact op_mv (by simp only [St.ev, ↓Tr.get_set, ↓reduceIte, Nat.reduceEqDiff, natA, t8, hw]; rfl) | exact op_bin (by simp only [St.ev, ↓Tr.get_set, ↓reduceIte, Nat.reduceEqDiff, natA, t8, hw]; rfl) (by simp only [St.ev, ↓Tr.get_set, ↓reduceIte, Nat.reduceEqDiff, natA, t8, hw]; rfl) (by simp only [binA, intCmpA, strA, natA, t8, hw]; rfl) | exact op_slen (by simp only [St.ev, ↓Tr.get_set, ↓reduceIte, Nat.reduceEqDiff, natA, t8, hw]; rfl) | exact op_faddr (by simp only [St.ev, ↓Tr.get_set, ↓reduceIte, Nat.reduceEqDiff, natA, t8, hw]; rfl) | exact op_nilc (by simp only [St.ev, ↓Tr.get_set, ↓reduceIte, Nat.reduceEqDiff, natA, t8, hw]; rfl) | exact op_ext (by simp only [St.ev, ↓Tr.get_set, ↓reduceIte, Nat.reduceEqDiff, natA, t8, hw]; rfl) (by rfl) | exact op_pick (by simp only [St.ev, ↓Tr.get_set, ↓reduceIte, Nat.reduceEqDiff, natA, t8, hw]; rfl) (by first | exact .inl ⟨rfl, (by simp only [St.ev, ↓Tr.get_set, ↓reduceIte, Nat.reduceEqDiff, natA, t8, hw]; rfl)⟩ | exact .inr ⟨rfl, (by simp only [St.ev, ↓Tr.get_set, ↓reduceIte, Nat.reduceEqDiff, natA, t8, hw]; rfl)⟩) | exact op_un (by simp only [St.ev, ↓Tr.get_set, ↓reduceIte, Nat.reduceEqDiff, natA, t8, hw]; rfl) (by simp only [unA, t8, hw]; rfl) | (simp only [xval, xop, AR.ofV, St.ev, Tr.get_set, get_bump, next_bump, next_set, next_add, AHeap.get_set, reduceIte, Nat.reduceEqDiff, evL, evParts, fillA, AV.cells, natA, binA, intCmpA, unA, minA, maxA, Nat.add_assoc, Nat.reduceAdd, Nat.add_left_cancel_iff, Nat.add_eq_left, Nat.left_eq_add, loadA, cellsAt, storeA, Option.bind_some, iaddrA, aaddrA, t8, hw]; rfl))) | (apply WO.gno'; (· (simp only [St.ev, ↓Tr.get_set, ↓reduceIte, Nat.reduceEqDiff, natA, t8, hw]; rfl)); (· rfl)) | refine pN ?_ | refine pR ?_ | refine pX ?_ | refine bN ?_ | refine bR ?_ | refine bX ?_ | refine bO (by decide) ?_ | (apply W.condT'; (· (simp only [St.ev, ↓Tr.get_set, ↓reduceIte, Nat.reduceEqDiff, natA, t8, hw]; rfl)); (· rfl)) | (apply W.condF'; (· (simp only [St.ev, ↓Tr.get_set, ↓reduceIte, Nat.reduceEqDiff, natA, t8, hw]; rfl)); (· rfl)))
      refine ⟨i + 1, ⟨⟨by omega, ?_, ?_, ?_, ?_, ?_, ⟨hR.1, by simp only [next_bump]; omega⟩, by simp only [next_bump]; omega, fun j hj => ?_⟩, hno'⟩, by omega⟩
      · simp only [Tr.get_set, get_bump, next_bump, next_set, next_add, AHeap.get_set, reduceIte, Nat.reduceEqDiff] <;> assumption
      · simp only [Tr.get_set, get_bump, next_bump, next_set, next_add, AHeap.get_set, reduceIte, Nat.reduceEqDiff] <;> assumption
      · simp only [Tr.get_set, get_bump, next_bump, next_set, next_add, AHeap.get_set, reduceIte, Nat.reduceEqDiff] <;> assumption
      · simp only [Tr.get_set, get_bump, next_bump, next_set, next_add, AHeap.get_set, reduceIte, Nat.reduceEqDiff] <;> rfl
      · show H6.get R = _
        rw [hg6, ← hnext]
        simp [overA, AV.cells, callM_len, k1]
      · show H6.get j = _
        rw [ho6 j (by omega), hg3, hg2, hg1]
        exact fr j hj
    · have hil : i = l.length := by omega
      have hd : ((i : Int) == (l.length : Int)) = true := by simp [hil]
      refine WO.op (by simp only [xval, xop, AR.ofV, St.ev, Tr.get_set, get_bump, next_bump, next_set, next_add, AHeap.get_set, reduceIte, Nat.reduceEqDiff, evL, evParts, fillA, AV.cells, natA, binA, intCmpA, unA, minA, maxA, hd]; rfl) ?_
      refine WO.nil ⟨rfl, W.condT (by simp only [St.ev, Tr.get_set, get_bump, next_bump, next_set, next_add, AHeap.get_set, reduceIte, Nat.reduceEqDiff] <;> rfl) ?_⟩
      repeat (first | refine W.seq ?_ | refine W.block ?_ | refine W.skip ?_ | refine W.ret ?_ | refine W.exit ?_ | (apply W.reg; · (simp only [List.length_cons, List.length_nil, Nat.reduceAdd]; rfl)) | (apply W.regd0; · (simp only [List.length_cons, List.length_nil, Nat.reduceAdd]; rfl)) | refine WO.nil ?_ | (apply WO.op; · first | exact op_mv (by simp only [St.ev, ↓Tr.get_set, ↓reduceIte, Nat.reduceEqDiff, natA]; rfl) | exact op_bin (by simp only [St.ev, ↓Tr.get_set, ↓reduceIte, Nat.reduceEqDiff, natA]; rfl) (by simp only [St.ev, ↓Tr.get_set, ↓reduceIte, Nat.reduceEqDiff, natA]; rfl) (by simp only [binA, intCmpA, strA, natA]; rfl) | exact op_slen (by simp only [St.ev, ↓Tr.get_set, ↓reduceIte, Nat.reduceEqDiff, natA]; rfl) | exact op_faddr (by simp only [St.ev, ↓Tr.get_set, ↓reduceIte, Nat.reduceEqDiff, natA]; rfl) | exact op_nilc (by simp only [St.ev, ↓Tr.get_set, ↓reduceIte, Nat.reduceEqDiff, natA]; rfl) | exact op_ext (by simp only [St.ev, ↓Tr.get_set, ↓reduceIte, Nat.reduceEqDiff, natA]; rfl) (by rfl) | exact op_pick (by simp only [St.ev, ↓Tr.get_set, ↓reduceIte, Nat.reduceEqDiff, natA]; rfl) (by first | exact .inl ⟨rfl, (by simp only [St.ev, ↓Tr.get_set, ↓reduceIte, Nat.reduceEqDiff, natA]; rfl)⟩ | exact .inr ⟨rfl, (by simp only [St.ev, ↓Tr.get_set, ↓reduceIte, Nat.reduceEqDiff, natA]; rfl)⟩) | exact op_un (by simp only [St.ev, ↓Tr.get_set, ↓reduceIte, Nat.reduceEqDiff, natA]; rfl) (by simp only [unA]; rfl) | (simp only [xval, xop, AR.ofV, St.ev, Tr.get_set, get_bump, next_bump, next_set, next_add, AHeap.get_set, reduceIte, Nat.reduceEqDiff, evL, evParts, fillA, AV.cells, natA, binA, intCmpA, unA, minA, maxA, Nat.add_assoc, Nat.reduceAdd, Nat.add_left_cancel_iff, Nat.add_eq_left, Nat.left_eq_add, loadA, cellsAt, storeA, Option.bind_some, iaddrA, aaddrA]; rfl)) | (apply WO.opn; · (simp only [xval, xop, AR.ofV, St.ev, Tr.get_set, get_bump, next_bump, next_set, next_add, AHeap.get_set, reduceIte, Nat.reduceEqDiff, evL, evParts, fillA, AV.cells, natA, binA, intCmpA, unA, minA, maxA, Nat.add_assoc, Nat.reduceAdd, Nat.add_left_cancel_iff, Nat.add_eq_left, Nat.left_eq_add, loadA, cellsAt, storeA, Option.bind_some, iaddrA, aaddrA]; rfl)) | (apply WO.gop'; (· (simp only [St.ev, ↓Tr.get_set, ↓reduceIte, Nat.reduceEqDiff, natA]; rfl)); (· rfl); (· first | exact op_mv (by simp only [St.ev, ↓Tr.get_set, ↓reduceIte, Nat.reduceEqDiff, natA]; rfl) | exact op_bin (by simp only [St.ev, ↓Tr.get_set, ↓reduceIte, Nat.reduceEqDiff, natA]; rfl) (by simp only [St.ev, ↓Tr.get_set, ↓reduceIte, Nat.reduceEqDiff, natA]; rfl) (by simp only [binA, intCmpA, strA, natA]; rfl) | exact op_slen (by simp only [St.ev, ↓Tr.get_set, ↓reduceIte, Nat.reduceEqDiff, natA]; rfl) | exact op_faddr (by simp only [St.ev, ↓Tr.get_set, ↓reduceIte, Nat.reduceEqDiff, natA]; rfl) | exact op_nilc (by simp only [St.ev, ↓Tr.get_set, ↓reduceIte, Nat.reduceEqDiff, natA]; rfl) | exact op_ext (by simp only [St.ev, ↓Tr.get_set, ↓reduceIte, Nat.reduceEqDiff, natA]; rfl) (by rfl) | exact op_pick (by simp only [St.ev, ↓Tr.get_set, ↓reduceIte, Nat.reduceEqDiff, natA]; rfl) (by first | exact .inl ⟨rfl, (by simp only [St.ev, ↓Tr.get_set, ↓reduceIte, Nat.reduceEqDiff, natA]; rfl)⟩ | exact .inr ⟨rfl, (by simp only [St.ev, ↓Tr.get_set, ↓reduceIte, Nat.reduceEqDiff, natA]; rfl)⟩) | exact op_un (by simp only [St.ev, ↓Tr.get_set, ↓reduceIte, Nat.reduceEqDiff, natA]; rfl) (by simp only [unA]; rfl) | (simp only [xval, xop, AR.ofV, St.ev, Tr.get_set, get_bump, next_bump, next_set, next_add, AHeap.get_set, reduceIte, Nat.reduceEqDiff, evL, evParts, fillA, AV.cells, natA, binA, intCmpA, unA, minA, maxA, Nat.add_assoc, Nat.reduceAdd, Nat.add_left_cancel_iff, Nat.add_eq_left, Nat.left_eq_add, loadA, cellsAt, storeA, Option.bind_some, iaddrA, aaddrA]; rfl))) | (apply WO.gno'; (· (simp only [St.ev, ↓Tr.get_set, ↓reduceIte, Nat.reduceEqDiff, natA]; rfl)); (· rfl)) | refine pN ?_ | refine pR ?_ | refine pX ?_ | refine bN ?_ | refine bR ?_ | refine bX ?_ | refine bO (by decide) ?_ | (apply W.condT'; (· (simp only [St.ev, ↓Tr.get_set, ↓reduceIte, Nat.reduceEqDiff, natA]; rfl)); (· rfl)) | (apply W.condF'; (· (simp only [St.ev, ↓Tr.get_set, ↓reduceIte, Nat.reduceEqDiff, natA]; rfl)); (· rfl)))
      refine ⟨rfl, ⟨_, _, by simp only [Tr.get_set, get_bump, next_bump, next_set, next_add, AHeap.get_set, reduceIte, Nat.reduceEqDiff] <;> rfl, by simp only [Tr.get_set, get_bump, next_bump, next_set, next_add, AHeap.get_set, reduceIte, Nat.reduceEqDiff] <;> rfl, .inr ⟨fun q hq => hno' q (by omega), rfl, rfl⟩⟩, by simp only [next_bump]; omega, fun j hj => ?_⟩
      show H2.get j = _
      rw [hg2, hg1, fr j hj]
set_option maxHeartbeats 4000000 in
theorem done_okG {cf : CF} {fuel n : Nat} {H : AHeap} {x : AV} {l : Prs}
    (h57 : ∀ H, RowE 2 H x l.length (prsC l) → cf 57 [natA n, x] H = some (.int .i64 0, H)) (h54 : ∀ H, cf 54 [natA n] H = some (.agg ((begM n).map u8A), H))
    (h58 : ∀ (K : List Nat) H, K.length = 6 → cf 58 [.agg (K.map u8A), natA n] H = some (.bool (compl n K), H))
    (h59 : ∀ (K : List Nat) (a b : Nat) H, K.length = 6 → (∀ m ∈ K, m < 64) → a < 6 → b < 6 → cf 59 [.agg (K.map u8A), .agg [natA a, natA b]] H = some (.agg ((callM K a b).map u8A), H))
    (h1 : 1 ≤ n) (hn : n ≤ 6) (hl : l.length ≤ 60) (hv : Vld n l) (hx : RowE 2 H x l.length (prsC l)) (hf : 61 < fuel) :
    ∃ v H', xfunc cf fuel L34 [natA n, x] H = some (v, H') ∧ (∃ a b, v = .tup [a, b] ∧ DoneR n l a b) ∧ H.next ≤ H'.next ∧ ∀ j, j < H.next → H'.get j = H.get j := by
  refine xfunc_of rfl (by show 2 ≤ 33; omega) ?_
  have a0 : (argsT [natA n, x] 0 .e).get 0 = some (natA n) := rfl
  have a1 : (argsT [natA n, x] 0 .e).get 1 = some x := rfl
  generalize argsT [natA n, x] 0 .e = tm at a0 a1
  unfold L34
  dsimp only
  refine W.seqN ?_
  refine W.rg 2 rfl (fun H1 hg1 hn1 => ?_)
  refine WO.op (by simp only [xval, xop, AR.ofV, St.ev, Tr.get_set, get_bump, next_bump, next_set, next_add, AHeap.get_set, reduceIte, Nat.reduceEqDiff, evL, evParts, fillA, AV.cells, natA, binA, intCmpA, unA, minA, maxA]; rfl) ?_
  refine WO.op (by simp only [xval, xop, AR.ofV, St.ev, Tr.get_set, get_bump, next_bump, next_set, next_add, AHeap.get_set, reduceIte, Nat.reduceEqDiff, evL, evParts, fillA, AV.cells, natA, binA, intCmpA, unA, minA, maxA]; rfl) ?_
  refine WO.nil ⟨rfl, W.seqN (W.seqN ?_)⟩
  refine W.rg 4 rfl (fun H2 hg2 hn2 => ?_)
  refine WO.op (by simp only [xval, xop, AR.ofV, St.ev, Tr.get_set, get_bump, next_bump, next_set, next_add, AHeap.get_set, reduceIte, Nat.reduceEqDiff, evL, evParts, fillA, AV.cells, natA, binA, intCmpA, unA, minA, maxA, a0, a1]; rfl) ?_
  refine WO.op (by simp only [xval, xop, AR.ofV, St.ev, Tr.get_set, get_bump, next_bump, next_set, next_add, AHeap.get_set, reduceIte, Nat.reduceEqDiff, evL, evParts, fillA, AV.cells, natA, binA, intCmpA, unA, minA, maxA, a0, a1]; rfl) ?_
  refine WO.op (v := .int .i64 0) (H1 := H2) (op_call (g := 57) (cs := []) (l := [natA n, x]) rfl (by simp only [evL, St.ev, Tr.get_set, get_bump, next_bump, next_set, next_add, AHeap.get_set, reduceIte, Nat.reduceEqDiff, a1, bind, Option.bind_some, natA]) (h57 _ (hx.frame (by omega) (fun j q => by rw [hg2, hg1])))) ?_
  refine WO.op (by simp only [xval, xop, AR.ofV, St.ev, Tr.get_set, get_bump, next_bump, next_set, next_add, AHeap.get_set, reduceIte, Nat.reduceEqDiff, evL, evParts, fillA, AV.cells, natA, binA, intCmpA, unA, minA, maxA]; rfl) ?_
  refine WO.nil ⟨rfl, W.seqN ?_⟩
  refine W.rg 2 rfl (fun H3 hg3 hn3 => ?_)
  refine WO.op (by simp only [xval, xop, AR.ofV, St.ev, Tr.get_set, get_bump, next_bump, next_set, next_add, AHeap.get_set, reduceIte, Nat.reduceEqDiff, evL, evParts, fillA, AV.cells, natA, binA, intCmpA, unA, minA, maxA]; rfl) ?_
  refine WO.op (by simp only [xval, xop, AR.ofV, St.ev, Tr.get_set, get_bump, next_bump, next_set, next_add, AHeap.get_set, reduceIte, Nat.reduceEqDiff, evL, evParts, fillA, AV.cells, natA, binA, intCmpA, unA, minA, maxA]; rfl) ?_
  refine WO.nil ⟨rfl, W.condF (by simp only [St.ev, Tr.get_set, get_bump, next_bump, next_set, next_add, AHeap.get_set, reduceIte, Nat.reduceEqDiff] <;> rfl) (W.skip ⟨rfl, W.seqN ?_⟩)⟩
  refine W.rg 4 rfl (fun H4 hg4 hn4 => ?_)
  refine WO.op (by simp only [xval, xop, AR.ofV, St.ev, Tr.get_set, get_bump, next_bump, next_set, next_add, AHeap.get_set, reduceIte, Nat.reduceEqDiff, evL, evParts, fillA, AV.cells, natA, binA, intCmpA, unA, minA, maxA, a0]; rfl) ?_
  refine WO.op (v := .agg ((begM n).map u8A)) (H1 := H4) (op_call (g := 54) (cs := []) (l := [natA n]) rfl (by simp only [evL, St.ev, Tr.get_set, get_bump, next_bump, next_set, next_add, AHeap.get_set, reduceIte, Nat.reduceEqDiff, bind, Option.bind_some, natA]) (h54 _)) ?_
  refine WO.alloc (fun H5 hg5 ho5 hn5 => ?_)
  have bl := (begM_inv n).1
  refine WO.store (v := .agg ((begM n).map u8A)) (by simp only [St.ev, Tr.get_set, get_bump, next_bump, next_set, next_add, AHeap.get_set, reduceIte, Nat.reduceEqDiff] <;> rfl) (by simp only [St.ev, Tr.get_set, get_bump, next_bump, next_set, next_add, AHeap.get_set, reduceIte, Nat.reduceEqDiff] <;> rfl) hg5 (by simp [AV.cells, bl]) (u8A_cells _) (by simp) (fun H6 hg6 ho6 hn6 => ?_)
  refine WO.nil ⟨rfl, W.seqN ?_⟩
  have hfr6 : ∀ j, j < H.next → H6.get j = H.get j := fun j hj => by rw [ho6 j (by omega), ho5 j (by omega), hg4, hg3, hg2, hg1]
  obtain ⟨R, hR⟩ : ∃ R, H3.next + 1 + 1 = R := ⟨_, rfl⟩
  have hbox : H6.get R = some (.cells ((begM n).map u8A) none) := by
    rw [← hR, hg6]
    simp [overA, AV.cells, bl]
  refine W.rg 1 rfl (fun H7 hg7 hn7 => ?_)
  refine WO.op (by simp only [xval, xop, AR.ofV, St.ev, Tr.get_set, get_bump, next_bump, next_set, next_add, AHeap.get_set, reduceIte, Nat.reduceEqDiff, evL, evParts, fillA, AV.cells, natA, binA, intCmpA, unA, minA, maxA]; rfl) ?_
  refine WO.nil ⟨rfl, W.block ?_⟩
  refine W.mono (W.loop (fun i s => EI H n x l R i s ∧ ∀ j, j < i → compl n (runM (begM n) (l.take j)) = false) (fun i => l.length - i) 0 (Q := fun e s' => e = .ret ∧ (∃ a b, s'.tm.get 4 = some a ∧ s'.tm.get 5 = some b ∧ DoneR n l a b) ∧ H.next ≤ s'.H.next ∧ ∀ j, j < H.next → s'.H.get j = H.get j) ⟨⟨by omega, ?_, ?_, ?_, ?_, ?_, ⟨by omega, by show R < H7.next; omega⟩, by show H.next ≤ H7.next; omega, fun j hj => ?_⟩, fun j hj => by omega⟩ (by omega) (fun i s h => body34_okG h58 h59 hx hn hl hv i s h)) (fun e s' q => ?_)
  · simp only [Tr.get_set, get_bump, next_bump, next_set, next_add, AHeap.get_set, reduceIte, Nat.reduceEqDiff] <;> assumption
  · simp only [Tr.get_set, get_bump, next_bump, next_set, next_add, AHeap.get_set, reduceIte, Nat.reduceEqDiff] <;> assumption
  · simp only [Tr.get_set, get_bump, next_bump, next_set, next_add, AHeap.get_set, reduceIte, Nat.reduceEqDiff, hR]
  · simp only [Tr.get_set, get_bump, next_bump, next_set, next_add, AHeap.get_set, reduceIte, Nat.reduceEqDiff] <;> rfl
  · show H7.get R = _
    rw [hg7, hbox]; rfl
  · show H7.get j = _
    rw [hg7, hfr6 j hj]
  obtain ⟨he, ⟨a, b, g4, g5, hd⟩, nx, fr⟩ := q
  subst he
  obtain ⟨tm', H'⟩ := s'
  simp only at g4 g5 nx fr
  refine bR ?_
  exact ⟨fun id q => (by cases q), _, by simp only [resL, resA, g4, g5]; rfl, ⟨a, b, rfl, hd⟩, nx, fr⟩
theorem z_54 {k n : Nat} {H : AHeap} (hn : n ≤ 6) : cfZ k 54 [natA n] H = some (.agg ((begM n).map u8A), H) := cfZ_KZ (cf_54 (k := 0) hn)
theorem z_57v {k n : Nat} {H : AHeap} {x : AV} {l : Prs} (h1 : 1 ≤ n) (hn : n ≤ 6) (hl : l.length ≤ 60) (hv : Vld n l) (h : RowE 2 H x l.length (prsC l)) : cfZ k 57 [natA n, x] H = some (.int .i64 0, H) := by
  have h' : RowE 2 H x (l.map (fun c => ((c.1 : Int), (c.2 : Int)))).length (zc (l.map (fun c => ((c.1 : Int), (c.2 : Int))))) := by
    rw [zc_prs, List.length_map]
    exact h
  have e : errZ (n : Int) (l.map (fun c => ((c.1 : Int), (c.2 : Int)))) = 0 := by
    rw [errZ, List.length_map, if_neg (by omega), if_neg (by omega), if_neg]
    rw [List.any_eq_true]
    rintro ⟨c, hc, hb⟩
    obtain ⟨q, hq, rfl⟩ := List.mem_map.1 hc
    have := hv q hq
    simp only [badZ, decide_eq_true_eq] at hb
    omega
  have := z_57 (k := k) (n := (n : Int)) h'
  rw [e] at this
  exact this
theorem z_58 {k n : Nat} {K : List Nat} (hK : K.length = 6) (hn : n ≤ 6) (H : AHeap) : cfZ k 58 [.agg (K.map u8A), natA n] H = some (.bool (compl n K), H) := cfZ_KZ (d_58 (k := 0) hK hn H)
theorem z_59 {k : Nat} {K : List Nat} (hK : K.length = 6) (hlt : ∀ m ∈ K, m < 64) {a b : Nat} (ha : a < 6) (hb : b < 6) (H : AHeap) :
    cfZ k 59 [.agg (K.map u8A), .agg [natA a, natA b]] H = some (.agg ((callM K a b).map u8A), H) := cfZ_KZ (d_59 (k := 0) hK hlt ha hb H)
theorem z_59' {k : Nat} (xs : List Int) (a b : Nat) (H : AHeap) (hx : xs.length = 6) (ha : a < 6) (hb : b < 6) : cfZ k 59 [.agg (xs.map (AV.int .u8)), .agg [natA a, natA b]] H = some (.agg ((callA xs a b).map (.int .u8)), H) :=
  cfZ_KZ (cf_59 (k := 0) xs a b H hx ha hb)
theorem z_38 {k n : Nat} {H : AHeap} {x : AV} {l : Prs} (h1 : 1 ≤ n) (hn : n ≤ 6) (hl : l.length ≤ 60) (hv : Vld n l) (hx : RowE 2 H x l.length (prsC l)) :
    ∃ H' u, cfZ (k + 1) 38 [natA n, x] H = some (.tup [u, natA 0], H') ∧ Kn H' n (runM (begM n) l) u ∧ H.next ≤ H'.next ∧ ∀ j, j < H.next → H'.get j = H.get j := by
  obtain ⟨v, H', c, u, rfl, h⟩ := knows_okG (cf := cfZ k) (fuel := 300) (fun H h => z_57v h1 hn hl hv h) (fun H => z_54 hn) (fun k a b H hk ha hb => z_59' k a b H hk ha hb) h1 hn hl hv hx (by omega)
  exact ⟨H', u, (cfZ_step rfl rfl).trans c, h⟩
theorem z_34 {k n : Nat} {H : AHeap} {x : AV} {l : Prs} (h1 : 1 ≤ n) (hn : n ≤ 6) (hl : l.length ≤ 60) (hv : Vld n l) (hx : RowE 2 H x l.length (prsC l)) :
    ∃ H' a b, cfZ (k + 1) 34 [natA n, x] H = some (.tup [a, b], H') ∧ DoneR n l a b ∧ H.next ≤ H'.next ∧ ∀ j, j < H.next → H'.get j = H.get j := by
  obtain ⟨v, H', c, ⟨a, b, rfl, hd⟩, h⟩ := done_okG (cf := cfZ k) (fuel := 300) (fun H h => z_57v h1 hn hl hv h) (fun H => z_54 hn) (fun K H hK => z_58 hK hn H) (fun K a b H hK hlt ha hb => z_59 hK hlt ha hb H) h1 hn hl hv hx (by omega)
  exact ⟨H', a, b, (cfZ_step rfl rfl).trans c, hd, h⟩
end Go.Proofs.Ytpbighinamljbaa.PA
