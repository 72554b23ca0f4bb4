/- news.Knows, over the abstract machine. No condition. -/
import Derived.Test.YtpbighinamljbaaKnow2
set_option linter.unusedSimpArgs false
set_option linter.unusedVariables false
namespace Go.Proofs.Ytpbighinamljbaa.PA
open Go Go.Eng Go.Proofs

theorem cfL_KL {k f : Nat} {args : List AV} {H : AHeap} {r : AV × AHeap} (h : KL f args H = some r) : cfL k f args H = some r := by
  unfold cfL
  cases k with
  | zero => exact h
  | succ k => unfold xcallK; rw [h]

theorem cellsA_row {z l : Nat} {H : AHeap} {v : AV} {cs : List AV} (h : RowE z H v l cs) : cellsA H z v = some (l, cs) := by
  have h1 := h.len
  have h2 := h.src
  have h3 := h.csl
  have h4 := h.nstr
  have hc : ¬ (l = 0 ∧ cs ≠ []) := fun ⟨p, q⟩ => q (List.eq_nil_of_length_eq_zero (by rw [h3, p, Nat.zero_mul]))
  unfold cellsA
  split
  · rename_i s
    exact absurd rfl (h4 s)
  · rw [h1, Option.bind_some, h2, Option.bind_some, if_neg hc]
theorem natOf_nat (n : Nat) : natOf (natA n) = some n := rfl

theorem maskOf_memb {m : Nat} (hm : m < 64) : maskOf (memb 6 m) = some m := by
  have h : ((List.range 64).all fun m => maskOf (memb 6 m) == some m) = true := by kernel_rfl
  rw [List.all_eq_true] at h
  simpa using h m (List.mem_range.2 hm)
theorem memb_six {n m : Nat} (hn : n ≤ 6) (hm : m < 2 ^ n) : memb n m = memb 6 m := by
  have h : ((List.range 7).all fun n => (List.range (2 ^ n)).all fun m => memb n m == memb 6 m) = true := by kernel_rfl
  rw [List.all_eq_true] at h
  have h1 := h n (List.mem_range.2 (by omega))
  rw [List.all_eq_true] at h1
  simpa using h1 m (List.mem_range.2 hm)

theorem KL_24 {n x : AV} {H : AHeap} : KL 24 [n, x] H = (natOf n).bind fun n => (cellsA H 1 x).bind fun c => (natsOf c.2).bind fun l => (maskOf l).bind fun m => if n < 7 ∧ l.length = c.1 then some (.bool (decide (m < 2 ^ n)), H) else none := rfl
theorem KL_25 {x : AV} {H : AHeap} : KL 25 [x] H = (cellsA H 1 x).bind fun c => (natsOf c.2).bind fun l => (maskOf l).bind fun m => if l.length = c.1 then some (natA m, H) else none := rfl
theorem KL_54 {n : AV} {H : AHeap} : KL 54 [n] H = (natOf n).bind fun n => if n < 7 then some (.agg (begA n), H) else none := rfl
theorem KL_57 {n x : AV} {H : AHeap} : KL 57 [n, x] H = (natOf n).bind fun n => (cellsA H 2 x).bind fun c => (natsOf c.2).bind fun l => (prsOf l).bind fun p => if 1 ≤ n ∧ n ≤ 6 ∧ p.length ≤ 60 ∧ vldB n p = true ∧ p.length = c.1 then some (.int .i64 0, H) else none := rfl
theorem KL_59 {k : List AV} {a b : AV} {H : AHeap} : KL 59 [.agg k, .agg [a, b]] H = (u8sOf k).bind fun k => (natOf a).bind fun a => (natOf b).bind fun b => if k.length = 6 ∧ a < 6 ∧ b < 6 then some (.agg ((callA k a b).map (.int .u8)), H) else none := rfl
theorem cf_17 {k : Nat} {H : AHeap} : cfL k 17 [] H = some (.bool true, H) := cfL_KL rfl
theorem cf_24 {k n m : Nat} {H : AHeap} {x : AV} (hn : n ≤ 6) (hm : m < 2 ^ n) (h : Row 1 H x (memb n m).length ((memb n m).map natA)) : cfL k 24 [natA n, x] H = some (.bool true, H) := by
  have hm6 : m < 64 := Nat.lt_of_lt_of_le hm (Nat.pow_le_pow_right (by omega) hn)
  apply cfL_KL
  rw [KL_24]
  rw [natOf_nat, Option.bind_some, cellsA_row (.inl h), Option.bind_some]
  dsimp only
  rw [natsOf_map, Option.bind_some, memb_six hn hm, maskOf_memb hm6, Option.bind_some, if_pos ⟨by omega, rfl⟩, decide_eq_true hm]
theorem cf_25 {k n m : Nat} {H : AHeap} {x : AV} (hn : n ≤ 6) (hm : m < 2 ^ n) (h : Row 1 H x (memb n m).length ((memb n m).map natA)) : cfL k 25 [x] H = some (natA m, H) := by
  have hm6 : m < 64 := Nat.lt_of_lt_of_le hm (Nat.pow_le_pow_right (by omega) hn)
  apply cfL_KL
  rw [KL_25]
  rw [cellsA_row (.inl h), Option.bind_some]
  dsimp only
  rw [natsOf_map, Option.bind_some, memb_six hn hm, maskOf_memb hm6, Option.bind_some, if_pos rfl]
theorem cf_54 {k n : Nat} {H : AHeap} (hn : n ≤ 6) : cfL k 54 [natA n] H = some (.agg ((begM n).map u8A), H) := by
  apply cfL_KL
  rw [KL_54]
  rw [natOf_nat, Option.bind_some, if_pos (by omega), begA_eq]
theorem cf_57 {k n : Nat} {H : AHeap} {x : AV} {l : Prs} (h1 : 1 ≤ n) (hn : n ≤ 6) (hl : l.length ≤ 60) (hv : Vld n l) (h : RowE 2 H x l.length (prsC l)) : cfL k 57 [natA n, x] H = some (.int .i64 0, H) := by
  apply cfL_KL
  rw [KL_57]
  rw [natOf_nat, Option.bind_some, cellsA_row h, Option.bind_some]
  dsimp only
  rw [prsC_nats, natsOf_map, Option.bind_some, prsOf_flat, Option.bind_some, if_pos ⟨h1, hn, hl, vldB_iff.2 hv, rfl⟩]
theorem cf_59 {k : Nat} (xs : List Int) (a b : Nat) (H : AHeap) (hx : xs.length = 6) (ha : a < 6) (hb : b < 6) : cfL k 59 [.agg (xs.map (AV.int .u8)), .agg [natA a, natA b]] H = some (.agg ((callA xs a b).map (.int .u8)), H) := by
  apply cfL_KL
  rw [KL_59]
  rw [u8sOf_map, Option.bind_some, natOf_nat, Option.bind_some, natOf_nat, Option.bind_some, if_pos ⟨hx, ha, hb⟩]

/-- Who knows what, as a value. -/
def Kn (H : AHeap) (n : Nat) (K : List Nat) (v : AV) : Prop :=
  ∃ vs, Row 1 H v n vs ∧ ∀ j, j < n → ∃ u, vs[j]? = some u ∧ Row 1 H u (memb n (K.getD j 0)).length ((memb n (K.getD j 0)).map natA) ∧ (∀ o, u.own = some o → v.own ≠ some o)
/-- What a value reaches lies behind h. -/
def KnB (h n : Nat) (H : AHeap) (v : AV) : Prop := ∀ vs, Row 1 H v n vs → (∀ o, v.own = some o → h ≤ o) ∧ ∀ u ∈ vs, ∀ o, u.own = some o → h ≤ o

theorem Kn.frame {H H' : AHeap} {n : Nat} {K : List Nat} {v : AV} (h : Kn H n K v) (hn : H.next ≤ H'.next) (hg : ∀ j, j < H.next → H'.get j = H.get j) : Kn H' n K v := by
  obtain ⟨vs, h1, h2⟩ := h
  refine ⟨vs, h1.frame hn (fun o q => hg o (h1.own_lt q)), fun j hj => ?_⟩
  obtain ⟨u, u1, u2, u3⟩ := h2 j hj
  exact ⟨u, u1, u2.frame hn (fun o q => hg o (u2.own_lt q)), u3⟩

set_option maxHeartbeats 4000000 in
theorem knows_ok {k fuel n : Nat} {H : AHeap} {x : AV} {l : Prs} (h1 : 1 ≤ n) (hn : n ≤ 6) (hl : l.length ≤ 60) (hv : Vld n l) (hx : RowE 2 H x l.length (prsC l)) (hf : 60 < fuel) :
    ∃ v H', xfunc (cfL k) fuel L38 [natA n, x] H = some (v, H') ∧
      ∃ u, v = .tup [u, natA 0] ∧ Kn H' n (runM (begM n) l) u ∧ H.next ≤ H'.next ∧ ∀ j, j < H.next → H'.get j = H.get j := by
  refine xfunc_of rfl (by show 2 ≤ 60; omega) ?_
  have a0 : (argsT [natA n, x] 0 .e).get 0 = some (natA n) := rfl
  have a1 : (argsT [natA n, x] 0 .e).get 1 = some x := rfl
  generalize argsT [natA n, x] 0 .e = tm at a0 a1
  have xl : ∀ j, x.own = some j → j < H.next := fun j q => hx.own_lt q
  unfold L38
  dsimp only
  refine W.seqN ?_
  refine W.rg 2 rfl (fun H1 hg1 hn1 => ?_)
  refine WO.op (by simp only [xval, xop, AR.ofV, St.ev, Tr.get_set, get_bump, next_bump, next_set, next_add, AHeap.get_set, reduceIte, Nat.reduceEqDiff, evL, evParts, fillA, AV.cells, natA, binA, intCmpA, unA, minA, maxA]; rfl) ?_
  refine WO.op (by simp only [xval, xop, AR.ofV, St.ev, Tr.get_set, get_bump, next_bump, next_set, next_add, AHeap.get_set, reduceIte, Nat.reduceEqDiff, evL, evParts, fillA, AV.cells, natA, binA, intCmpA, unA, minA, maxA]; rfl) ?_
  refine WO.nil ⟨rfl, W.seqN (W.seqN ?_)⟩
  refine W.rg 4 rfl (fun H2 hg2 hn2 => ?_)
  refine WO.op (by simp only [xval, xop, AR.ofV, St.ev, Tr.get_set, get_bump, next_bump, next_set, next_add, AHeap.get_set, reduceIte, Nat.reduceEqDiff, evL, evParts, fillA, AV.cells, natA, binA, intCmpA, unA, minA, maxA, a0, a1]; rfl) ?_
  refine WO.op (by simp only [xval, xop, AR.ofV, St.ev, Tr.get_set, get_bump, next_bump, next_set, next_add, AHeap.get_set, reduceIte, Nat.reduceEqDiff, evL, evParts, fillA, AV.cells, natA, binA, intCmpA, unA, minA, maxA, a0, a1]; rfl) ?_
  refine WO.op (v := .int .i64 0) (H1 := H2) (op_call (g := 57) (cs := []) (l := [natA n, x]) rfl (by simp only [evL, St.ev, Tr.get_set, get_bump, next_bump, next_set, next_add, AHeap.get_set, reduceIte, Nat.reduceEqDiff, a1, bind, Option.bind_some, natA]) (cf_57 h1 hn hl hv (hx.frame (by omega) (fun j q => by rw [hg2, hg1])))) ?_
  refine WO.op (by simp only [xval, xop, AR.ofV, St.ev, Tr.get_set, get_bump, next_bump, next_set, next_add, AHeap.get_set, reduceIte, Nat.reduceEqDiff, evL, evParts, fillA, AV.cells, natA, binA, intCmpA, unA, minA, maxA]; rfl) ?_
  refine WO.nil ⟨rfl, W.seqN ?_⟩
  refine W.rg 2 rfl (fun H3 hg3 hn3 => ?_)
  refine WO.op (by simp only [xval, xop, AR.ofV, St.ev, Tr.get_set, get_bump, next_bump, next_set, next_add, AHeap.get_set, reduceIte, Nat.reduceEqDiff, evL, evParts, fillA, AV.cells, natA, binA, intCmpA, unA, minA, maxA]; rfl) ?_
  refine WO.op (by simp only [xval, xop, AR.ofV, St.ev, Tr.get_set, get_bump, next_bump, next_set, next_add, AHeap.get_set, reduceIte, Nat.reduceEqDiff, evL, evParts, fillA, AV.cells, natA, binA, intCmpA, unA, minA, maxA]; rfl) ?_
  refine WO.nil ⟨rfl, W.condF (by simp only [St.ev, Tr.get_set, get_bump, next_bump, next_set, next_add, AHeap.get_set, reduceIte, Nat.reduceEqDiff] <;> rfl) (W.skip ⟨rfl, W.seqN ?_⟩)⟩
  refine W.rg 4 rfl (fun H4 hg4 hn4 => ?_)
  refine WO.op (by simp only [xval, xop, AR.ofV, St.ev, Tr.get_set, get_bump, next_bump, next_set, next_add, AHeap.get_set, reduceIte, Nat.reduceEqDiff, evL, evParts, fillA, AV.cells, natA, binA, intCmpA, unA, minA, maxA, a0]; rfl) ?_
  refine WO.op (v := .agg ((begM n).map u8A)) (H1 := H4) (op_call (g := 54) (cs := []) (l := [natA n]) rfl (by simp only [evL, St.ev, Tr.get_set, get_bump, next_bump, next_set, next_add, AHeap.get_set, reduceIte, Nat.reduceEqDiff, bind, Option.bind_some, natA]) (cf_54 hn)) ?_
  refine WO.alloc (fun H5 hg5 ho5 hn5 => ?_)
  have bl := (begM_inv n).1
  refine WO.store (v := .agg ((begM n).map u8A)) (by simp only [St.ev, Tr.get_set, get_bump, next_bump, next_set, next_add, AHeap.get_set, reduceIte, Nat.reduceEqDiff] <;> rfl) (by simp only [St.ev, Tr.get_set, get_bump, next_bump, next_set, next_add, AHeap.get_set, reduceIte, Nat.reduceEqDiff] <;> rfl) hg5 (by simp [AV.cells, bl]) (u8A_cells _) (by simp) (fun H6 hg6 ho6 hn6 => ?_)
  refine WO.nil ⟨rfl, W.seqN (W.seqN ?_)⟩
  have hnx6 : H.next ≤ H6.next := by omega
  have hfr6 : ∀ j, j < H.next → H6.get j = H.get j := fun j hj => by rw [ho6 j (by omega), ho5 j (by omega), hg4, hg3, hg2, hg1]
  obtain ⟨R, hR⟩ : ∃ R, H3.next + 1 + 1 = R := ⟨_, rfl⟩
  have hbox : H6.get R = some (.cells ((begM n).map u8A) none) := by
    rw [← hR, hg6]
    simp [overA, AV.cells, bl]
  refine W.rg 3 rfl (fun H7 hg7 hn7 => ?_)
  refine WO.op (op_mv (v := x) (by simp only [St.ev, Tr.get_set, get_bump, next_bump, next_set, next_add, AHeap.get_set, reduceIte, Nat.reduceEqDiff] <;> assumption)) ?_
  refine WO.op (op_lenE (hx.frame (by omega) (fun j q => by rw [hg7, hfr6 j (xl j q)])) (by simp only [St.ev, Tr.get_set, get_bump, next_bump, next_set, next_add, AHeap.get_set, reduceIte, Nat.reduceEqDiff])) ?_
  refine WO.op (by simp only [xval, xop, AR.ofV, St.ev, Tr.get_set, get_bump, next_bump, next_set, next_add, AHeap.get_set, reduceIte, Nat.reduceEqDiff, evL, evParts, fillA, AV.cells, natA, binA, intCmpA, unA, minA, maxA]; rfl) ?_
  refine WO.nil ⟨rfl, W.block ?_⟩
  refine W.mono (W.loop (KI H n x l R) (fun i => l.length - i) 0 (Q := fun e s' => e = .exit 0 ∧ KI H n x l R l.length s') ⟨by omega, ?_, ?_, ?_, ?_, ?_, ?_, ⟨by omega, by show R < H7.next; omega⟩, by show H.next ≤ H7.next; omega, fun j hj => ?_⟩ (by omega) (fun i s h => body38_ok (fun k a b H hk ha hb => cf_59 k a b H hk ha hb) hx hn hl hv i s h)) (fun e s' q => ?_)
  · simp only [Tr.get_set, get_bump, next_bump, next_set, next_add, AHeap.get_set, reduceIte, Nat.reduceEqDiff] <;> assumption
  · simp only [Tr.get_set, get_bump, next_bump, next_set, next_add, AHeap.get_set, reduceIte, Nat.reduceEqDiff]
  · simp only [Tr.get_set, get_bump, next_bump, next_set, next_add, AHeap.get_set, reduceIte, Nat.reduceEqDiff] <;> rfl
  · simp only [Tr.get_set, get_bump, next_bump, next_set, next_add, AHeap.get_set, reduceIte, Nat.reduceEqDiff] <;> rfl
  · simp only [Tr.get_set, get_bump, next_bump, next_set, next_add, AHeap.get_set, reduceIte, Nat.reduceEqDiff, hR]
  · show H7.get R = _
    rw [hg7, hbox]; rfl
  · show H7.get j = _
    rw [hg7, hfr6 j hj]
  obtain ⟨he, ⟨_, t0, _, _, _, t7, box, hRR, nx, fr⟩⟩ := q
  subst he
  obtain ⟨tm8, H8⟩ := s'
  simp only at t0 t7 box hRR nx fr
  obtain ⟨k1, k2⟩ := runM_inv l (begM n) bl (begM_inv n).2
  rw [List.take_length] at box
  refine bX ⟨rfl, W.seqN ?_⟩
  refine W.rg 1 rfl (fun H9 hg9 hn9 => ?_)
  refine WO.op (by simp only [xval, xop, AR.ofV, St.ev, Tr.get_set, get_bump, next_bump, next_set, next_add, AHeap.get_set, reduceIte, Nat.reduceEqDiff, evL, evParts, fillA, AV.cells, natA, binA, intCmpA, unA, minA, maxA]; rfl) ?_
  refine WO.nil ⟨rfl, W.seqN (W.seqN ?_)⟩
  refine W.rg 4 rfl (fun H10 hg10 hn10 => ?_)
  refine WO.op (by simp only [xval, xop, AR.ofV, St.ev, Tr.get_set, get_bump, next_bump, next_set, next_add, AHeap.get_set, reduceIte, Nat.reduceEqDiff, evL, evParts, fillA, AV.cells, natA, binA, intCmpA, unA, minA, maxA, t0]; rfl) ?_
  have hb1 : bndA 6 (natA n) = some n := bndA_nat hn
  refine WO.op (v := .sl R 0 n 6) (H1 := H10) (by
    simp only [xval, xop, AR.ofV, St.ev, Tr.get_set, get_bump, next_bump, next_set, next_add, AHeap.get_set, reduceIte, Nat.reduceEqDiff, evL, evParts, fillA, AV.cells, natA, binA, intCmpA, unA, minA, maxA, t7, acutA, bounds, obnd, hiBnd, Option.bind_some]
    rw [show bndA 6 (AV.int .i64 (n : Int)) = some n from hb1, if_neg (by decide)]
    simp) ?_
  refine WO.op (by simp only [xval, xop, AR.ofV, St.ev, Tr.get_set, get_bump, next_bump, next_set, next_add, AHeap.get_set, reduceIte, Nat.reduceEqDiff, evL, evParts, fillA, AV.cells, natA, binA, intCmpA, unA, minA, maxA]; rfl) ?_
  refine WO.op (by simp only [xval, xop, AR.ofV, St.ev, Tr.get_set, get_bump, next_bump, next_set, next_add, AHeap.get_set, reduceIte, Nat.reduceEqDiff, evL, evParts, fillA, AV.cells, natA, binA, intCmpA, unA, minA, maxA]; rfl) ?_
  refine WO.nil ⟨rfl, W.block ?_⟩
  refine W.mono (W.loop (OI H n (runM (begM n) l) R) (fun i => n - i) 0 (Q := fun e s' => e = .exit 2 ∧ OI H n (runM (begM n) l) R n s') ⟨by omega, ?_, ?_, ?_, ?_, ⟨.nils, [], ?_, Row.nil 1 _, (fun o q => by cases q), fun j hj => absurd hj (by omega)⟩, ?_, ⟨hRR.1, by show R < H10.next; omega⟩, by show H.next ≤ H10.next; omega, fun j hj => ?_⟩ (by omega) (fun i s h => outer38_ok hn k1 k2 (by omega) i s h)) (fun e s' q => ?_)
  · simp only [Tr.get_set, get_bump, next_bump, next_set, next_add, AHeap.get_set, reduceIte, Nat.reduceEqDiff] <;> assumption
  · simp only [Tr.get_set, get_bump, next_bump, next_set, next_add, AHeap.get_set, reduceIte, Nat.reduceEqDiff]
  · simp only [Tr.get_set, get_bump, next_bump, next_set, next_add, AHeap.get_set, reduceIte, Nat.reduceEqDiff] <;> rfl
  · simp only [Tr.get_set, get_bump, next_bump, next_set, next_add, AHeap.get_set, reduceIte, Nat.reduceEqDiff] <;> rfl
  · simp only [Tr.get_set, get_bump, next_bump, next_set, next_add, AHeap.get_set, reduceIte, Nat.reduceEqDiff]
  · show H10.get R = _
    rw [hg10, hg9, box]
  · show H10.get j = _
    rw [hg10, hg9, fr j hj]
  obtain ⟨he, ⟨_, t0, _, _, _, ⟨v, vs, t10, Rv, ho, hin⟩, _, _, nx, fr⟩⟩ := q
  subst he
  obtain ⟨tm11, H11⟩ := s'
  simp only at t0 t10 Rv hin nx fr
  refine bX ⟨rfl, ?_⟩
  repeat (first | refine W.seq ?_ | refine W.block ?_ | refine W.skip ?_ | refine W.ret ?_ | refine W.exit ?_ | (apply W.reg; · (simp only [List.length_cons, List.length_nil, Nat.reduceAdd]; rfl)) | (apply W.regd0; · (simp only [List.length_cons, List.length_nil, Nat.reduceAdd]; rfl)) | refine WO.nil ?_ | (apply WO.op; · first | exact op_mv (by simp only [St.ev, ↓Tr.get_set, ↓reduceIte, Nat.reduceEqDiff, natA, t10]; rfl) | exact op_bin (by simp only [St.ev, ↓Tr.get_set, ↓reduceIte, Nat.reduceEqDiff, natA, t10]; rfl) (by simp only [St.ev, ↓Tr.get_set, ↓reduceIte, Nat.reduceEqDiff, natA, t10]; rfl) (by simp only [binA, intCmpA, strA, natA, t10]; rfl) | exact op_slen (by simp only [St.ev, ↓Tr.get_set, ↓reduceIte, Nat.reduceEqDiff, natA, t10]; rfl) | exact op_faddr (by simp only [St.ev, ↓Tr.get_set, ↓reduceIte, Nat.reduceEqDiff, natA, t10]; rfl) | exact op_nilc (by simp only [St.ev, ↓Tr.get_set, ↓reduceIte, Nat.reduceEqDiff, natA, t10]; rfl) | exact op_ext (by simp only [St.ev, ↓Tr.get_set, ↓reduceIte, Nat.reduceEqDiff, natA, t10]; rfl) (by rfl) | exact op_pick (by simp only [St.ev, ↓Tr.get_set, ↓reduceIte, Nat.reduceEqDiff, natA, t10]; rfl) (by first | exact .inl ⟨rfl, (by simp only [St.ev, ↓Tr.get_set, ↓reduceIte, Nat.reduceEqDiff, natA, t10]; rfl)⟩ | exact .inr ⟨rfl, (by simp only [St.ev, ↓Tr.get_set, ↓reduceIte, Nat.reduceEqDiff, natA, t10]; rfl)⟩) | exact op_un (by simp only [St.ev, ↓Tr.get_set, ↓reduceIte, Nat.reduceEqDiff, natA, t10]; rfl) (by simp only [unA, t10]; rfl) | (simp only [xval, xop, AR.ofV, St.ev, Tr.get_set, get_bump, next_bump, next_set, next_add, AHeap.get_set, reduceIte, Nat.reduceEqDiff, evL, evParts, fillA, AV.cells, natA, binA, intCmpA, unA, minA, maxA, Nat.add_assoc, Nat.reduceAdd, Nat.add_left_cancel_iff, Nat.add_eq_left, Nat.left_eq_add, loadA, cellsAt, storeA, Option.bind_some, iaddrA, aaddrA, t10]; rfl)) | (apply WO.opn; · (simp only [xval, xop, AR.ofV, St.ev, Tr.get_set, get_bump, next_bump, next_set, next_add, AHeap.get_set, reduceIte, Nat.reduceEqDiff, evL, evParts, fillA, AV.cells, natA, binA, intCmpA, unA, minA, maxA, Nat.add_assoc, Nat.reduceAdd, Nat.add_left_cancel_iff, Nat.add_eq_left, Nat.left_eq_add, loadA, cellsAt, storeA, Option.bind_some, iaddrA, aaddrA, t10]; rfl)) | (apply WO.gop'; (· (simp only [St.ev, ↓Tr.get_set, ↓reduceIte, Nat.reduceEqDiff, natA, t10]; rfl)); (· rfl); (· first | exact op_mv (by simp only [St.ev, ↓Tr.get_set, ↓reduceIte, Nat.reduceEqDiff, natA, t10]; rfl) | exact op_bin (by simp only [St.ev, ↓Tr.get_set, ↓reduceIte, Nat.reduceEqDiff, natA, t10]; rfl) (by simp only [St.ev, ↓Tr.get_set, ↓reduceIte, Nat.reduceEqDiff, natA, t10]; rfl) (by simp only [binA, intCmpA, strA, natA, t10]; rfl) | exact op_slen (by simp only [St.ev, ↓Tr.get_set, ↓reduceIte, Nat.reduceEqDiff, natA, t10]; rfl) | exact op_faddr (by simp only [St.ev, ↓Tr.get_set, ↓reduceIte, Nat.reduceEqDiff, natA, t10]; rfl) | exact op_nilc (by simp only [St.ev, ↓Tr.get_set, ↓reduceIte, Nat.reduceEqDiff, natA, t10]; rfl) | exact op_ext (by simp only [St.ev, ↓Tr.get_set, ↓reduceIte, Nat.reduceEqDiff, natA, t10]; rfl) (by rfl) | exact op_pick (by simp only [St.ev, ↓Tr.get_set, ↓reduceIte, Nat.reduceEqDiff, natA, t10]; rfl) (by first | exact .inl ⟨rfl, (by simp only [St.ev, ↓Tr.get_set, ↓reduceIte, Nat.reduceEqDiff, natA, t10]; rfl)⟩ | exact .inr ⟨rfl, (by simp only [St.ev, ↓Tr.get_set, ↓reduceIte, Nat.reduceEqDiff, natA, t10]; rfl)⟩) | exact op_un (by simp only [St.ev, ↓Tr.get_set, ↓reduceIte, Nat.reduceEqDiff, natA, t10]; rfl) (by simp only [unA, t10]; rfl) | (simp only [xval, xop, AR.ofV, St.ev, Tr.get_set, get_bump, next_bump, next_set, next_add, AHeap.get_set, reduceIte, Nat.reduceEqDiff, evL, evParts, fillA, AV.cells, natA, binA, intCmpA, unA, minA, maxA, Nat.add_assoc, Nat.reduceAdd, Nat.add_left_cancel_iff, Nat.add_eq_left, Nat.left_eq_add, loadA, cellsAt, storeA, Option.bind_some, iaddrA, aaddrA, t10]; rfl))) | (apply WO.gno'; (· (simp only [St.ev, ↓Tr.get_set, ↓reduceIte, Nat.reduceEqDiff, natA, t10]; rfl)); (· rfl)) | refine pN ?_ | refine pR ?_ | refine pX ?_ | refine bN ?_ | refine bR ?_ | refine bX ?_ | refine bO (by decide) ?_ | (apply W.condT'; (· (simp only [St.ev, ↓Tr.get_set, ↓reduceIte, Nat.reduceEqDiff, natA, t10]; rfl)); (· rfl)) | (apply W.condF'; (· (simp only [St.ev, ↓Tr.get_set, ↓reduceIte, Nat.reduceEqDiff, natA, t10]; rfl)); (· rfl)))
  refine ⟨fun id q => (by cases q), _, by simp only [resL, resA, Tr.get_set, get_bump, next_bump, next_set, next_add, AHeap.get_set, reduceIte, Nat.reduceEqDiff]; rfl, v, rfl, ⟨vs, Rv.frame (by simp only [next_bump]; omega) (fun _ _ => rfl), fun j hj => ?_⟩, by simp only [next_bump]; omega, fr⟩
  obtain ⟨u, u1, u2, u3⟩ := hin j hj
  exact ⟨u, u1, u2.frame (by simp only [next_bump]; omega) (fun _ _ => rfl), fun o q => (u3 o q).2⟩
end Go.Proofs.Ytpbighinamljbaa.PA
