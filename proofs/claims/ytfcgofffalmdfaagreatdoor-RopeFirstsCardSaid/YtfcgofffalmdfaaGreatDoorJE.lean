/- strings.Trim at a set of ASCII bytes, over the abstract machine: it answers "" if and only if every byte is one of them. No condition. -/
import Derived.Test.YtfcgofffalmdfaaGreatDoorJB
import Derived.Test.YtfcgofffalmdfaaGreatDoorJC
import Derived.Test.YtfcgofffalmdfaaGreatDoorJD
import Derived.KernelRfl
set_option linter.unusedSectionVars false
set_option linter.unusedVariables false
set_option linter.unusedSimpArgs false
namespace Go.Proofs.YtfcgofffalmdfaaGreatDoor.PA
open Go Go.Eng
def byteA (b : UInt8) : AV := .int .u8 b.toNat
def inS (b : UInt8) : Bool := decide (97 ≤ b.toNat) && decide (b.toNat ≤ 100)
def setA : List AV := (List.range 256).map fun i => .bool (decide (97 ≤ i) && decide (i ≤ 100))
theorem setA_get (b : UInt8) : setA[b.toNat]? = some (.bool (inS b)) := by
  have h : b.toNat < 256 := b.toNat_lt
  simp only [setA, List.getElem?_map, List.getElem?_range h, Option.map_some, inS]
theorem contains_ok {cf : CF} {fuel : Nat} {H : AHeap} {A : Nat} (hA : H.get A = some (.cells setA none)) (b : UInt8) : ∃ H', xfunc cf fuel L134 [.ptr A 0, byteA b] H = some (.bool (inS b), H') ∧ Same H H' := by
  have key : ∃ v H', xfunc cf fuel L134 [.ptr A 0, byteA b] H = some (v, H') ∧ v = .bool (inS b) ∧ Same H H' := by
    refine xfunc_of rfl (by show 2 ≤ 10; omega) ?_
    have a0 : (argsT [.ptr A 0, byteA b] 0 .e).get 0 = some (.ptr A 0) := rfl
    have a1 : (argsT [.ptr A 0, byteA b] 0 .e).get 1 = some (byteA b) := rfl
    generalize argsT [.ptr A 0, byteA b] 0 .e = tm at a0 a1
    have hb : idxOk (b.toNat : Int) 256 = true := idxOk_lt b.toNat_lt
    have hl : loadA ((H.bump 1).bump 6) none (.ptr A (0 + b.toNat * 1)) = some (.bool (inS b)) := by
      simp only [loadA, cellsAt, get_bump, hA, Nat.zero_add, Nat.mul_one, List.getElem?_drop, Nat.add_zero]
      exact setA_get b
    unfold L134
    dsimp only
    repeat (first | refine W.seq ?_ | (apply W.reg; · (simp only [List.length_cons, List.length_nil, Nat.reduceAdd]; rfl)) | refine WO.nil ?_ | (apply WO.op; · first | exact op_mv (by simp only [St.ev, ↓Tr.get_set, ↓reduceIte, Nat.reduceEqDiff, natA, a0, a1, hb, byteA, Int.toNat_natCast, if_true]; rfl) | exact op_nilc (by simp only [St.ev, ↓Tr.get_set, ↓reduceIte, Nat.reduceEqDiff, natA, a0, a1, hb, byteA, Int.toNat_natCast, if_true]; rfl) | (simp only [xval, xop, AR.ofV, St.ev, Tr.get_set, get_bump, next_bump, next_set, next_add, AHeap.get_set, reduceIte, Nat.reduceEqDiff, evL, evParts, fillA, AV.cells, natA, binA, intCmpA, unA, minA, maxA, Nat.add_assoc, Nat.reduceAdd, Nat.add_left_cancel_iff, Nat.add_eq_left, Nat.left_eq_add, loadA, cellsAt, storeA, Option.bind_some, iaddrA, aaddrA, a0, a1, hb, byteA, Int.toNat_natCast, if_true]; rfl)) | refine pN ?_ | fail)
    refine WO.op (op_load (by simp only [St.ev, ↓Tr.get_set, ↓reduceIte, Nat.reduceEqDiff]) hl) ?_
    repeat (first | refine W.ret ?_ | refine WO.nil ?_ | (apply WO.op; · first | exact op_mv (by simp only [St.ev, ↓Tr.get_set, ↓reduceIte, Nat.reduceEqDiff, natA]; rfl)) | refine pN ?_ | fail)
    refine ⟨fun id q => (by cases q), _, by simp only [resL, resA, Tr.get_set, get_bump, next_bump, next_set, next_add, AHeap.get_set, reduceIte, Nat.reduceEqDiff] <;> rfl, rfl, (Same.bump _ _).trans (Same.bump _ _)⟩
  obtain ⟨v, H', h1, rfl, h2⟩ := key
  exact ⟨H', h1, h2⟩
def TI (H0 : AHeap) (A : Nat) (s : List UInt8) (t : List UInt8) (S : St) : Prop :=
  S.tm.get 0 = some (.str t) ∧ S.tm.get 1 = some (.ptr A 0) ∧ t.all inS = s.all inS ∧ Same H0 S.H
def TQ (s : List UInt8) (v : AV) : Prop := ∃ r, v = .str r ∧ r.all inS = s.all inS ∧ (r = [] ∨ r.all inS = false) ∧ r.length ≤ s.length
theorem trimLeft_ok {cf : CF} {fuel : Nat} {H : AHeap} {A : Nat} (hA : A < H.next) (hf : ∀ H1, Same H H1 → ∀ b, ∃ H2, cf 134 [.ptr A 0, byteA b] H1 = some (.bool (inS b), H2) ∧ Same H1 H2) (s : List UInt8) (hs : s.length < fuel) (hs2 : s.length ≤ 1000) :
    ∃ v H', xfunc cf fuel L119 [.str s, .ptr A 0] H = some (v, H') ∧ TQ s v ∧ Same H H' := by
  refine xfunc_of rfl (by show 2 ≤ 16; omega) ?_
  have a0 : (argsT [.str s, .ptr A 0] 0 .e).get 0 = some (.str s) := rfl
  have a1 : (argsT [.str s, .ptr A 0] 0 .e).get 1 = some (.ptr A 0) := rfl
  generalize argsT [.str s, .ptr A 0] 0 .e = tm at a0 a1
  unfold L119
  dsimp only
  refine W.seq ?_
  refine W.reg 1 rfl ?_
  refine WO.op (by simp only [xval, xop, AR.ofV, St.ev, Tr.get_set, get_bump, next_bump, next_set, next_add, AHeap.get_set, reduceIte, Nat.reduceEqDiff, evL, evParts, fillA, AV.cells, natA, binA, intCmpA, unA, minA, maxA]; rfl) ?_
  refine WO.nil (pN (W.seq (W.block ?_)))
  refine W.loop (α := List UInt8) (fun t S => TI H A s t S ∧ t.length ≤ s.length) (fun t => t.length) s ⟨⟨by simp only [Tr.get_set, get_bump, next_bump, next_set, next_add, AHeap.get_set, reduceIte, Nat.reduceEqDiff]; exact a0, by simp only [Tr.get_set, get_bump, next_bump, next_set, next_add, AHeap.get_set, reduceIte, Nat.reduceEqDiff]; exact a1, rfl, Same.bump _ _⟩, Nat.le_refl _⟩ hs ?_
  rintro t ⟨tm1, H1⟩ ⟨⟨t0, t1, tall, tsame⟩, tle⟩
  simp only at t0 t1 tsame
  refine W.seq (W.seq ?_)
  cases t with
  | nil =>
    repeat (first | refine W.seq ?_ | refine W.ret ?_ | refine W.exit ?_ | (apply W.reg; · (simp only [List.length_cons, List.length_nil, Nat.reduceAdd]; rfl)) | refine WO.nil ?_ | (apply WO.op; · first | exact op_mv (by simp only [St.ev, ↓Tr.get_set, ↓reduceIte, Nat.reduceEqDiff, natA, t0, List.length_nil]; rfl) | exact op_bin (by simp only [St.ev, ↓Tr.get_set, ↓reduceIte, Nat.reduceEqDiff, natA, t0, List.length_nil]; rfl) (by simp only [St.ev, ↓Tr.get_set, ↓reduceIte, Nat.reduceEqDiff, natA, t0, List.length_nil]; rfl) (by simp only [binA, intCmpA, strA, natA, t0, List.length_nil]; rfl) | exact op_slen (by simp only [St.ev, ↓Tr.get_set, ↓reduceIte, Nat.reduceEqDiff, natA, t0, List.length_nil]; rfl)) | refine pN ?_ | refine pX ?_ | refine bX ?_ | (apply W.condF'; (· (simp only [St.ev, ↓Tr.get_set, ↓reduceIte, Nat.reduceEqDiff, natA, t0, List.length_nil]; rfl)); (· rfl)) | fail)
    exact ⟨fun id q => (by cases q), _, by simp only [resL, resA, Tr.get_set, get_bump, next_bump, next_set, next_add, AHeap.get_set, reduceIte, Nat.reduceEqDiff] <;> rfl, ⟨[], rfl, tall, .inl rfl, Nat.zero_le _⟩, tsame.trans ((Same.bump _ _).trans (Same.bump _ _))⟩
  | cons b t =>
    have c : decide (((b :: t).length : Int) > Int.ofNat 0) = true := by rw [Int.ofNat_eq_natCast, decide_eq_true_eq]; simp
    have hi : idxOk (Int.ofNat 0) (b :: t).length = true := idxOk_lt (i := 0) (by simp)
    repeat (first | refine W.seq ?_ | refine W.block ?_ | refine W.skip ?_ | (apply W.reg; · (simp only [List.length_cons, List.length_nil, Nat.reduceAdd]; rfl)) | refine WO.nil ?_ | (apply WO.op; · first | exact op_mv (by simp only [St.ev, ↓Tr.get_set, ↓reduceIte, Nat.reduceEqDiff, natA, t0, t1, c, hi]; rfl) | exact op_bin (by simp only [St.ev, ↓Tr.get_set, ↓reduceIte, Nat.reduceEqDiff, natA, t0, t1, c, hi]; rfl) (by simp only [St.ev, ↓Tr.get_set, ↓reduceIte, Nat.reduceEqDiff, natA, t0, t1, c, hi]; rfl) (by simp only [binA, intCmpA, strA, natA, t0, t1, c, hi]; rfl) | exact op_slen (by simp only [St.ev, ↓Tr.get_set, ↓reduceIte, Nat.reduceEqDiff, natA, t0, t1, c, hi]; rfl) | (simp only [xval, xop, AR.ofV, St.ev, Tr.get_set, get_bump, next_bump, next_set, next_add, AHeap.get_set, reduceIte, Nat.reduceEqDiff, evL, evParts, fillA, AV.cells, natA, binA, intCmpA, unA, minA, maxA, Nat.add_assoc, Nat.reduceAdd, Nat.add_left_cancel_iff, Nat.add_eq_left, Nat.left_eq_add, loadA, cellsAt, storeA, Option.bind_some, iaddrA, aaddrA, t0, t1, c, hi]; rfl)) | refine pN ?_ | (apply W.condT'; (· (simp only [St.ev, ↓Tr.get_set, ↓reduceIte, Nat.reduceEqDiff, natA, t0, t1, c, hi]; rfl)); (· rfl)) | fail)
    obtain ⟨H2, hc, hsame⟩ := hf _ ((tsame.trans (Same.bump _ 3)).trans (Same.bump _ 5)) b
    refine WO.op (op_call (cs := []) (l := [.ptr A 0, byteA b]) (by simp only [St.ev, ↓Tr.get_set, ↓reduceIte, Nat.reduceEqDiff]) (by simp only [evL, St.ev, Tr.get_set, get_bump, next_bump, next_set, next_add, AHeap.get_set, reduceIte, Nat.reduceEqDiff]; rfl) hc) ?_
    cases hb : inS b with
    | false =>
      repeat (first | refine W.seq ?_ | refine W.ret ?_ | refine W.exit ?_ | (apply W.reg; · (simp only [List.length_cons, List.length_nil, Nat.reduceAdd]; rfl)) | refine WO.nil ?_ | (apply WO.op; · first | exact op_mv (by simp only [St.ev, ↓Tr.get_set, ↓reduceIte, Nat.reduceEqDiff, natA, hb, Bool.not_false, t0]; rfl) | exact op_un (by simp only [St.ev, ↓Tr.get_set, ↓reduceIte, Nat.reduceEqDiff, natA, hb, Bool.not_false, t0]; rfl) (by simp only [unA, hb, Bool.not_false, t0]; rfl)) | refine pN ?_ | refine pX ?_ | refine bX ?_ | refine bO (by decide) ?_ | (apply W.condT'; (· (simp only [St.ev, ↓Tr.get_set, ↓reduceIte, Nat.reduceEqDiff, natA, hb, Bool.not_false, t0]; rfl)); (· rfl)) | fail)
      exact ⟨fun id q => (by cases q), _, by simp only [resL, resA, Tr.get_set, get_bump, next_bump, next_set, next_add, AHeap.get_set, reduceIte, Nat.reduceEqDiff, t0] <;> rfl, ⟨b :: t, rfl, tall, .inr (by simp [hb]), tle⟩, (((tsame.trans (Same.bump _ 3)).trans (Same.bump _ 5)).trans hsame).trans (Same.bump _ _)⟩
    | true =>
      repeat (first | refine W.skip ?_ | (apply W.reg; · (simp only [List.length_cons, List.length_nil, Nat.reduceAdd]; rfl)) | refine WO.nil ?_ | (apply WO.op; · first | exact op_mv (by simp only [St.ev, ↓Tr.get_set, ↓reduceIte, Nat.reduceEqDiff, natA, hb, Bool.not_true, t0]; rfl) | exact op_un (by simp only [St.ev, ↓Tr.get_set, ↓reduceIte, Nat.reduceEqDiff, natA, hb, Bool.not_true, t0]; rfl) (by simp only [unA, hb, Bool.not_true, t0]; rfl) | (simp only [xval, xop, AR.ofV, St.ev, Tr.get_set, get_bump, next_bump, next_set, next_add, AHeap.get_set, reduceIte, Nat.reduceEqDiff, evL, evParts, fillA, AV.cells, natA, binA, intCmpA, unA, minA, maxA, Nat.add_assoc, Nat.reduceAdd, Nat.add_left_cancel_iff, Nat.add_eq_left, Nat.left_eq_add, loadA, cellsAt, storeA, Option.bind_some, iaddrA, aaddrA, hb, Bool.not_true, t0]; rfl)) | refine pN ?_ | refine bN ?_ | (apply W.condF'; (· (simp only [St.ev, ↓Tr.get_set, ↓reduceIte, Nat.reduceEqDiff, natA, hb, Bool.not_true, t0]; rfl)); (· rfl)) | fail)
      refine ⟨t, ⟨⟨by simp only [Tr.get_set, get_bump, next_bump, next_set, next_add, AHeap.get_set, reduceIte, Nat.reduceEqDiff]; simp, by simp only [Tr.get_set, get_bump, next_bump, next_set, next_add, AHeap.get_set, reduceIte, Nat.reduceEqDiff]; exact t1, ?_, (((tsame.trans (Same.bump _ 3)).trans (Same.bump _ 5)).trans hsame).trans (Same.bump _ _)⟩, by simp only [List.length_cons] at tle; omega⟩, by simp⟩
      rw [← tall, List.all_cons, hb, Bool.true_and]
theorem trimRight_ok {cf : CF} {fuel : Nat} {H : AHeap} {A : Nat} (hA : A < H.next) (hf : ∀ H1, Same H H1 → ∀ b, ∃ H2, cf 134 [.ptr A 0, byteA b] H1 = some (.bool (inS b), H2) ∧ Same H1 H2) (s : List UInt8) (hs : s.length < fuel) (hs2 : s.length ≤ 1000) :
    ∃ v H', xfunc cf fuel L120 [.str s, .ptr A 0] H = some (v, H') ∧ TQ s v ∧ Same H H' := by
  refine xfunc_of rfl (by show 2 ≤ 22; omega) ?_
  have a0 : (argsT [.str s, .ptr A 0] 0 .e).get 0 = some (.str s) := rfl
  have a1 : (argsT [.str s, .ptr A 0] 0 .e).get 1 = some (.ptr A 0) := rfl
  generalize argsT [.str s, .ptr A 0] 0 .e = tm at a0 a1
  unfold L120
  dsimp only
  refine W.seq ?_
  refine W.reg 1 rfl ?_
  refine WO.op (by simp only [xval, xop, AR.ofV, St.ev, Tr.get_set, get_bump, next_bump, next_set, next_add, AHeap.get_set, reduceIte, Nat.reduceEqDiff, evL, evParts, fillA, AV.cells, natA, binA, intCmpA, unA, minA, maxA]; rfl) ?_
  refine WO.nil (pN (W.seq (W.block ?_)))
  refine W.loop (α := List UInt8) (fun t S => TI H A s t S ∧ t.length ≤ s.length) (fun t => t.length) s ⟨⟨by simp only [Tr.get_set, get_bump, next_bump, next_set, next_add, AHeap.get_set, reduceIte, Nat.reduceEqDiff]; exact a0, by simp only [Tr.get_set, get_bump, next_bump, next_set, next_add, AHeap.get_set, reduceIte, Nat.reduceEqDiff]; exact a1, rfl, Same.bump _ _⟩, Nat.le_refl _⟩ hs ?_
  rintro t ⟨tm1, H1⟩ ⟨⟨t0, t1, tall, tsame⟩, tle⟩
  simp only at t0 t1 tsame
  refine W.seq (W.seq ?_)
  rcases List.eq_nil_or_concat t with rfl | ⟨u, b, rfl⟩
  · repeat (first | refine W.seq ?_ | refine W.ret ?_ | refine W.exit ?_ | (apply W.reg; · (simp only [List.length_cons, List.length_nil, Nat.reduceAdd]; rfl)) | refine WO.nil ?_ | (apply WO.op; · first | exact op_mv (by simp only [St.ev, ↓Tr.get_set, ↓reduceIte, Nat.reduceEqDiff, natA, t0, List.length_nil]; rfl) | exact op_bin (by simp only [St.ev, ↓Tr.get_set, ↓reduceIte, Nat.reduceEqDiff, natA, t0, List.length_nil]; rfl) (by simp only [St.ev, ↓Tr.get_set, ↓reduceIte, Nat.reduceEqDiff, natA, t0, List.length_nil]; rfl) (by simp only [binA, intCmpA, strA, natA, t0, List.length_nil]; rfl) | exact op_slen (by simp only [St.ev, ↓Tr.get_set, ↓reduceIte, Nat.reduceEqDiff, natA, t0, List.length_nil]; rfl)) | refine pN ?_ | refine pX ?_ | refine bX ?_ | (apply W.condF'; (· (simp only [St.ev, ↓Tr.get_set, ↓reduceIte, Nat.reduceEqDiff, natA, t0, List.length_nil]; rfl)); (· rfl)) | fail)
    exact ⟨fun id q => (by cases q), _, by simp only [resL, resA, Tr.get_set, get_bump, next_bump, next_set, next_add, AHeap.get_set, reduceIte, Nat.reduceEqDiff] <;> rfl, ⟨[], rfl, tall, .inl rfl, Nat.zero_le _⟩, tsame.trans ((Same.bump _ _).trans (Same.bump _ _))⟩
  · rw [List.concat_eq_append] at t0 tall tle
    rw [List.concat_eq_append]
    have hlen : (u ++ [b]).length = u.length + 1 := by simp
    have c : decide (((u ++ [b]).length : Int) > Int.ofNat 0) = true := by rw [Int.ofNat_eq_natCast, decide_eq_true_eq]; omega
    have w1 : wrapA .i64 (((u ++ [b]).length : Int) - Int.ofNat 1) = ((u.length : Nat) : Int) := by
      show wrapA .i64 (((u ++ [b]).length : Int) - 1) = _
      rw [wrapI _ (by omega) (by omega)]; omega
    have hi : idxOk (u.length : Int) (u ++ [b]).length = true := idxOk_lt (by omega)
    have hub : (u ++ [b])[u.length]? = some b := by simp
    repeat (first | refine W.seq ?_ | refine W.block ?_ | refine W.skip ?_ | (apply W.reg; · (simp only [List.length_cons, List.length_nil, Nat.reduceAdd]; rfl)) | refine WO.nil ?_ | (apply WO.op; · first | exact op_mv (by simp only [St.ev, ↓Tr.get_set, ↓reduceIte, Nat.reduceEqDiff, natA, t0, t1, c, w1, hi, hub, Int.toNat_natCast, Option.map_some]; rfl) | exact op_bin (by simp only [St.ev, ↓Tr.get_set, ↓reduceIte, Nat.reduceEqDiff, natA, t0, t1, c, w1, hi, hub, Int.toNat_natCast, Option.map_some]; rfl) (by simp only [St.ev, ↓Tr.get_set, ↓reduceIte, Nat.reduceEqDiff, natA, t0, t1, c, w1, hi, hub, Int.toNat_natCast, Option.map_some]; rfl) (by simp only [binA, intCmpA, strA, natA, t0, t1, c, w1, hi, hub, Int.toNat_natCast, Option.map_some]; rfl) | exact op_slen (by simp only [St.ev, ↓Tr.get_set, ↓reduceIte, Nat.reduceEqDiff, natA, t0, t1, c, w1, hi, hub, Int.toNat_natCast, Option.map_some]; rfl) | (simp only [xval, xop, AR.ofV, St.ev, Tr.get_set, get_bump, next_bump, next_set, next_add, AHeap.get_set, reduceIte, Nat.reduceEqDiff, evL, evParts, fillA, AV.cells, natA, binA, intCmpA, unA, minA, maxA, Nat.add_assoc, Nat.reduceAdd, Nat.add_left_cancel_iff, Nat.add_eq_left, Nat.left_eq_add, loadA, cellsAt, storeA, Option.bind_some, iaddrA, aaddrA, t0, t1, c, w1, hi, hub, Int.toNat_natCast, Option.map_some]; rfl)) | refine pN ?_ | (apply W.condT'; (· (simp only [St.ev, ↓Tr.get_set, ↓reduceIte, Nat.reduceEqDiff, natA, t0, t1, c, w1, hi, hub, Int.toNat_natCast, Option.map_some]; rfl)); (· rfl)) | fail)
    obtain ⟨H2, hc, hsame⟩ := hf _ ((tsame.trans (Same.bump _ 3)).trans (Same.bump _ 8)) b
    refine WO.op (op_call (cs := []) (l := [.ptr A 0, byteA b]) (by simp only [St.ev, ↓Tr.get_set, ↓reduceIte, Nat.reduceEqDiff]) (by simp only [evL, St.ev, Tr.get_set, get_bump, next_bump, next_set, next_add, AHeap.get_set, reduceIte, Nat.reduceEqDiff]; rfl) hc) ?_
    cases hb : inS b with
    | false =>
      repeat (first | refine W.seq ?_ | refine W.ret ?_ | refine W.exit ?_ | (apply W.reg; · (simp only [List.length_cons, List.length_nil, Nat.reduceAdd]; rfl)) | refine WO.nil ?_ | (apply WO.op; · first | exact op_mv (by simp only [St.ev, ↓Tr.get_set, ↓reduceIte, Nat.reduceEqDiff, natA, hb, Bool.not_false, t0]; rfl) | exact op_un (by simp only [St.ev, ↓Tr.get_set, ↓reduceIte, Nat.reduceEqDiff, natA, hb, Bool.not_false, t0]; rfl) (by simp only [unA, hb, Bool.not_false, t0]; rfl)) | refine pN ?_ | refine pX ?_ | refine bX ?_ | refine bO (by decide) ?_ | (apply W.condT'; (· (simp only [St.ev, ↓Tr.get_set, ↓reduceIte, Nat.reduceEqDiff, natA, hb, Bool.not_false, t0]; rfl)); (· rfl)) | fail)
      exact ⟨fun id q => (by cases q), _, by simp only [resL, resA, Tr.get_set, get_bump, next_bump, next_set, next_add, AHeap.get_set, reduceIte, Nat.reduceEqDiff, t0] <;> rfl, ⟨u ++ [b], rfl, tall, .inr (by simp [hb]), tle⟩, (((tsame.trans (Same.bump _ 3)).trans (Same.bump _ 8)).trans hsame).trans (Same.bump _ _)⟩
    | true =>
      have hcut : scutA (St.ev tm1) (.str (u ++ [b])) none none = scutA (St.ev tm1) (.str (u ++ [b])) none none := rfl
      have hb1 : bndA (u ++ [b]).length (.int .i64 (u.length : Int)) = some u.length := bndA_nat (by omega)
      repeat (first | refine W.skip ?_ | (apply W.reg; · (simp only [List.length_cons, List.length_nil, Nat.reduceAdd]; rfl)) | refine WO.nil ?_ | (apply WO.op; · first | exact op_mv (by simp only [St.ev, ↓Tr.get_set, ↓reduceIte, Nat.reduceEqDiff, natA, hb, Bool.not_true, t0, w1, scutA, bounds, obnd, hiBnd, hb1]; rfl) | exact op_bin (by simp only [St.ev, ↓Tr.get_set, ↓reduceIte, Nat.reduceEqDiff, natA, hb, Bool.not_true, t0, w1, scutA, bounds, obnd, hiBnd, hb1]; rfl) (by simp only [St.ev, ↓Tr.get_set, ↓reduceIte, Nat.reduceEqDiff, natA, hb, Bool.not_true, t0, w1, scutA, bounds, obnd, hiBnd, hb1]; rfl) (by simp only [binA, intCmpA, strA, natA, hb, Bool.not_true, t0, w1, scutA, bounds, obnd, hiBnd, hb1]; rfl) | exact op_slen (by simp only [St.ev, ↓Tr.get_set, ↓reduceIte, Nat.reduceEqDiff, natA, hb, Bool.not_true, t0, w1, scutA, bounds, obnd, hiBnd, hb1]; rfl) | exact op_un (by simp only [St.ev, ↓Tr.get_set, ↓reduceIte, Nat.reduceEqDiff, natA, hb, Bool.not_true, t0, w1, scutA, bounds, obnd, hiBnd, hb1]; rfl) (by simp only [unA, hb, Bool.not_true, t0, w1, scutA, bounds, obnd, hiBnd, hb1]; rfl) | (simp only [xval, xop, AR.ofV, St.ev, Tr.get_set, get_bump, next_bump, next_set, next_add, AHeap.get_set, reduceIte, Nat.reduceEqDiff, evL, evParts, fillA, AV.cells, natA, binA, intCmpA, unA, minA, maxA, Nat.add_assoc, Nat.reduceAdd, Nat.add_left_cancel_iff, Nat.add_eq_left, Nat.left_eq_add, loadA, cellsAt, storeA, Option.bind_some, iaddrA, aaddrA, hb, Bool.not_true, t0, w1, scutA, bounds, obnd, hiBnd, hb1]; rfl)) | refine pN ?_ | refine bN ?_ | (apply W.condF'; (· (simp only [St.ev, ↓Tr.get_set, ↓reduceIte, Nat.reduceEqDiff, natA, hb, Bool.not_true, t0, w1, scutA, bounds, obnd, hiBnd, hb1]; rfl)); (· rfl)) | fail)
      have hcut2 : (u ++ [b]).take u.length = u := by simp
      refine ⟨u, ⟨⟨?_, by simp only [Tr.get_set, get_bump, next_bump, next_set, next_add, AHeap.get_set, reduceIte, Nat.reduceEqDiff]; exact t1, ?_, (((tsame.trans (Same.bump _ 3)).trans (Same.bump _ 8)).trans hsame).trans (Same.bump _ _)⟩, by omega⟩, by omega⟩
      · simp only [Tr.get_set, get_bump, next_bump, next_set, next_add, AHeap.get_set, reduceIte, Nat.reduceEqDiff, Nat.sub_zero, List.drop_zero, hcut2]
      · rw [← tall, List.all_append, List.all_cons, hb]
        simp
def setI (n : Nat) : List AV := (List.range 256).map fun i => .bool (decide (97 ≤ i) && decide (i < 97 + n))
theorem setI_len (n : Nat) : (setI n).length = 256 := by simp [setI]
theorem setI_1 : overA (setI 0) 97 [.bool true] = setI 1 := by kernel_rfl
theorem setI_2 : overA (setI 1) 98 [.bool true] = setI 2 := by kernel_rfl
theorem setI_3 : overA (setI 2) 99 [.bool true] = setI 3 := by kernel_rfl
theorem setI_4 : overA (setI 3) 100 [.bool true] = setI 4 := by kernel_rfl
theorem setI_succ (n : Nat) (h : n < 4) : overA (setI n) (97 + n) [.bool true] = setI (n + 1) := by
  match n, h with
  | 0, _ => exact setI_1
  | 1, _ => exact setI_2
  | 2, _ => exact setI_3
  | 3, _ => exact setI_4
theorem setI_four : setI 4 = setA := by kernel_rfl
theorem over_all {l x : List AV} (h : l.length = x.length) : overA l 0 x = x := by simp [overA, ← h]
set_option maxHeartbeats 4000000 in
theorem makeSet_ok {cf : CF} {H : AHeap} : ∃ v H', xfunc cf 2000 L118 [.str [97, 98, 99, 100]] H = some (v, H') ∧ v = .tup [.agg setA, .bool true] ∧ Same H H' := by
  refine xfunc_of rfl (by show 1 ≤ 21; omega) ?_
  have a0 : (argsT [.str [97, 98, 99, 100]] 0 .e).get 0 = some (.str [97, 98, 99, 100]) := rfl
  generalize argsT [.str [97, 98, 99, 100]] 0 .e = tm at a0
  unfold L118
  dsimp only
  refine W.seq ?_
  refine W.rg 2 rfl (fun H1 hg1 hn1 => ?_)
  refine WO.alloc (fun H2 hc2 hg2 hn2 => ?_)
  have hz : H2.get H.next = some (.cells (setI 0) none) := hc2.trans (congrArg (fun c => some (AObj.cells c none)) (by kernel_rfl))
  clear hc2
  refine WO.op (op_mv (v := .bool false) rfl) ?_
  refine WO.nil (pN (W.seq (W.seq ?_)))
  refine W.rg 1 rfl (fun H3 hg3 hn3 => ?_)
  refine WO.op (op_mv (v := .int .i64 (Int.ofNat 0)) rfl) ?_
  refine WO.nil (pN (W.block ?_))
  refine W.loop (α := Nat) (fun i S => i ≤ 4 ∧ S.tm.get 0 = some (.str [97, 98, 99, 100]) ∧ S.tm.get 4 = some (.int .i64 (i : Int)) ∧ S.tm.get 2 = some (.ptr H.next 0) ∧ S.H.get H.next = some (.cells (setI i) none) ∧ H.next < S.H.next ∧ Same H S.H) (fun i => 4 - i) 0 ?_ (by omega) ?_
  · refine ⟨by omega, by simp only [Tr.get_set, get_bump, next_bump, next_set, next_add, AHeap.get_set, reduceIte, Nat.reduceEqDiff]; exact a0, by simp only [Tr.get_set, get_bump, next_bump, next_set, next_add, AHeap.get_set, reduceIte, Nat.reduceEqDiff] <;> rfl, by simp only [Tr.get_set, get_bump, next_bump, next_set, next_add, AHeap.get_set, reduceIte, Nat.reduceEqDiff], by rw [hg3]; exact hz, by show H.next < H3.next; omega, by show H.next ≤ H3.next; omega, fun j hj => ?_⟩
    show H3.get j = _
    rw [hg3, hg2 j (by omega), hg1]
  · rintro i ⟨tm1, H1'⟩ ⟨hi, t0, t4, t2, hc, hlt, hsame⟩
    simp only at t0 t4 t2 hc hlt hsame
    by_cases h4 : i = 4
    · subst h4
      have c : decide (((4 : Nat) : Int) < (([97, 98, 99, 100] : List UInt8).length : Int)) = false := by decide
      repeat (first | refine W.seq ?_ | refine W.exit ?_ | (apply W.reg; · (simp only [List.length_cons, List.length_nil, Nat.reduceAdd]; rfl)) | refine WO.nil ?_ | (apply WO.op; · first | exact op_mv (by simp only [St.ev, ↓Tr.get_set, ↓reduceIte, Nat.reduceEqDiff, natA, t0, t4, c]; rfl) | exact op_bin (by simp only [St.ev, ↓Tr.get_set, ↓reduceIte, Nat.reduceEqDiff, natA, t0, t4, c]; rfl) (by simp only [St.ev, ↓Tr.get_set, ↓reduceIte, Nat.reduceEqDiff, natA, t0, t4, c]; rfl) (by simp only [binA, intCmpA, strA, natA, t0, t4, c]; rfl) | exact op_slen (by simp only [St.ev, ↓Tr.get_set, ↓reduceIte, Nat.reduceEqDiff, natA, t0, t4, c]; rfl)) | refine pN ?_ | refine pX ?_ | refine bX ?_ | (apply W.condF'; (· (simp only [St.ev, ↓Tr.get_set, ↓reduceIte, Nat.reduceEqDiff, natA, t0, t4, c]; rfl)); (· rfl)) | fail)
      refine WO.op (op_loadn (i := H.next) (o := 0) (by simp only [St.ev, ↓Tr.get_set, ↓reduceIte, Nat.reduceEqDiff, t2]) (by rw [get_bump, get_bump]; exact hc) (by rw [setI_len]; omega)) ?_
      have htake : ((setI 4).drop 0).take 256 = setA := by rw [List.drop_zero, ← setI_four, List.take_of_length_le (by rw [setI_len]; omega)]
      rw [htake]
      have hsl : setA.length = 256 := by rw [← setI_four, setI_len]
      refine WO.store (i := H.next) (o := 0) (v := .agg setA) (by simp only [St.ev, ↓Tr.get_set, ↓reduceIte, Nat.reduceEqDiff, t2]) (by simp only [St.ev, ↓Tr.get_set, ↓reduceIte, Nat.reduceEqDiff]) (by rw [get_bump, get_bump]; exact hc) hsl (by kernel_rfl) (by rw [setI_len]; omega) (fun H5 hc5 hg5 hn5 => ?_)
      have hc6 : H5.get H.next = some (.cells setA none) := by
        rw [hc5]
        show some (AObj.cells (overA (setI 4) 0 setA) none) = _
        rw [over_all (by rw [setI_len, hsl])]
      refine WO.op (op_mv (v := .bool true) rfl) ?_
      refine WO.nil (pN (W.ret ⟨fun id q => (by cases q), [.agg setA, .bool true], ?_, rfl, ?_, fun j hj => ?_⟩))
      · have : loadA H5 (some 256) (.ptr H.next 0) = some (.agg setA) := by
          simp only [loadA, cellsAt, hc6, List.drop_zero]
          rw [if_pos (by omega), List.take_of_length_le (by omega)]
        simp only [resL, resA, Tr.get_set, get_bump, next_bump, next_set, next_add, AHeap.get_set, reduceIte, Nat.reduceEqDiff, t2, Option.bind_some, this] <;> rfl
      · show H.next ≤ H5.next
        rw [hn5]; have := hsame.1; simp only [next_bump]; omega
      · show H5.get j = _
        rw [hg5 j (by omega)]; exact hsame.2 j hj
    · have hi4 : i < 4 := by omega
      have c : decide ((i : Int) < (([97, 98, 99, 100] : List UInt8).length : Int)) = true := by rw [decide_eq_true_eq]; simp; omega
      have hb : ∃ b : UInt8, ([97, 98, 99, 100] : List UInt8)[i]? = some b ∧ b.toNat = 97 + i := by
        match i, hi4 with
        | 0, _ => exact ⟨97, rfl, rfl⟩
        | 1, _ => exact ⟨98, rfl, rfl⟩
        | 2, _ => exact ⟨99, rfl, rfl⟩
        | 3, _ => exact ⟨100, rfl, rfl⟩
      obtain ⟨b, hb1, hb2⟩ := hb
      have c2 : decide ((b.toNat : Int) ≥ Int.ofNat 128) = false := by rw [Int.ofNat_eq_natCast, decide_eq_false_iff_not]; omega
      have hw : wrapA .i64 ((i : Int) + Int.ofNat 1) = ((i + 1 : Nat) : Int) := by
        show wrapA .i64 ((i : Int) + 1) = _
        rw [wrapI _ (by omega) (by omega)]; omega
      repeat (first | refine W.seq ?_ | refine W.block ?_ | refine W.skip ?_ | (apply W.reg; · (simp only [List.length_cons, List.length_nil, Nat.reduceAdd]; rfl)) | refine WO.nil ?_ | (apply WO.op; · first | exact op_mv (by simp only [St.ev, ↓Tr.get_set, ↓reduceIte, Nat.reduceEqDiff, natA, t0, t4, c]; rfl) | exact op_bin (by simp only [St.ev, ↓Tr.get_set, ↓reduceIte, Nat.reduceEqDiff, natA, t0, t4, c]; rfl) (by simp only [St.ev, ↓Tr.get_set, ↓reduceIte, Nat.reduceEqDiff, natA, t0, t4, c]; rfl) (by simp only [binA, intCmpA, strA, natA, t0, t4, c]; rfl) | exact op_slen (by simp only [St.ev, ↓Tr.get_set, ↓reduceIte, Nat.reduceEqDiff, natA, t0, t4, c]; rfl)) | refine pN ?_ | (apply W.condT'; (· (simp only [St.ev, ↓Tr.get_set, ↓reduceIte, Nat.reduceEqDiff, natA, t0, t4, c]; rfl)); (· rfl)) | fail)
      refine WO.op (op_sidx (s := [97, 98, 99, 100]) (i := i) (k := .i64) (by simp only [St.ev, ↓Tr.get_set, ↓reduceIte, Nat.reduceEqDiff]) (by simp only [St.ev, ↓Tr.get_set, ↓reduceIte, Nat.reduceEqDiff]) hb1) ?_
      repeat (first | refine W.seq ?_ | refine W.skip ?_ | (apply W.reg; · (simp only [List.length_cons, List.length_nil, Nat.reduceAdd]; rfl)) | refine WO.nil ?_ | (apply WO.op; · first | exact op_mv (by simp only [St.ev, ↓Tr.get_set, ↓reduceIte, Nat.reduceEqDiff, natA, c2]; rfl) | exact op_bin (by simp only [St.ev, ↓Tr.get_set, ↓reduceIte, Nat.reduceEqDiff, natA, c2]; rfl) (by simp only [St.ev, ↓Tr.get_set, ↓reduceIte, Nat.reduceEqDiff, natA, c2]; rfl) (by simp only [binA, intCmpA, strA, natA, c2]; rfl)) | refine pN ?_ | (apply W.condF'; (· (simp only [St.ev, ↓Tr.get_set, ↓reduceIte, Nat.reduceEqDiff, natA, c2]; rfl)); (· rfl)) | fail)
      refine WO.op (op_aaddr (i := H.next) (p := 0) (j := b.toNat) (k := .u8) (by simp only [St.ev, ↓Tr.get_set, ↓reduceIte, Nat.reduceEqDiff, t2]) (by simp only [St.ev, ↓Tr.get_set, ↓reduceIte, Nat.reduceEqDiff]) (by omega)) ?_
      refine WO.store (i := H.next) (o := 0 + b.toNat * 1) (v := .bool true) (by simp only [St.ev, ↓Tr.get_set, ↓reduceIte, Nat.reduceEqDiff]) (by rfl) (by rw [get_bump, get_bump, get_bump, get_bump]; exact hc) rfl rfl (by rw [setI_len]; omega) (fun H5 hc5 hg5 hn5 => ?_)
      have hc6 : H5.get H.next = some (.cells (setI (i + 1)) none) := by
        rw [hc5, ← setI_succ i hi4, ← hb2]
        simp only [Nat.zero_add, Nat.mul_one, AV.cells]
      repeat (first | (apply W.reg; · (simp only [List.length_cons, List.length_nil, Nat.reduceAdd]; rfl)) | refine WO.nil ?_ | (apply WO.op; · first | exact op_mv (by simp only [St.ev, ↓Tr.get_set, ↓reduceIte, Nat.reduceEqDiff, natA, t4, hw]; rfl) | exact op_bin (by simp only [St.ev, ↓Tr.get_set, ↓reduceIte, Nat.reduceEqDiff, natA, t4, hw]; rfl) (by simp only [St.ev, ↓Tr.get_set, ↓reduceIte, Nat.reduceEqDiff, natA, t4, hw]; rfl) (by simp only [binA, intCmpA, strA, natA, t4, hw]; rfl)) | refine pN ?_ | refine bN ?_ | fail)
      refine ⟨i + 1, ⟨by omega, by simp only [Tr.get_set, get_bump, next_bump, next_set, next_add, AHeap.get_set, reduceIte, Nat.reduceEqDiff]; exact t0, by simp only [Tr.get_set, get_bump, next_bump, next_set, next_add, AHeap.get_set, reduceIte, Nat.reduceEqDiff], by simp only [Tr.get_set, get_bump, next_bump, next_set, next_add, AHeap.get_set, reduceIte, Nat.reduceEqDiff]; exact t2, by rw [get_bump]; exact hc6, ?_, ?_, fun j hj => ?_⟩, by omega⟩
      · show H.next < (H5.bump 3).next
        rw [next_bump, hn5]; simp only [next_bump]; omega
      · show H.next ≤ (H5.bump 3).next
        rw [next_bump, hn5]; simp only [next_bump]; omega
      · show H5.get j = _
        rw [hg5 j (by omega)]; exact hsame.2 j hj
theorem xcallK_F {k f : Nat} {fn : XFunc} {args : List AV} {H : AHeap} (hf : f ≠ 123) (hF : F f = some fn) : xcallK K0 F 2000 (k + 1) f args H = xfunc (xcallK K0 F 2000 k) 2000 fn args H := by
  unfold xcallK
  rw [show K0 f args H = none by simp only [K0, sortK]; rw [if_neg hf]]
  simp only [hF]
theorem all_nil {r s : List UInt8} (h1 : r.all inS = s.all inS) (h2 : r = [] ∨ r.all inS = false) : (r = []) ↔ s.all inS = true := by
  constructor
  · rintro rfl; rw [← h1]; rfl
  · intro h
    rcases h2 with q | q
    · exact q
    · rw [h1, h] at q; cases q
set_option maxHeartbeats 4000000 in
set_option maxRecDepth 100000 in
theorem Trim_ok {H : AHeap} {k : Nat} (s : List UInt8) (hs : s.length ≤ 1000) : ∃ v H', xcallK K0 F 2000 (k + 3) 89 [.str s, .str [97, 98, 99, 100]] H = some (v, H') ∧ (∃ r, v = .str r ∧ (r = [] ↔ s.all inS = true)) ∧ Same H H' := by
  rw [show k + 3 = (k + 2) + 1 from rfl, xcallK_F (by omega) (show F 89 = some L89 from rfl)]
  refine xfunc_of rfl (by show 2 ≤ 43; omega) ?_
  have a0 : (argsT [.str s, .str [97, 98, 99, 100]] 0 .e).get 0 = some (.str s) := rfl
  have a1 : (argsT [.str s, .str [97, 98, 99, 100]] 0 .e).get 1 = some (.str [97, 98, 99, 100]) := rfl
  generalize argsT [.str s, .str [97, 98, 99, 100]] 0 .e = tm at a0 a1
  unfold L89
  dsimp only
  cases s with
  | nil =>
    repeat (first | refine W.seq ?_ | refine W.ret ?_ | (apply W.reg; · (simp only [List.length_cons, List.length_nil, Nat.reduceAdd]; rfl)) | refine WO.nil ?_ | (apply WO.op; · first | exact op_mv (by simp only [St.ev, ↓Tr.get_set, ↓reduceIte, Nat.reduceEqDiff, natA, a0, a1, List.beq_nil_eq, List.isEmpty_nil]; rfl) | exact op_bin (by simp only [St.ev, ↓Tr.get_set, ↓reduceIte, Nat.reduceEqDiff, natA, a0, a1, List.beq_nil_eq, List.isEmpty_nil]; rfl) (by simp only [St.ev, ↓Tr.get_set, ↓reduceIte, Nat.reduceEqDiff, natA, a0, a1, List.beq_nil_eq, List.isEmpty_nil]; rfl) (by simp only [binA, intCmpA, strA, natA, a0, a1, List.beq_nil_eq, List.isEmpty_nil]; rfl) | exact op_pick (by simp only [St.ev, ↓Tr.get_set, ↓reduceIte, Nat.reduceEqDiff, natA, a0, a1, List.beq_nil_eq, List.isEmpty_nil]; rfl) (by first | exact .inl ⟨rfl, (by simp only [St.ev, ↓Tr.get_set, ↓reduceIte, Nat.reduceEqDiff, natA, a0, a1, List.beq_nil_eq, List.isEmpty_nil]; rfl)⟩ | exact .inr ⟨rfl, (by simp only [St.ev, ↓Tr.get_set, ↓reduceIte, Nat.reduceEqDiff, natA, a0, a1, List.beq_nil_eq, List.isEmpty_nil]; rfl)⟩)) | (apply WO.gno'; (· (simp only [St.ev, ↓Tr.get_set, ↓reduceIte, Nat.reduceEqDiff, natA, a0, a1, List.beq_nil_eq, List.isEmpty_nil]; rfl)); (· rfl)) | refine pN ?_ | refine pR ?_ | (apply W.condT'; (· (simp only [St.ev, ↓Tr.get_set, ↓reduceIte, Nat.reduceEqDiff, natA, a0, a1, List.beq_nil_eq, List.isEmpty_nil]; rfl)); (· rfl)) | fail)
    exact ⟨fun id q => (by cases q), _, by simp only [resL, resA, Tr.get_set, get_bump, next_bump, next_set, next_add, AHeap.get_set, reduceIte, Nat.reduceEqDiff] <;> rfl, ⟨[], rfl, by simp⟩, (Same.bump _ _).trans ((Same.bump _ _).trans (Same.bump _ _))⟩
  | cons b s =>
    have e1 : ((b :: s : List UInt8) == []) = false := rfl
    have e2 : (([97, 98, 99, 100] : List UInt8) == []) = false := rfl
    have e3 : ((([97, 98, 99, 100] : List UInt8).length : Int) == Int.ofNat 1) = false := rfl
    repeat (first | refine W.seq ?_ | refine W.skip ?_ | (apply W.reg; · (simp only [List.length_cons, List.length_nil, Nat.reduceAdd]; rfl)) | refine WO.nil ?_ | (apply WO.op; · first | exact op_mv (by simp only [St.ev, ↓Tr.get_set, ↓reduceIte, Nat.reduceEqDiff, natA, a0, a1, e1, e2, e3]; rfl) | exact op_bin (by simp only [St.ev, ↓Tr.get_set, ↓reduceIte, Nat.reduceEqDiff, natA, a0, a1, e1, e2, e3]; rfl) (by simp only [St.ev, ↓Tr.get_set, ↓reduceIte, Nat.reduceEqDiff, natA, a0, a1, e1, e2, e3]; rfl) (by simp only [binA, intCmpA, strA, natA, a0, a1, e1, e2, e3]; rfl) | exact op_slen (by simp only [St.ev, ↓Tr.get_set, ↓reduceIte, Nat.reduceEqDiff, natA, a0, a1, e1, e2, e3]; rfl) | exact op_pick (by simp only [St.ev, ↓Tr.get_set, ↓reduceIte, Nat.reduceEqDiff, natA, a0, a1, e1, e2, e3]; rfl) (by first | exact .inl ⟨rfl, (by simp only [St.ev, ↓Tr.get_set, ↓reduceIte, Nat.reduceEqDiff, natA, a0, a1, e1, e2, e3]; rfl)⟩ | exact .inr ⟨rfl, (by simp only [St.ev, ↓Tr.get_set, ↓reduceIte, Nat.reduceEqDiff, natA, a0, a1, e1, e2, e3]; rfl)⟩)) | (apply WO.gop'; (· (simp only [St.ev, ↓Tr.get_set, ↓reduceIte, Nat.reduceEqDiff, natA, a0, a1, e1, e2, e3]; rfl)); (· rfl); (· first | exact op_mv (by simp only [St.ev, ↓Tr.get_set, ↓reduceIte, Nat.reduceEqDiff, natA, a0, a1, e1, e2, e3]; rfl) | exact op_bin (by simp only [St.ev, ↓Tr.get_set, ↓reduceIte, Nat.reduceEqDiff, natA, a0, a1, e1, e2, e3]; rfl) (by simp only [St.ev, ↓Tr.get_set, ↓reduceIte, Nat.reduceEqDiff, natA, a0, a1, e1, e2, e3]; rfl) (by simp only [binA, intCmpA, strA, natA, a0, a1, e1, e2, e3]; rfl))) | (apply WO.gno'; (· (simp only [St.ev, ↓Tr.get_set, ↓reduceIte, Nat.reduceEqDiff, natA, a0, a1, e1, e2, e3]; rfl)); (· rfl)) | refine pN ?_ | (apply W.condF'; (· (simp only [St.ev, ↓Tr.get_set, ↓reduceIte, Nat.reduceEqDiff, natA, a0, a1, e1, e2, e3]; rfl)); (· rfl)) | fail)
    obtain ⟨v1, H1, h1, rfl, hs1⟩ := makeSet_ok (cf := xcallK K0 F 2000 (k + 1)) (H := (((H.bump 1).bump 6).bump 8).bump 8)
    refine WO.op (op_call (cs := []) (l := [.str [97, 98, 99, 100]]) (H1 := H1) (by rfl) (evL1 (by simp only [St.ev, ↓Tr.get_set, ↓reduceIte, Nat.reduceEqDiff, a1])) (by rw [show k + 2 = (k + 1) + 1 from rfl, xcallK_F (by omega) (show F 118 = some L118 from rfl)]; exact h1)) ?_
    refine WO.op (op_mv (v := .tup [.agg setA, .bool true]) (by simp only [St.ev, ↓Tr.get_set, ↓reduceIte, Nat.reduceEqDiff])) ?_
    refine WO.op (op_ext (l := [.agg setA, .bool true]) (v := .agg setA) (by simp only [St.ev, ↓Tr.get_set, ↓reduceIte, Nat.reduceEqDiff]) rfl) ?_
    refine WO.op (op_ext (l := [.agg setA, .bool true]) (v := .bool true) (by simp only [St.ev, ↓Tr.get_set, ↓reduceIte, Nat.reduceEqDiff]) rfl) ?_
    have hsl : setA.length = 256 := by rw [← setI_four, setI_len]
    refine WO.alloc (fun H2 hc2 hg2 hn2 => ?_)
    have hnx : (((H.bump 1).bump 6).bump 8).next = H.next + 15 := rfl
    generalize hA : (((H.bump 1).bump 6).bump 8).next + 1 + 1 + 1 + 1 + 1 = A at *
    have hs1n := hs1.1
    simp only [next_bump] at hs1n
    refine WO.store (i := A) (o := 0) (v := .agg setA) (by simp only [St.ev, ↓Tr.get_set, ↓reduceIte, Nat.reduceEqDiff]) (by simp only [St.ev, ↓Tr.get_set, ↓reduceIte, Nat.reduceEqDiff]) hc2 hsl (by kernel_rfl) (by simp) (fun H3 hc3 hg3 hn3 => ?_)
    have hc4 : H3.get A = some (.cells setA none) := by
      rw [hc3]
      show some (AObj.cells (overA _ 0 setA) none) = _
      rw [over_all (by rw [hsl]; rfl)]
    clear hc2 hc3
    refine WO.op (op_mv (v := .bool true) (by simp only [St.ev, ↓Tr.get_set, ↓reduceIte, Nat.reduceEqDiff])) ?_
    refine WO.nil (pN (W.seq ?_))
    refine W.rg 1 rfl (fun H4 hg4 hn4 => ?_)
    refine WO.op (op_mv (v := .bool true) (by simp only [St.ev, ↓Tr.get_set, ↓reduceIte, Nat.reduceEqDiff])) ?_
    refine WO.nil (pN (W.condT (by simp only [St.ev, ↓Tr.get_set, ↓reduceIte, Nat.reduceEqDiff]) (W.seq ?_)))
    have hsame3 : Same H H3 := by
      refine ⟨by omega, fun j hj => ?_⟩
      rw [hg3 j (by omega), hg2 j (by omega), hs1.2 j (by simp only [next_bump]; omega)]
      rfl
    refine W.rg 4 rfl (fun H5 hg5 hn5 => ?_)
    refine WO.op (op_mv (v := .str (b :: s)) (by simp only [St.ev, ↓Tr.get_set, ↓reduceIte, Nat.reduceEqDiff, a0])) ?_
    have hA5 : H5.get A = some (.cells setA none) := by rw [hg5, hg4]; exact hc4
    have hcon : ∀ (H0 : AHeap), H0.get A = some (.cells setA none) → A < H0.next → ∀ H1, Same H0 H1 → ∀ b, ∃ H2, xcallK K0 F 2000 (k + 1) 134 [.ptr A 0, byteA b] H1 = some (.bool (inS b), H2) ∧ Same H1 H2 := by
      intro H0 h1 h2 H1 h3 b
      obtain ⟨H2, h4, h5⟩ := contains_ok (cf := xcallK K0 F 2000 k) (fuel := 2000) (H := H1) (A := A) (by rw [h3.2 A h2]; exact h1) b
      exact ⟨H2, by rw [xcallK_F (by omega) (show F 134 = some L134 from rfl)]; exact h4, h5⟩
    have hlt5 : A < H5.next := by omega
    obtain ⟨v1, H6, h6, ⟨r1, rfl, q1, q2, hr1⟩, s6⟩ := trimRight_ok (cf := xcallK K0 F 2000 (k + 1)) (fuel := 2000) (H := H5) (A := A) hlt5 (hcon H5 hA5 hlt5) (b :: s) (by omega) hs
    refine WO.op (op_call (cs := []) (l := [.str (b :: s), .ptr A 0]) (v := .str r1) (H1 := H6) (by rfl) (evL2 (by simp only [St.ev, ↓Tr.get_set, ↓reduceIte, Nat.reduceEqDiff]) (by simp only [St.ev, ↓Tr.get_set, ↓reduceIte, Nat.reduceEqDiff])) (by rw [show k + 2 = (k + 1) + 1 from rfl, xcallK_F (by omega) (show F 120 = some L120 from rfl)]; exact h6)) ?_
    have hlt6 : A < H6.next := Nat.lt_of_lt_of_le hlt5 s6.1
    have hA6 : H6.get A = some (.cells setA none) := by rw [s6.2 A hlt5]; exact hA5
    have hr1 : r1.length ≤ 1000 := by omega
    obtain ⟨v2, H7, h7, ⟨r2, rfl, q3, q4, _⟩, s7⟩ := trimLeft_ok (cf := xcallK K0 F 2000 (k + 1)) (fuel := 2000) (H := H6) (A := A) hlt6 (hcon H6 hA6 hlt6) r1 (by omega) hr1
    refine WO.op (op_call (cs := []) (l := [.str r1, .ptr A 0]) (v := .str r2) (H1 := H7) (by rfl) (evL2 (by simp only [St.ev, ↓Tr.get_set, ↓reduceIte, Nat.reduceEqDiff]) (by simp only [St.ev, ↓Tr.get_set, ↓reduceIte, Nat.reduceEqDiff])) (by rw [show k + 2 = (k + 1) + 1 from rfl, xcallK_F (by omega) (show F 119 = some L119 from rfl)]; exact h7)) ?_
    refine WO.op (op_mv (v := .str r2) (by simp only [St.ev, ↓Tr.get_set, ↓reduceIte, Nat.reduceEqDiff])) ?_
    refine WO.nil (pN (W.ret (pR ⟨fun id q => (by cases q), [.str r2], by simp only [resL, resA, Tr.get_set, get_bump, next_bump, next_set, next_add, AHeap.get_set, reduceIte, Nat.reduceEqDiff] <;> rfl, ⟨r2, rfl, all_nil (q3.trans q1) q4⟩, ?_, fun j hj => ?_⟩)))
    · have := s6.1; have := s7.1
      show H.next ≤ H7.next
      omega
    · show H7.get j = _
      rw [s7.2 j (by have := s6.1; omega), s6.2 j (by omega), hg5, hg4]
      exact hsame3.2 j hj
end Go.Proofs.YtfcgofffalmdfaaGreatDoor.PA
namespace Go.Proofs.YtfcgofffalmdfaaGreatDoor.PA
open Go Go.Eng
theorem encPairs_at : ∀ (l : List (Int × Int)) (j : Nat) (p : Int × Int), l[j]? = some p → ((encPairs l).drop (j * 2)).take 2 = [.int .i64 p.1, .int .i64 p.2]
  | [], j, p, h => by cases h
  | q :: l, 0, p, h => by simp at h; subst h; rfl
  | q :: l, j + 1, p, h => by
    rw [show (j + 1) * 2 = j * 2 + 2 by omega]
    exact encPairs_at l j p (by simpa using h)
end Go.Proofs.YtfcgofffalmdfaaGreatDoor.PA
namespace Go.Proofs.YtfcgofffalmdfaaGreatDoor.PA
open Go Go.Eng
theorem op_mn2 {cf : CF} {n : Nat} {k : IntKind} {a b : Int} {H : AHeap} {ev : XO → Option AV} {x y : XO} (hx : ev x = some (.int k a)) (hy : ev y = some (.int k b)) : xval cf ev H n (.mn [x, y]) = some (.int k (if b < a then b else a), H) := by
  simp only [xval, xop, evL2 hx hy, Option.bind_some, minA, List.foldlM]; rfl
theorem op_mx2 {cf : CF} {n : Nat} {k : IntKind} {a b : Int} {H : AHeap} {ev : XO → Option AV} {x y : XO} (hx : ev x = some (.int k a)) (hy : ev y = some (.int k b)) : xval cf ev H n (.mx [x, y]) = some (.int k (if b > a then b else a), H) := by
  simp only [xval, xop, evL2 hx hy, Option.bind_some, maxA, List.foldlM]; rfl
theorem op_imm {cf : CF} {n j l z : Nat} {k : IntKind} {cs : List AV} {fl : Bool} {H : AHeap} {ev : XO → Option AV} {x y : XO} (hx : ev x = some (.imm cs l fl)) (hy : ev y = some (.int k (j : Int))) (h : j < l) : xval cf ev H n (.iaddr z x y) = some (.iptr cs (j * z), H) := by
  simp only [xval, xop, hx, hy, iaddrA, idxOk_lt h, if_true, Int.toNat_natCast, AR.ofV]
theorem op_iload {cf : CF} {n m o : Nat} {cs : List AV} {H : AHeap} {ev : XO → Option AV} {x : XO} (hx : ev x = some (.iptr cs o)) (h : m ≤ (cs.drop o).length) : xval cf ev H n (.load (some m) x) = some (.agg ((cs.drop o).take m), H) := by
  simp only [xval, xop, hx, Option.bind_some, loadA, cellsAt]
  rw [if_pos h]
  rfl
theorem xop_loadc {n i o : Nat} {c : List AV} {opn : Option Nat} {v : AV} {H : AHeap} {ev : XO → Option AV} {x : XO} (hx : ev x = some (.ptr i o)) (hH : H.get i = some (.cells c opn)) (h : c[o]? = some v) : xop ev H n (.load none x) = .v v := by
  simp only [xop, hx, Option.bind_some, loadA, cellsAt, hH, List.getElem?_drop, Nat.add_zero, h, AR.ofV]
theorem looseOk_of {ops : List XOper} {tr : List St} {base j : Nat} {es : List Nat} {o : XOper} {s : St} (ho : ops[j]? = some o) (hs : tr[j]? = some s) (hg : o.guard = none) {x : AV} (hx : xop (St.ev s.tm) s.H 0 o.op = .v x)
    (hall : ∀ i ∈ j :: (es ++ es.map (· + 1)), ∃ si, tr[i]? = some si ∧ xop (St.ev s.tm) si.H 0 o.op = .v x) (hb : AV.beq x x = true) : looseOk ops tr base [] (j, es, []) = true := by
  unfold looseOk
  have hw : wantedA s.tm o = some true := by unfold wantedA; rw [hg]
  simp only [ho, hs, hw, hx]
  rw [List.all_eq_true]
  intro i hi
  obtain ⟨si, h1, h2⟩ := hall i hi
  simp only [h1, List.filter_nil, AHeap.less, h2, hb]
theorem WT.store {cf : CF} {n m i o : Nat} {a x : XO} {v : AV} {c : List AV} {opn : Option Nat} {r : List XOper} {tm : Tr AV} {H : AHeap} {Q : List St → Prop} (ha : St.ev tm a = some (.ptr i o)) (hx : St.ev tm x = some v) (hH : H.get i = some (.cells c opn)) (hl : v.cells.length = m) (h1 : v.cells.all AV.oneCell = true) (hf : o + m ≤ c.length)
    (k : ∀ H1 : AHeap, H1.get i = some (.cells (overA c o v.cells) opn) → (∀ j, j ≠ i → H1.get j = H.get j) → H1.next = H.next → WT cf r (n + 1) ⟨tm, H1⟩ fun tr => Q (⟨tm, H⟩ :: tr)) : WT cf (⟨none, .store m a x, none⟩ :: r) n ⟨tm, H⟩ Q :=
  WT.opn (op_store ha hx hH hl h1 hf) (k _ (by rw [AHeap.get_set, if_pos rfl]) (fun j hj => by rw [AHeap.get_set, if_neg hj]) rfl)
def rulesOf (l : List (Int × Int)) : List Bool := l.foldl (fun rl p => (rl.set (p.1.toNat * 4 + p.2.toNat) true).set (p.2.toNat * 4 + p.1.toNat) true) (List.replicate 16 false)
theorem rulesOf_len (l : List (Int × Int)) : (rulesOf l).length = 16 := by
  have : ∀ (l : List (Int × Int)) (rl : List Bool), (l.foldl (fun rl p => (rl.set (p.1.toNat * 4 + p.2.toNat) true).set (p.2.toNat * 4 + p.1.toNat) true) rl).length = rl.length := by
    intro l
    induction l with
    | nil => intro rl; rfl
    | cons p l ih => intro rl; rw [List.foldl_cons, ih]; simp
  rw [rulesOf, this]; rfl
def badP (p : Int × Int) : Bool := decide (p.1 < 0) || decide (p.2 < 0) || decide (p.1 ≥ 4) || decide (p.2 ≥ 4)
theorem ropeA_len {s : List UInt8} {rl : List Bool} {gap : Int} {k f : AV} : (ropeA s rl gap k f).length = rl.length + 4 := by simp [ropeA]
theorem ropeA_set {s : List UInt8} {rl : List Bool} {gap : Int} {k f : AV} {j : Nat} (h : j < rl.length) : overA (ropeA s rl gap k f) (1 + j) [.bool true] = ropeA s (rl.set j true) gap k f := by
  have e : overA (ropeA s rl gap k f) (1 + j) [.bool true] = (ropeA s rl gap k f).set (1 + j) (.bool true) := by
    rw [List.set_eq_take_append_cons_drop, if_pos (by rw [ropeA_len]; omega)]
    simp [overA]
  rw [e, show 1 + j = j + 1 by omega]
  simp only [ropeA, List.set_cons_succ]
  rw [List.set_append_left _ _ (by simpa using h), List.map_set]
def readE (s : List UInt8) (l : List (Int × Int)) (gap : Int) : Int :=
  if 40 < s.length ∨ 16 < l.length then 3 else if l.any badP = true then 1 else if gap < 0 ∨ gap > 5 then 1 else if s.all inS = true then 0 else 2
def ReadQ (s : List UInt8) (l : List (Int × Int)) (gap : Int) (v : AV) (H' : AHeap) : Prop :=
  (readE s l gap ≠ 0 ∧ v = .tup [.nilp, .int .i64 (readE s l gap)]) ∨
  (readE s l gap = 0 ∧ ∃ R kn fn, v = .tup [.ptr R 0, .int .i64 0] ∧ H'.get R = some (.cells (ropeA s (rulesOf l) gap (.map kn) (.map fn)) none) ∧ R < H'.next ∧ H'.get kn = some (.map []) ∧ H'.get fn = some (.map []) ∧ kn < fn ∧ fn < R)
theorem bad_iff (p : Int × Int) : badP p = true ↔ ((if p.2 < p.1 then p.2 else p.1) < 0 ∨ (if p.2 > p.1 then p.2 else p.1) ≥ 4) := by
  simp only [badP, Bool.or_eq_true, decide_eq_true_eq]
  constructor
  · intro h
    split <;> split <;> omega
  · intro h
    split at h <;> split at h <;> omega
set_option maxHeartbeats 8000000 in
set_option maxRecDepth 100000 in
theorem read_ok {k : Nat} {H : AHeap} {s : List UInt8} {l : List (Int × Int)} {gap : Int} : ∃ v H', xfunc (xcallK K0 F 2000 (k + 3)) 2000 L47 [.str s, .imm (encPairs l) l.length false, .int .i64 gap] H = some (v, H') ∧ ReadQ s l gap v H' := by
  refine xfunc_of rfl (by show 3 ≤ 76; omega) ?_
  have a0 : (argsT [.str s, .imm (encPairs l) l.length false, .int .i64 gap] 0 .e).get 0 = some (.str s) := rfl
  have a1 : (argsT [.str s, .imm (encPairs l) l.length false, .int .i64 gap] 0 .e).get 1 = some (.imm (encPairs l) l.length false) := rfl
  have a2 : (argsT [.str s, .imm (encPairs l) l.length false, .int .i64 gap] 0 .e).get 2 = some (.int .i64 gap) := rfl
  generalize argsT [.str s, .imm (encPairs l) l.length false, .int .i64 gap] 0 .e = tm at a0 a1 a2
  have g40 : decide ((s.length : Int) > Int.ofNat 40) = decide (40 < s.length) := by rw [Int.ofNat_eq_natCast, decide_eq_decide]; omega
  have g16 : decide ((l.length : Int) > Int.ofNat 16) = decide (16 < l.length) := by rw [Int.ofNat_eq_natCast, decide_eq_decide]; omega
  unfold L47
  dsimp only
  by_cases h40 : 40 < s.length
  · have c : decide ((s.length : Int) > Int.ofNat 40) = true := by rw [g40, decide_eq_true h40]
    repeat (first | refine W.seq ?_ | refine W.ret ?_ | (apply W.reg; · (simp only [List.length_cons, List.length_nil, Nat.reduceAdd]; rfl)) | refine WO.nil ?_ | (apply WO.op; · first | exact op_mv (by simp only [St.ev, ↓Tr.get_set, ↓reduceIte, Nat.reduceEqDiff, natA, a0, c]; rfl) | exact op_bin (by simp only [St.ev, ↓Tr.get_set, ↓reduceIte, Nat.reduceEqDiff, natA, a0, c]; rfl) (by simp only [St.ev, ↓Tr.get_set, ↓reduceIte, Nat.reduceEqDiff, natA, a0, c]; rfl) (by simp only [binA, intCmpA, strA, natA, a0, c]; rfl) | exact op_slen (by simp only [St.ev, ↓Tr.get_set, ↓reduceIte, Nat.reduceEqDiff, natA, a0, c]; rfl) | exact op_pick (by simp only [St.ev, ↓Tr.get_set, ↓reduceIte, Nat.reduceEqDiff, natA, a0, c]; rfl) (by first | exact .inl ⟨rfl, (by simp only [St.ev, ↓Tr.get_set, ↓reduceIte, Nat.reduceEqDiff, natA, a0, c]; rfl)⟩ | exact .inr ⟨rfl, (by simp only [St.ev, ↓Tr.get_set, ↓reduceIte, Nat.reduceEqDiff, natA, a0, c]; rfl)⟩)) | (apply WO.gno'; (· (simp only [St.ev, ↓Tr.get_set, ↓reduceIte, Nat.reduceEqDiff, natA, a0, c]; rfl)); (· rfl)) | refine pN ?_ | refine pR ?_ | (apply W.condT'; (· (simp only [St.ev, ↓Tr.get_set, ↓reduceIte, Nat.reduceEqDiff, natA, a0, c]; rfl)); (· rfl)) | fail)
    refine ⟨fun id q => (by cases q), _, by simp only [resL, resA, Tr.get_set, get_bump, next_bump, next_set, next_add, AHeap.get_set, reduceIte, Nat.reduceEqDiff] <;> rfl, .inl ?_⟩
    have : readE s l gap = 3 := by unfold readE; rw [if_pos (.inl h40)]
    rw [this]
    exact ⟨by omega, rfl⟩
  · have c : decide ((s.length : Int) > Int.ofNat 40) = false := by rw [g40, decide_eq_false h40]
    by_cases h16 : 16 < l.length
    · have c2 : decide ((l.length : Int) > Int.ofNat 16) = true := by rw [g16, decide_eq_true h16]
      repeat (first | refine W.seq ?_ | refine W.ret ?_ | (apply W.reg; · (simp only [List.length_cons, List.length_nil, Nat.reduceAdd]; rfl)) | refine WO.nil ?_ | (apply WO.op; · first | exact op_mv (by simp only [St.ev, ↓Tr.get_set, ↓reduceIte, Nat.reduceEqDiff, natA, a0, a1, c, c2]; rfl) | exact op_bin (by simp only [St.ev, ↓Tr.get_set, ↓reduceIte, Nat.reduceEqDiff, natA, a0, a1, c, c2]; rfl) (by simp only [St.ev, ↓Tr.get_set, ↓reduceIte, Nat.reduceEqDiff, natA, a0, a1, c, c2]; rfl) (by simp only [binA, intCmpA, strA, natA, a0, a1, c, c2]; rfl) | exact op_slen (by simp only [St.ev, ↓Tr.get_set, ↓reduceIte, Nat.reduceEqDiff, natA, a0, a1, c, c2]; rfl) | exact op_pick (by simp only [St.ev, ↓Tr.get_set, ↓reduceIte, Nat.reduceEqDiff, natA, a0, a1, c, c2]; rfl) (by first | exact .inl ⟨rfl, (by simp only [St.ev, ↓Tr.get_set, ↓reduceIte, Nat.reduceEqDiff, natA, a0, a1, c, c2]; rfl)⟩ | exact .inr ⟨rfl, (by simp only [St.ev, ↓Tr.get_set, ↓reduceIte, Nat.reduceEqDiff, natA, a0, a1, c, c2]; rfl)⟩)) | (apply WO.gop'; (· (simp only [St.ev, ↓Tr.get_set, ↓reduceIte, Nat.reduceEqDiff, natA, a0, a1, c, c2]; rfl)); (· rfl); (· first | exact op_mv (by simp only [St.ev, ↓Tr.get_set, ↓reduceIte, Nat.reduceEqDiff, natA, a0, a1, c, c2]; rfl) | exact op_bin (by simp only [St.ev, ↓Tr.get_set, ↓reduceIte, Nat.reduceEqDiff, natA, a0, a1, c, c2]; rfl) (by simp only [St.ev, ↓Tr.get_set, ↓reduceIte, Nat.reduceEqDiff, natA, a0, a1, c, c2]; rfl) (by simp only [binA, intCmpA, strA, natA, a0, a1, c, c2]; rfl) | (simp only [xval, xop, AR.ofV, St.ev, Tr.get_set, get_bump, next_bump, next_set, next_add, AHeap.get_set, reduceIte, Nat.reduceEqDiff, evL, evParts, fillA, AV.cells, natA, binA, intCmpA, unA, minA, maxA, Nat.add_assoc, Nat.reduceAdd, Nat.add_left_cancel_iff, Nat.add_eq_left, Nat.left_eq_add, loadA, cellsAt, storeA, Option.bind_some, iaddrA, aaddrA, a0, a1, c, c2]; rfl))) | refine pN ?_ | refine pR ?_ | (apply W.condT'; (· (simp only [St.ev, ↓Tr.get_set, ↓reduceIte, Nat.reduceEqDiff, natA, a0, a1, c, c2]; rfl)); (· rfl)) | fail)
      refine ⟨fun id q => (by cases q), _, by simp only [resL, resA, Tr.get_set, get_bump, next_bump, next_set, next_add, AHeap.get_set, reduceIte, Nat.reduceEqDiff] <;> rfl, .inl ?_⟩
      have : readE s l gap = 3 := by unfold readE; rw [if_pos (.inr h16)]
      rw [this]
      exact ⟨by omega, rfl⟩
    · have c2 : decide ((l.length : Int) > Int.ofNat 16) = false := by rw [g16, decide_eq_false h16]
      have hE : readE s l gap = if l.any badP = true then 1 else if gap < 0 ∨ gap > 5 then 1 else if s.all inS = true then 0 else 2 := by
        unfold readE; rw [if_neg (by omega)]
      repeat (first | refine W.seq ?_ | refine W.block ?_ | refine W.skip ?_ | (apply W.reg; · (simp only [List.length_cons, List.length_nil, Nat.reduceAdd]; rfl)) | refine WO.nil ?_ | (apply WO.op; · first | exact op_mv (by simp only [St.ev, ↓Tr.get_set, ↓reduceIte, Nat.reduceEqDiff, natA, a0, a1, a2, c, c2]; rfl) | exact op_bin (by simp only [St.ev, ↓Tr.get_set, ↓reduceIte, Nat.reduceEqDiff, natA, a0, a1, a2, c, c2]; rfl) (by simp only [St.ev, ↓Tr.get_set, ↓reduceIte, Nat.reduceEqDiff, natA, a0, a1, a2, c, c2]; rfl) (by simp only [binA, intCmpA, strA, natA, a0, a1, a2, c, c2]; rfl) | exact op_slen (by simp only [St.ev, ↓Tr.get_set, ↓reduceIte, Nat.reduceEqDiff, natA, a0, a1, a2, c, c2]; rfl) | exact op_pick (by simp only [St.ev, ↓Tr.get_set, ↓reduceIte, Nat.reduceEqDiff, natA, a0, a1, a2, c, c2]; rfl) (by first | exact .inl ⟨rfl, (by simp only [St.ev, ↓Tr.get_set, ↓reduceIte, Nat.reduceEqDiff, natA, a0, a1, a2, c, c2]; rfl)⟩ | exact .inr ⟨rfl, (by simp only [St.ev, ↓Tr.get_set, ↓reduceIte, Nat.reduceEqDiff, natA, a0, a1, a2, c, c2]; rfl)⟩) | (simp only [xval, xop, AR.ofV, St.ev, Tr.get_set, get_bump, next_bump, next_set, next_add, AHeap.get_set, reduceIte, Nat.reduceEqDiff, evL, evParts, fillA, AV.cells, natA, binA, intCmpA, unA, minA, maxA, Nat.add_assoc, Nat.reduceAdd, Nat.add_left_cancel_iff, Nat.add_eq_left, Nat.left_eq_add, loadA, cellsAt, storeA, Option.bind_some, iaddrA, aaddrA, a0, a1, a2, c, c2]; rfl)) | (apply WO.gop'; (· (simp only [St.ev, ↓Tr.get_set, ↓reduceIte, Nat.reduceEqDiff, natA, a0, a1, a2, c, c2]; rfl)); (· rfl); (· first | exact op_mv (by simp only [St.ev, ↓Tr.get_set, ↓reduceIte, Nat.reduceEqDiff, natA, a0, a1, a2, c, c2]; rfl) | exact op_bin (by simp only [St.ev, ↓Tr.get_set, ↓reduceIte, Nat.reduceEqDiff, natA, a0, a1, a2, c, c2]; rfl) (by simp only [St.ev, ↓Tr.get_set, ↓reduceIte, Nat.reduceEqDiff, natA, a0, a1, a2, c, c2]; rfl) (by simp only [binA, intCmpA, strA, natA, a0, a1, a2, c, c2]; rfl) | (simp only [xval, xop, AR.ofV, St.ev, Tr.get_set, get_bump, next_bump, next_set, next_add, AHeap.get_set, reduceIte, Nat.reduceEqDiff, evL, evParts, fillA, AV.cells, natA, binA, intCmpA, unA, minA, maxA, Nat.add_assoc, Nat.reduceAdd, Nat.add_left_cancel_iff, Nat.add_eq_left, Nat.left_eq_add, loadA, cellsAt, storeA, Option.bind_some, iaddrA, aaddrA, a0, a1, a2, c, c2]; rfl))) | refine pN ?_ | (apply W.condF'; (· (simp only [St.ev, ↓Tr.get_set, ↓reduceIte, Nat.reduceEqDiff, natA, a0, a1, a2, c, c2]; rfl)); (· rfl)) | fail)
      refine W.loop (α := Nat) (fun i S => i ≤ l.length ∧ S.tm.get 0 = some (.str s) ∧ S.tm.get 2 = some (.int .i64 gap) ∧ S.tm.get 8 = some (.ptr (H.next + 15) 0) ∧ S.tm.get 25 = some (.imm (encPairs l) l.length false) ∧ S.tm.get 26 = some (.int .i64 (l.length : Int)) ∧ S.tm.get 27 = some (.int .i64 (i : Int)) ∧
        S.H.get (H.next + 15) = some (.cells (ropeA s (rulesOf (l.take i)) gap (.map (H.next + 12)) (.map (H.next + 13))) none) ∧ H.next + 15 < S.H.next ∧ (l.take i).any badP = false ∧ S.H.get (H.next + 12) = some (.map []) ∧ S.H.get (H.next + 13) = some (.map [])) (fun i => l.length - i) 0 ?_ (by omega) ?_
      · refine ⟨Nat.zero_le _, by simp only [Tr.get_set, get_bump, next_bump, next_set, next_add, AHeap.get_set, reduceIte, Nat.reduceEqDiff]; exact a0, by simp only [Tr.get_set, get_bump, next_bump, next_set, next_add, AHeap.get_set, reduceIte, Nat.reduceEqDiff]; exact a2, by simp only [Tr.get_set, get_bump, next_bump, next_set, next_add, AHeap.get_set, reduceIte, Nat.reduceEqDiff], by simp only [Tr.get_set, get_bump, next_bump, next_set, next_add, AHeap.get_set, reduceIte, Nat.reduceEqDiff], by simp only [Tr.get_set, get_bump, next_bump, next_set, next_add, AHeap.get_set, reduceIte, Nat.reduceEqDiff], by simp only [Tr.get_set, get_bump, next_bump, next_set, next_add, AHeap.get_set, reduceIte, Nat.reduceEqDiff] <;> rfl, ?_, ?_, rfl, ?_, ?_⟩
        · simp only [Tr.get_set, get_bump, next_bump, next_set, next_add, AHeap.get_set, reduceIte, Nat.reduceEqDiff, Nat.add_assoc, Nat.reduceAdd, Nat.add_left_cancel_iff, Nat.add_eq_left, Nat.left_eq_add]
          rfl
        · simp only [next_bump, next_set]
          omega
        · simp only [Tr.get_set, get_bump, next_bump, next_set, next_add, AHeap.get_set, reduceIte, Nat.reduceEqDiff, Nat.add_assoc, Nat.reduceAdd, Nat.add_left_cancel_iff, Nat.add_eq_left, Nat.left_eq_add]
        · simp only [Tr.get_set, get_bump, next_bump, next_set, next_add, AHeap.get_set, reduceIte, Nat.reduceEqDiff, Nat.add_assoc, Nat.reduceAdd, Nat.add_left_cancel_iff, Nat.add_eq_left, Nat.left_eq_add]
      · rintro i ⟨tm1, H1⟩ ⟨hi, t0, t2, t8, t25, t26, t27, hR, hRn, hany, hka, hkb⟩
        simp only at t0 t2 t8 t25 t26 t27 hR hRn hka hkb
        by_cases he : i = l.length
        · have ci : decide ((i : Int) < (l.length : Int)) = false := by rw [decide_eq_false_iff_not]; omega
          rw [he, List.take_length] at hany hR
          have hE2 : readE s l gap = if gap < 0 ∨ gap > 5 then 1 else if s.all inS = true then 0 else 2 := by rw [hE, if_neg (by rw [hany]; simp)]
          by_cases hg0 : gap < 0
          · have cg : decide (gap < Int.ofNat 0) = true := decide_eq_true hg0
            repeat (first | refine W.seq ?_ | refine W.block ?_ | refine W.ret ?_ | refine W.exit ?_ | (apply W.reg; · (simp only [List.length_cons, List.length_nil, Nat.reduceAdd]; rfl)) | refine WO.nil ?_ | (apply WO.op; · first | exact op_mv (by simp only [St.ev, ↓Tr.get_set, ↓reduceIte, Nat.reduceEqDiff, natA, t0, t2, t8, t25, t26, t27, ci, cg]; rfl) | exact op_bin (by simp only [St.ev, ↓Tr.get_set, ↓reduceIte, Nat.reduceEqDiff, natA, t0, t2, t8, t25, t26, t27, ci, cg]; rfl) (by simp only [St.ev, ↓Tr.get_set, ↓reduceIte, Nat.reduceEqDiff, natA, t0, t2, t8, t25, t26, t27, ci, cg]; rfl) (by simp only [binA, intCmpA, strA, natA, t0, t2, t8, t25, t26, t27, ci, cg]; rfl) | exact op_pick (by simp only [St.ev, ↓Tr.get_set, ↓reduceIte, Nat.reduceEqDiff, natA, t0, t2, t8, t25, t26, t27, ci, cg]; rfl) (by first | exact .inl ⟨rfl, (by simp only [St.ev, ↓Tr.get_set, ↓reduceIte, Nat.reduceEqDiff, natA, t0, t2, t8, t25, t26, t27, ci, cg]; rfl)⟩ | exact .inr ⟨rfl, (by simp only [St.ev, ↓Tr.get_set, ↓reduceIte, Nat.reduceEqDiff, natA, t0, t2, t8, t25, t26, t27, ci, cg]; rfl)⟩)) | (apply WO.gno'; (· (simp only [St.ev, ↓Tr.get_set, ↓reduceIte, Nat.reduceEqDiff, natA, t0, t2, t8, t25, t26, t27, ci, cg]; rfl)); (· rfl)) | refine pN ?_ | refine pR ?_ | refine pX ?_ | refine bR ?_ | refine bX ?_ | (apply W.condT'; (· (simp only [St.ev, ↓Tr.get_set, ↓reduceIte, Nat.reduceEqDiff, natA, t0, t2, t8, t25, t26, t27, ci, cg]; rfl)); (· rfl)) | (apply W.condF'; (· (simp only [St.ev, ↓Tr.get_set, ↓reduceIte, Nat.reduceEqDiff, natA, t0, t2, t8, t25, t26, t27, ci, cg]; rfl)); (· rfl)) | fail)
            refine ⟨fun id q => (by cases q), _, by simp only [resL, resA, Tr.get_set, get_bump, next_bump, next_set, next_add, AHeap.get_set, reduceIte, Nat.reduceEqDiff] <;> rfl, .inl ?_⟩
            rw [hE2, if_pos (.inl hg0)]
            exact ⟨by omega, rfl⟩
          · have cg : decide (gap < Int.ofNat 0) = false := decide_eq_false hg0
            by_cases hg5 : gap > 5
            · have cg5 : decide (gap > Int.ofNat 5) = true := decide_eq_true hg5
              repeat (first | refine W.seq ?_ | refine W.block ?_ | refine W.ret ?_ | refine W.exit ?_ | (apply W.reg; · (simp only [List.length_cons, List.length_nil, Nat.reduceAdd]; rfl)) | refine WO.nil ?_ | (apply WO.op; · first | exact op_mv (by simp only [St.ev, ↓Tr.get_set, ↓reduceIte, Nat.reduceEqDiff, natA, t0, t2, t8, t25, t26, t27, ci, cg, cg5]; rfl) | exact op_bin (by simp only [St.ev, ↓Tr.get_set, ↓reduceIte, Nat.reduceEqDiff, natA, t0, t2, t8, t25, t26, t27, ci, cg, cg5]; rfl) (by simp only [St.ev, ↓Tr.get_set, ↓reduceIte, Nat.reduceEqDiff, natA, t0, t2, t8, t25, t26, t27, ci, cg, cg5]; rfl) (by simp only [binA, intCmpA, strA, natA, t0, t2, t8, t25, t26, t27, ci, cg, cg5]; rfl) | exact op_pick (by simp only [St.ev, ↓Tr.get_set, ↓reduceIte, Nat.reduceEqDiff, natA, t0, t2, t8, t25, t26, t27, ci, cg, cg5]; rfl) (by first | exact .inl ⟨rfl, (by simp only [St.ev, ↓Tr.get_set, ↓reduceIte, Nat.reduceEqDiff, natA, t0, t2, t8, t25, t26, t27, ci, cg, cg5]; rfl)⟩ | exact .inr ⟨rfl, (by simp only [St.ev, ↓Tr.get_set, ↓reduceIte, Nat.reduceEqDiff, natA, t0, t2, t8, t25, t26, t27, ci, cg, cg5]; rfl)⟩)) | (apply WO.gop'; (· (simp only [St.ev, ↓Tr.get_set, ↓reduceIte, Nat.reduceEqDiff, natA, t0, t2, t8, t25, t26, t27, ci, cg, cg5]; rfl)); (· rfl); (· first | exact op_mv (by simp only [St.ev, ↓Tr.get_set, ↓reduceIte, Nat.reduceEqDiff, natA, t0, t2, t8, t25, t26, t27, ci, cg, cg5]; rfl) | exact op_bin (by simp only [St.ev, ↓Tr.get_set, ↓reduceIte, Nat.reduceEqDiff, natA, t0, t2, t8, t25, t26, t27, ci, cg, cg5]; rfl) (by simp only [St.ev, ↓Tr.get_set, ↓reduceIte, Nat.reduceEqDiff, natA, t0, t2, t8, t25, t26, t27, ci, cg, cg5]; rfl) (by simp only [binA, intCmpA, strA, natA, t0, t2, t8, t25, t26, t27, ci, cg, cg5]; rfl))) | refine pN ?_ | refine pR ?_ | refine pX ?_ | refine bR ?_ | refine bX ?_ | (apply W.condT'; (· (simp only [St.ev, ↓Tr.get_set, ↓reduceIte, Nat.reduceEqDiff, natA, t0, t2, t8, t25, t26, t27, ci, cg, cg5]; rfl)); (· rfl)) | (apply W.condF'; (· (simp only [St.ev, ↓Tr.get_set, ↓reduceIte, Nat.reduceEqDiff, natA, t0, t2, t8, t25, t26, t27, ci, cg, cg5]; rfl)); (· rfl)) | fail)
              refine ⟨fun id q => (by cases q), _, by simp only [resL, resA, Tr.get_set, get_bump, next_bump, next_set, next_add, AHeap.get_set, reduceIte, Nat.reduceEqDiff] <;> rfl, .inl ?_⟩
              rw [hE2, if_pos (.inr hg5)]
              exact ⟨by omega, rfl⟩
            · have cg5 : decide (gap > Int.ofNat 5) = false := decide_eq_false hg5
              rw [if_neg (by omega)] at hE2
              repeat (first | refine W.seq ?_ | refine W.block ?_ | refine W.exit ?_ | (apply W.reg; · (simp only [List.length_cons, List.length_nil, Nat.reduceAdd]; rfl)) | refine WO.nil ?_ | (apply WO.op; · first | exact op_mv (by simp only [St.ev, ↓Tr.get_set, ↓reduceIte, Nat.reduceEqDiff, natA, t0, t2, t8, t25, t26, t27, ci, cg, cg5]; rfl) | exact op_bin (by simp only [St.ev, ↓Tr.get_set, ↓reduceIte, Nat.reduceEqDiff, natA, t0, t2, t8, t25, t26, t27, ci, cg, cg5]; rfl) (by simp only [St.ev, ↓Tr.get_set, ↓reduceIte, Nat.reduceEqDiff, natA, t0, t2, t8, t25, t26, t27, ci, cg, cg5]; rfl) (by simp only [binA, intCmpA, strA, natA, t0, t2, t8, t25, t26, t27, ci, cg, cg5]; rfl) | exact op_pick (by simp only [St.ev, ↓Tr.get_set, ↓reduceIte, Nat.reduceEqDiff, natA, t0, t2, t8, t25, t26, t27, ci, cg, cg5]; rfl) (by first | exact .inl ⟨rfl, (by simp only [St.ev, ↓Tr.get_set, ↓reduceIte, Nat.reduceEqDiff, natA, t0, t2, t8, t25, t26, t27, ci, cg, cg5]; rfl)⟩ | exact .inr ⟨rfl, (by simp only [St.ev, ↓Tr.get_set, ↓reduceIte, Nat.reduceEqDiff, natA, t0, t2, t8, t25, t26, t27, ci, cg, cg5]; rfl)⟩)) | (apply WO.gop'; (· (simp only [St.ev, ↓Tr.get_set, ↓reduceIte, Nat.reduceEqDiff, natA, t0, t2, t8, t25, t26, t27, ci, cg, cg5]; rfl)); (· rfl); (· first | exact op_mv (by simp only [St.ev, ↓Tr.get_set, ↓reduceIte, Nat.reduceEqDiff, natA, t0, t2, t8, t25, t26, t27, ci, cg, cg5]; rfl) | exact op_bin (by simp only [St.ev, ↓Tr.get_set, ↓reduceIte, Nat.reduceEqDiff, natA, t0, t2, t8, t25, t26, t27, ci, cg, cg5]; rfl) (by simp only [St.ev, ↓Tr.get_set, ↓reduceIte, Nat.reduceEqDiff, natA, t0, t2, t8, t25, t26, t27, ci, cg, cg5]; rfl) (by simp only [binA, intCmpA, strA, natA, t0, t2, t8, t25, t26, t27, ci, cg, cg5]; rfl))) | refine pN ?_ | refine pX ?_ | refine bX ?_ | (apply W.condF'; (· (simp only [St.ev, ↓Tr.get_set, ↓reduceIte, Nat.reduceEqDiff, natA, t0, t2, t8, t25, t26, t27, ci, cg, cg5]; rfl)); (· rfl)) | fail)
              obtain ⟨v, H2, h2, ⟨r, rfl, hr⟩, s2⟩ := Trim_ok (H := ((H1.bump 1).bump 7).bump 4) (k := k) s (by omega)
              refine WO.op (op_call (cs := []) (l := [.str s, .str [97, 98, 99, 100]]) (v := .str r) (H1 := H2) (by rfl) (evL2 (by simp only [St.ev, ↓Tr.get_set, ↓reduceIte, Nat.reduceEqDiff]) (by rfl)) h2) ?_
              have hR2 : H2.get (H.next + 15) = some (.cells (ropeA s (rulesOf l) gap (.map (H.next + 12)) (.map (H.next + 13))) none) := by
                rw [s2.2 _ (by simp only [next_bump]; omega)]
                exact hR
              have hka2 : H2.get (H.next + 12) = some (.map []) := by
                rw [s2.2 _ (by simp only [next_bump]; omega)]
                exact hka
              have hkb2 : H2.get (H.next + 13) = some (.map []) := by
                rw [s2.2 _ (by simp only [next_bump]; omega)]
                exact hkb
              have hn2 : H.next + 15 < H2.next := by have := s2.1; simp only [next_bump] at this; omega
              by_cases hall : s.all inS = true
              · have hr0 : r = [] := hr.2 hall
                subst hr0
                have ce : (!(([] : List UInt8) == [])) = false := rfl
                repeat (first | refine W.seq ?_ | refine W.skip ?_ | refine W.ret ?_ | (apply W.reg; · (simp only [List.length_cons, List.length_nil, Nat.reduceAdd]; rfl)) | refine WO.nil ?_ | (apply WO.op; · first | exact op_mv (by simp only [St.ev, ↓Tr.get_set, ↓reduceIte, Nat.reduceEqDiff, natA, t0, t2, t8, ce]; rfl) | exact op_bin (by simp only [St.ev, ↓Tr.get_set, ↓reduceIte, Nat.reduceEqDiff, natA, t0, t2, t8, ce]; rfl) (by simp only [St.ev, ↓Tr.get_set, ↓reduceIte, Nat.reduceEqDiff, natA, t0, t2, t8, ce]; rfl) (by simp only [binA, intCmpA, strA, natA, t0, t2, t8, ce]; rfl)) | refine pN ?_ | refine bN ?_ | (apply W.condF'; (· (simp only [St.ev, ↓Tr.get_set, ↓reduceIte, Nat.reduceEqDiff, natA, t0, t2, t8, ce]; rfl)); (· rfl)) | fail)
                refine ⟨fun id q => (by cases q), _, by simp only [resL, resA, Tr.get_set, get_bump, next_bump, next_set, next_add, AHeap.get_set, reduceIte, Nat.reduceEqDiff] <;> rfl, .inr ⟨by rw [hE2, if_pos hall], H.next + 15, H.next + 12, H.next + 13, rfl, ?_, ?_, hka2, hkb2, by omega, by omega⟩⟩
                · exact hR2
                · simp only [next_bump]; omega
              · have hr0 : ¬ r = [] := fun q => hall (hr.1 q)
                have ce : (!(r == [])) = true := by
                  cases r with
                  | nil => exact absurd rfl hr0
                  | cons b r => rfl
                repeat (first | refine W.seq ?_ | refine W.ret ?_ | (apply W.reg; · (simp only [List.length_cons, List.length_nil, Nat.reduceAdd]; rfl)) | refine WO.nil ?_ | (apply WO.op; · first | exact op_mv (by simp only [St.ev, ↓Tr.get_set, ↓reduceIte, Nat.reduceEqDiff, natA, t0, t2, t8, ce]; rfl) | exact op_bin (by simp only [St.ev, ↓Tr.get_set, ↓reduceIte, Nat.reduceEqDiff, natA, t0, t2, t8, ce]; rfl) (by simp only [St.ev, ↓Tr.get_set, ↓reduceIte, Nat.reduceEqDiff, natA, t0, t2, t8, ce]; rfl) (by simp only [binA, intCmpA, strA, natA, t0, t2, t8, ce]; rfl)) | refine pN ?_ | refine pR ?_ | refine bR ?_ | (apply W.condT'; (· (simp only [St.ev, ↓Tr.get_set, ↓reduceIte, Nat.reduceEqDiff, natA, t0, t2, t8, ce]; rfl)); (· rfl)) | fail)
                refine ⟨fun id q => (by cases q), _, by simp only [resL, resA, Tr.get_set, get_bump, next_bump, next_set, next_add, AHeap.get_set, reduceIte, Nat.reduceEqDiff] <;> rfl, .inl ?_⟩
                rw [hE2, if_neg hall]
                exact ⟨by omega, rfl⟩
        · have hlt : i < l.length := by omega
          have ci : decide ((i : Int) < (l.length : Int)) = true := by rw [decide_eq_true_eq]; omega
          obtain ⟨p, hp⟩ : ∃ p, l[i]? = some p := ⟨_, List.getElem?_eq_getElem hlt⟩
          have hpe := encPairs_at l i p hp
          have hlen2 : 2 ≤ ((encPairs l).drop (i * 2)).length := by
            rw [List.length_drop, encPairs_length]; omega
          have hw : wrapA .i64 ((i : Int) + Int.ofNat 1) = ((i + 1 : Nat) : Int) := by
            show wrapA .i64 ((i : Int) + 1) = _
            rw [wrapI _ (by omega) (by omega)]; omega
          repeat (first | refine W.seq ?_ | refine W.block ?_ | refine W.skip ?_ | (apply W.reg; · (simp only [List.length_cons, List.length_nil, Nat.reduceAdd]; rfl)) | refine WO.nil ?_ | (apply WO.op; · first | exact op_bin (by simp only [St.ev, ↓Tr.get_set, ↓reduceIte, Nat.reduceEqDiff, natA, t0, t2, t8, t25, t26, t27, ci]; rfl) (by simp only [St.ev, ↓Tr.get_set, ↓reduceIte, Nat.reduceEqDiff, natA, t0, t2, t8, t25, t26, t27, ci]; rfl) (by simp only [binA, intCmpA, strA, natA, t0, t2, t8, t25, t26, t27, ci]; rfl)) | refine pN ?_ | (apply W.condT'; (· (simp only [St.ev, ↓Tr.get_set, ↓reduceIte, Nat.reduceEqDiff, natA, t0, t2, t8, t25, t26, t27, ci]; rfl)); (· rfl)) | fail)
          refine WO.op (op_imm (cs := encPairs l) (l := l.length) (fl := false) (j := i) (k := .i64) (by simp only [St.ev, ↓Tr.get_set, ↓reduceIte, Nat.reduceEqDiff, t25]) (by simp only [St.ev, ↓Tr.get_set, ↓reduceIte, Nat.reduceEqDiff, t27]) hlt) ?_
          refine WO.op (op_iload (cs := encPairs l) (o := i * 2) (by simp only [St.ev, ↓Tr.get_set, ↓reduceIte, Nat.reduceEqDiff]) hlen2) ?_
          rw [hpe]
          generalize hPn : (H1.bump 1).next + 1 + 1 = P
          have hP1 : H1.next < P := by rw [← hPn, next_bump]; omega
          have hP2 : P < ((H1.bump 1).bump 4).next := by rw [← hPn]; simp only [next_bump]; omega
          have hR1 : ((H1.bump 1).bump 4).get (H.next + 15) = some (.cells (ropeA s (rulesOf (l.take i)) gap (.map (H.next + 12)) (.map (H.next + 13))) none) := hR
          have hka1 : ((H1.bump 1).bump 4).get (H.next + 12) = some (.map []) := hka
          have hkb1 : ((H1.bump 1).bump 4).get (H.next + 13) = some (.map []) := hkb
          generalize (H1.bump 1).bump 4 = H2 at hP2 hR1 hka1 hkb1
          refine WO.alloc (fun H3 hc3 hg3 hn3 => ?_)
          refine WO.store (i := P) (o := 0) (v := .agg [.int .i64 p.1, .int .i64 p.2]) (by simp only [St.ev, ↓Tr.get_set, ↓reduceIte, Nat.reduceEqDiff]) (by simp only [St.ev, ↓Tr.get_set, ↓reduceIte, Nat.reduceEqDiff]) hc3 rfl rfl (by simp) (fun H4 hc4 hg4 hn4 => ?_)
          have hP4 : H4.get P = some (.cells [.int .i64 p.1, .int .i64 p.2] none) := hc4
          have hR4 : H4.get (H.next + 15) = some (.cells (ropeA s (rulesOf (l.take i)) gap (.map (H.next + 12)) (.map (H.next + 13))) none) := by rw [hg4 _ (by omega), hg3 _ (by omega)]; exact hR1
          have hka4 : H4.get (H.next + 12) = some (.map []) := by rw [hg4 _ (by omega), hg3 _ (by omega)]; exact hka1
          have hkb4 : H4.get (H.next + 13) = some (.map []) := by rw [hg4 _ (by omega), hg3 _ (by omega)]; exact hkb1
          have hn5 : P < H4.next := by omega
          clear hc3 hg3 hc4 hg4
          refine WO.nil (pN (W.seq (W.seq ?_)))
          refine W.rg 14 rfl (fun H5 hg5 hn6 => ?_)
          have hP5 : H5.get P = some (.cells [.int .i64 p.1, .int .i64 p.2] none) := by rw [hg5]; exact hP4
          have hR5 : H5.get (H.next + 15) = some (.cells (ropeA s (rulesOf (l.take i)) gap (.map (H.next + 12)) (.map (H.next + 13))) none) := by rw [hg5]; exact hR4
          have hka5 : H5.get (H.next + 12) = some (.map []) := by rw [hg5]; exact hka4
          have hkb5 : H5.get (H.next + 13) = some (.map []) := by rw [hg5]; exact hkb4
          refine WO.op (op_faddr (i := P) (p := 0) (by simp only [St.ev, ↓Tr.get_set, ↓reduceIte, Nat.reduceEqDiff])) ?_
          refine WO.op (op_loadc (i := P) (o := 0 + 0) (v := .int .i64 p.1) (by simp only [St.ev, ↓Tr.get_set, ↓reduceIte, Nat.reduceEqDiff]) hP5 rfl) ?_
          refine WO.op (op_faddr (i := P) (p := 0) (by simp only [St.ev, ↓Tr.get_set, ↓reduceIte, Nat.reduceEqDiff])) ?_
          refine WO.op (op_loadc (i := P) (o := 0 + 1) (v := .int .i64 p.2) (by simp only [St.ev, ↓Tr.get_set, ↓reduceIte, Nat.reduceEqDiff]) hP5 rfl) ?_
          refine WO.op (op_mn2 (k := .i64) (a := p.1) (b := p.2) (by simp only [St.ev, ↓Tr.get_set, ↓reduceIte, Nat.reduceEqDiff]) (by simp only [St.ev, ↓Tr.get_set, ↓reduceIte, Nat.reduceEqDiff])) ?_
          have hsucc : (l.take (i + 1)).any badP = badP p := by
            rw [List.take_add_one, hp, List.any_append, hany]
            simp
          have hbadE : badP p = true → readE s l gap = 1 := by
            intro hb
            rw [hE, if_pos (List.any_eq_true.2 ⟨p, List.mem_of_getElem? hp, hb⟩)]
          by_cases hmn : (if p.2 < p.1 then p.2 else p.1) < 0
          · have cm : decide ((if p.2 < p.1 then p.2 else p.1) < Int.ofNat 0) = true := decide_eq_true hmn
            have hb : badP p = true := (bad_iff p).2 (.inl hmn)
            refine WO.op (op_bin (a := .int .i64 (if p.2 < p.1 then p.2 else p.1)) (b := .int .i64 (Int.ofNat 0)) (v := .bool true) (by simp only [St.ev, ↓Tr.get_set, ↓reduceIte, Nat.reduceEqDiff]) (by rfl) (by simp only [binA, intCmpA, cm]; rfl)) ?_
            repeat (first | refine W.seq ?_ | refine W.ret ?_ | (apply W.reg; · (simp only [List.length_cons, List.length_nil, Nat.reduceAdd]; rfl)) | refine WO.nil ?_ | (apply WO.op; · first | exact op_mv (by simp only [St.ev, ↓Tr.get_set, ↓reduceIte, Nat.reduceEqDiff, natA]; rfl) | exact op_pick (by simp only [St.ev, ↓Tr.get_set, ↓reduceIte, Nat.reduceEqDiff, natA]; rfl) (by first | exact .inl ⟨rfl, (by simp only [St.ev, ↓Tr.get_set, ↓reduceIte, Nat.reduceEqDiff, natA]; rfl)⟩ | exact .inr ⟨rfl, (by simp only [St.ev, ↓Tr.get_set, ↓reduceIte, Nat.reduceEqDiff, natA]; rfl)⟩)) | (apply WO.gno'; (· (simp only [St.ev, ↓Tr.get_set, ↓reduceIte, Nat.reduceEqDiff, natA]; rfl)); (· rfl)) | refine pN ?_ | refine pR ?_ | refine bR ?_ | (apply W.condT'; (· (simp only [St.ev, ↓Tr.get_set, ↓reduceIte, Nat.reduceEqDiff, natA]; rfl)); (· rfl)) | fail)
            refine ⟨fun id q => (by cases q), _, by simp only [resL, resA, Tr.get_set, get_bump, next_bump, next_set, next_add, AHeap.get_set, reduceIte, Nat.reduceEqDiff] <;> rfl, .inl ?_⟩
            rw [hbadE hb]
            exact ⟨by omega, rfl⟩
          · have cm : decide ((if p.2 < p.1 then p.2 else p.1) < Int.ofNat 0) = false := decide_eq_false hmn
            refine WO.op (op_bin (a := .int .i64 (if p.2 < p.1 then p.2 else p.1)) (b := .int .i64 (Int.ofNat 0)) (v := .bool false) (by simp only [St.ev, ↓Tr.get_set, ↓reduceIte, Nat.reduceEqDiff]) (by rfl) (by simp only [binA, intCmpA, cm]; rfl)) ?_
            refine WO.op (op_mv (v := .bool false) (by simp only [St.ev, ↓Tr.get_set, ↓reduceIte, Nat.reduceEqDiff])) ?_
            refine WO.gop' (by simp only [St.ev, ↓Tr.get_set, ↓reduceIte, Nat.reduceEqDiff]; rfl) (by rfl) (op_faddr (i := P) (p := 0) (by simp only [St.ev, ↓Tr.get_set, ↓reduceIte, Nat.reduceEqDiff])) ?_
            refine WO.gop' (by simp only [St.ev, ↓Tr.get_set, ↓reduceIte, Nat.reduceEqDiff]; rfl) (by rfl) (op_loadc (i := P) (o := 0 + 0) (v := .int .i64 p.1) (by simp only [St.ev, ↓Tr.get_set, ↓reduceIte, Nat.reduceEqDiff]) hP5 rfl) ?_
            refine WO.gop' (by simp only [St.ev, ↓Tr.get_set, ↓reduceIte, Nat.reduceEqDiff]; rfl) (by rfl) (op_faddr (i := P) (p := 0) (by simp only [St.ev, ↓Tr.get_set, ↓reduceIte, Nat.reduceEqDiff])) ?_
            refine WO.gop' (by simp only [St.ev, ↓Tr.get_set, ↓reduceIte, Nat.reduceEqDiff]; rfl) (by rfl) (op_loadc (i := P) (o := 0 + 1) (v := .int .i64 p.2) (by simp only [St.ev, ↓Tr.get_set, ↓reduceIte, Nat.reduceEqDiff]) hP5 rfl) ?_
            refine WO.gop' (by simp only [St.ev, ↓Tr.get_set, ↓reduceIte, Nat.reduceEqDiff]; rfl) (by rfl) (op_mx2 (k := .i64) (a := p.1) (b := p.2) (by simp only [St.ev, ↓Tr.get_set, ↓reduceIte, Nat.reduceEqDiff]) (by simp only [St.ev, ↓Tr.get_set, ↓reduceIte, Nat.reduceEqDiff])) ?_
            by_cases hmx : (if p.2 > p.1 then p.2 else p.1) ≥ 4
            · have cx : decide ((if p.2 > p.1 then p.2 else p.1) ≥ Int.ofNat 4) = true := decide_eq_true hmx
              have hb : badP p = true := (bad_iff p).2 (.inr hmx)
              refine WO.gop' (by simp only [St.ev, ↓Tr.get_set, ↓reduceIte, Nat.reduceEqDiff]; rfl) (by rfl) (op_bin (a := .int .i64 (if p.2 > p.1 then p.2 else p.1)) (b := .int .i64 (Int.ofNat 4)) (v := .bool true) (by simp only [St.ev, ↓Tr.get_set, ↓reduceIte, Nat.reduceEqDiff]) (by rfl) (by simp only [binA, intCmpA, cx]; rfl)) ?_
              repeat (first | refine W.seq ?_ | refine W.ret ?_ | (apply W.reg; · (simp only [List.length_cons, List.length_nil, Nat.reduceAdd]; rfl)) | refine WO.nil ?_ | (apply WO.op; · first | exact op_mv (by simp only [St.ev, ↓Tr.get_set, ↓reduceIte, Nat.reduceEqDiff, natA]; rfl) | exact op_pick (by simp only [St.ev, ↓Tr.get_set, ↓reduceIte, Nat.reduceEqDiff, natA]; rfl) (by first | exact .inl ⟨rfl, (by simp only [St.ev, ↓Tr.get_set, ↓reduceIte, Nat.reduceEqDiff, natA]; rfl)⟩ | exact .inr ⟨rfl, (by simp only [St.ev, ↓Tr.get_set, ↓reduceIte, Nat.reduceEqDiff, natA]; rfl)⟩)) | refine pN ?_ | refine pR ?_ | refine bR ?_ | (apply W.condT'; (· (simp only [St.ev, ↓Tr.get_set, ↓reduceIte, Nat.reduceEqDiff, natA]; rfl)); (· rfl)) | fail)
              refine ⟨fun id q => (by cases q), _, by simp only [resL, resA, Tr.get_set, get_bump, next_bump, next_set, next_add, AHeap.get_set, reduceIte, Nat.reduceEqDiff] <;> rfl, .inl ?_⟩
              rw [hbadE hb]
              exact ⟨by omega, rfl⟩
            · have cx : decide ((if p.2 > p.1 then p.2 else p.1) ≥ Int.ofNat 4) = false := decide_eq_false hmx
              have hb : badP p = false := by
                rw [Bool.eq_false_iff]
                intro q
                rcases (bad_iff p).1 q with q | q
                · exact hmn q
                · exact hmx q
              refine WO.gop' (by simp only [St.ev, ↓Tr.get_set, ↓reduceIte, Nat.reduceEqDiff]; rfl) (by rfl) (op_bin (a := .int .i64 (if p.2 > p.1 then p.2 else p.1)) (b := .int .i64 (Int.ofNat 4)) (v := .bool false) (by simp only [St.ev, ↓Tr.get_set, ↓reduceIte, Nat.reduceEqDiff]) (by rfl) (by simp only [binA, intCmpA, cx]; rfl)) ?_
              refine WO.op (op_pick (w := .bool false) (v := .bool false) (by simp only [St.ev, ↓Tr.get_set, ↓reduceIte, Nat.reduceEqDiff]) (.inr ⟨rfl, (by simp only [St.ev, ↓Tr.get_set, ↓reduceIte, Nat.reduceEqDiff])⟩)) ?_
              refine WO.nil (pN (W.condF (by simp only [St.ev, ↓Tr.get_set, ↓reduceIte, Nat.reduceEqDiff]) (W.skip (pN ?_))))
              -- the letters' numbers
              obtain ⟨⟨x, y⟩, hxy⟩ : ∃ q : Nat × Nat, p = ((q.1 : Int), (q.2 : Int)) := by
                simp only [badP, Bool.or_eq_false_iff, decide_eq_false_iff_not] at hb
                exact ⟨(p.1.toNat, p.2.toNat), by obtain ⟨p1, p2⟩ := p; simp only [Prod.mk.injEq] at hb ⊢; omega⟩
              have hx4 : x < 4 ∧ y < 4 := by
                rw [hxy] at hb
                simp only [badP, Bool.or_eq_false_iff, decide_eq_false_iff_not] at hb
                omega
              rw [hxy] at hP5
              simp only at hP5
              have hRP : H.next + 15 ≠ P := by omega
              refine W.regd 20 rfl ?_
              have hP6 : (H5.bump 20).get P = some (.cells [.int .i64 (x : Int), .int .i64 (y : Int)] none) := hP5
              have hR6 : (H5.bump 20).get (H.next + 15) = some (.cells (ropeA s (rulesOf (l.take i)) gap (.map (H.next + 12)) (.map (H.next + 13))) none) := hR5
              have hn7 : (H5.bump 20).next = H5.next + 20 := rfl
              have hka6 : (H5.bump 20).get (H.next + 12) = some (.map []) := hka5
              have hkb6 : (H5.bump 20).get (H.next + 13) = some (.map []) := hkb5
              generalize H5.bump 20 = H6 at hP6 hR6 hn7 hka6 hkb6
              refine WT.op (op_mv (v := .ptr (H.next + 15) 0) (by simp only [St.ev, ↓Tr.get_set, ↓reduceIte, Nat.reduceEqDiff, t8])) ?_
              refine WT.op (op_faddr (i := P) (p := 0) (by simp only [St.ev, ↓Tr.get_set, ↓reduceIte, Nat.reduceEqDiff])) ?_
              refine WT.op (op_loadc (i := P) (o := 0 + 0) (v := .int .i64 (x : Int)) (by simp only [St.ev, ↓Tr.get_set, ↓reduceIte, Nat.reduceEqDiff]) hP6 rfl) ?_
              refine WT.op (op_faddr (i := P) (p := 0) (by simp only [St.ev, ↓Tr.get_set, ↓reduceIte, Nat.reduceEqDiff])) ?_
              refine WT.op (op_loadc (i := P) (o := 0 + 1) (v := .int .i64 (y : Int)) (by simp only [St.ev, ↓Tr.get_set, ↓reduceIte, Nat.reduceEqDiff]) hP6 rfl) ?_
              refine WT.op (op_mv (v := .ptr (H.next + 15) 0) (by simp only [St.ev, ↓Tr.get_set, ↓reduceIte, Nat.reduceEqDiff, t8])) ?_
              refine WT.op (op_faddr (i := P) (p := 0) (by simp only [St.ev, ↓Tr.get_set, ↓reduceIte, Nat.reduceEqDiff])) ?_
              refine WT.op (op_loadc (i := P) (o := 0 + 1) (v := .int .i64 (y : Int)) (by simp only [St.ev, ↓Tr.get_set, ↓reduceIte, Nat.reduceEqDiff]) hP6 rfl) ?_
              refine WT.op (op_faddr (i := P) (p := 0) (by simp only [St.ev, ↓Tr.get_set, ↓reduceIte, Nat.reduceEqDiff])) ?_
              refine WT.op (op_loadc (i := P) (o := 0 + 0) (v := .int .i64 (x : Int)) (by simp only [St.ev, ↓Tr.get_set, ↓reduceIte, Nat.reduceEqDiff]) hP6 rfl) ?_
              refine WT.op (op_nilc (i := H.next + 15) (p := 0) (by simp only [St.ev, ↓Tr.get_set, ↓reduceIte, Nat.reduceEqDiff])) ?_
              refine WT.op (op_faddr (i := H.next + 15) (p := 0) (by simp only [St.ev, ↓Tr.get_set, ↓reduceIte, Nat.reduceEqDiff])) ?_
              refine WT.op (op_aaddr (i := H.next + 15) (p := 0 + 1) (j := x) (k := .i64) (by simp only [St.ev, ↓Tr.get_set, ↓reduceIte, Nat.reduceEqDiff]) (by simp only [St.ev, ↓Tr.get_set, ↓reduceIte, Nat.reduceEqDiff]) hx4.1) ?_
              refine WT.op (op_aaddr (i := H.next + 15) (p := 0 + 1 + x * 4) (j := y) (k := .i64) (by simp only [St.ev, ↓Tr.get_set, ↓reduceIte, Nat.reduceEqDiff]) (by simp only [St.ev, ↓Tr.get_set, ↓reduceIte, Nat.reduceEqDiff]) hx4.2) ?_
              have hrl := rulesOf_len (l.take i)
              refine WT.store (i := H.next + 15) (o := 0 + 1 + x * 4 + y * 1) (v := .bool true) (by simp only [St.ev, ↓Tr.get_set, ↓reduceIte, Nat.reduceEqDiff]) (by rfl) hR6 rfl rfl (by rw [ropeA_len, hrl]; omega) (fun H7 hc7 hg7 hn8 => ?_)
              have hR7 : H7.get (H.next + 15) = some (.cells (ropeA s ((rulesOf (l.take i)).set (x * 4 + y) true) gap (.map (H.next + 12)) (.map (H.next + 13))) none) := by
                rw [hc7, show 0 + 1 + x * 4 + y * 1 = 1 + (x * 4 + y) by omega]
                simp only [AV.cells]
                rw [ropeA_set (by rw [hrl]; omega)]
              have hP7 : H7.get P = some (.cells [.int .i64 (x : Int), .int .i64 (y : Int)] none) := by rw [hg7 P (fun q => hRP q.symm)]; exact hP6
              refine WT.op (op_nilc (i := H.next + 15) (p := 0) (by simp only [St.ev, ↓Tr.get_set, ↓reduceIte, Nat.reduceEqDiff])) ?_
              refine WT.op (op_faddr (i := H.next + 15) (p := 0) (by simp only [St.ev, ↓Tr.get_set, ↓reduceIte, Nat.reduceEqDiff])) ?_
              refine WT.op (op_aaddr (i := H.next + 15) (p := 0 + 1) (j := y) (k := .i64) (by simp only [St.ev, ↓Tr.get_set, ↓reduceIte, Nat.reduceEqDiff]) (by simp only [St.ev, ↓Tr.get_set, ↓reduceIte, Nat.reduceEqDiff]) hx4.2) ?_
              refine WT.op (op_aaddr (i := H.next + 15) (p := 0 + 1 + y * 4) (j := x) (k := .i64) (by simp only [St.ev, ↓Tr.get_set, ↓reduceIte, Nat.reduceEqDiff]) (by simp only [St.ev, ↓Tr.get_set, ↓reduceIte, Nat.reduceEqDiff]) hx4.1) ?_
              refine WT.store (i := H.next + 15) (o := 0 + 1 + y * 4 + x * 1) (v := .bool true) (by simp only [St.ev, ↓Tr.get_set, ↓reduceIte, Nat.reduceEqDiff]) (by rfl) hR7 rfl rfl (by rw [ropeA_len, List.length_set, hrl]; omega) (fun H8 hc8 hg8 hn9 => ?_)
              have hR8 : H8.get (H.next + 15) = some (.cells (ropeA s (rulesOf (l.take (i + 1))) gap (.map (H.next + 12)) (.map (H.next + 13))) none) := by
                rw [hc8, show 0 + 1 + y * 4 + x * 1 = 1 + (y * 4 + x) by omega]
                simp only [AV.cells]
                rw [ropeA_set (by rw [List.length_set, hrl]; omega)]
                have : rulesOf (l.take (i + 1)) = ((rulesOf (l.take i)).set (x * 4 + y) true).set (y * 4 + x) true := by
                  rw [List.take_add_one, hp, rulesOf, List.foldl_append]
                  simp only [Option.toList_some, List.foldl_cons, List.foldl_nil, hxy, Int.toNat_natCast]
                  rfl
                rw [this]
              have hka8 : H8.get (H.next + 12) = some (.map []) := by rw [hg8 _ (by omega), hg7 _ (by omega)]; exact hka6
              have hkb8 : H8.get (H.next + 13) = some (.map []) := by rw [hg8 _ (by omega), hg7 _ (by omega)]; exact hkb6
              refine WT.nil ⟨?_, rfl, _, rfl, bN (pN ?_)⟩
              · rw [List.all_cons, List.all_cons, List.all_nil, Bool.and_true, Bool.and_eq_true]
                constructor
                · refine looseOk_of (o := ⟨some 52, .load none (.t 51), none⟩) rfl rfl rfl (x := .int .i64 (y : Int)) (xop_loadc (i := P) (o := 0 + 1) (by simp only [St.ev, ↓Tr.get_set, ↓reduceIte, Nat.reduceEqDiff]) hP6 rfl) (fun j hj => ?_) (by simp [AV.beq])
                  simp only [List.map_cons, List.map_nil, List.cons_append, List.nil_append, List.mem_cons, List.not_mem_nil, or_false] at hj
                  rcases hj with rfl | rfl | rfl
                  · exact ⟨_, rfl, xop_loadc (i := P) (o := 0 + 1) (by simp only [St.ev, ↓Tr.get_set, ↓reduceIte, Nat.reduceEqDiff]) hP6 rfl⟩
                  · exact ⟨_, rfl, xop_loadc (i := P) (o := 0 + 1) (by simp only [St.ev, ↓Tr.get_set, ↓reduceIte, Nat.reduceEqDiff]) hP6 rfl⟩
                  · exact ⟨_, rfl, xop_loadc (i := P) (o := 0 + 1) (by simp only [St.ev, ↓Tr.get_set, ↓reduceIte, Nat.reduceEqDiff]) hP7 rfl⟩
                · refine looseOk_of (o := ⟨some 54, .load none (.t 53), none⟩) rfl rfl rfl (x := .int .i64 (x : Int)) (xop_loadc (i := P) (o := 0 + 0) (by simp only [St.ev, ↓Tr.get_set, ↓reduceIte, Nat.reduceEqDiff]) hP6 rfl) (fun j hj => ?_) (by simp [AV.beq])
                  simp only [List.map_cons, List.map_nil, List.cons_append, List.nil_append, List.mem_cons, List.not_mem_nil, or_false] at hj
                  rcases hj with rfl | rfl | rfl
                  · exact ⟨_, rfl, xop_loadc (i := P) (o := 0 + 0) (by simp only [St.ev, ↓Tr.get_set, ↓reduceIte, Nat.reduceEqDiff]) hP6 rfl⟩
                  · exact ⟨_, rfl, xop_loadc (i := P) (o := 0 + 0) (by simp only [St.ev, ↓Tr.get_set, ↓reduceIte, Nat.reduceEqDiff]) hP6 rfl⟩
                  · exact ⟨_, rfl, xop_loadc (i := P) (o := 0 + 0) (by simp only [St.ev, ↓Tr.get_set, ↓reduceIte, Nat.reduceEqDiff]) hP7 rfl⟩
              · repeat (first | (apply W.reg; · (simp only [List.length_cons, List.length_nil, Nat.reduceAdd]; rfl)) | refine WO.nil ?_ | (apply WO.op; · first | exact op_mv (by simp only [St.ev, ↓Tr.get_set, ↓reduceIte, Nat.reduceEqDiff, natA, t27, hw]; rfl) | exact op_bin (by simp only [St.ev, ↓Tr.get_set, ↓reduceIte, Nat.reduceEqDiff, natA, t27, hw]; rfl) (by simp only [St.ev, ↓Tr.get_set, ↓reduceIte, Nat.reduceEqDiff, natA, t27, hw]; rfl) (by simp only [binA, intCmpA, strA, natA, t27, hw]; rfl)) | refine pN ?_ | fail)
                exact ⟨i + 1, ⟨by omega, by simp only [Tr.get_set, get_bump, next_bump, next_set, next_add, AHeap.get_set, reduceIte, Nat.reduceEqDiff]; exact t0, by simp only [Tr.get_set, get_bump, next_bump, next_set, next_add, AHeap.get_set, reduceIte, Nat.reduceEqDiff]; exact t2, by simp only [Tr.get_set, get_bump, next_bump, next_set, next_add, AHeap.get_set, reduceIte, Nat.reduceEqDiff]; exact t8, by simp only [Tr.get_set, get_bump, next_bump, next_set, next_add, AHeap.get_set, reduceIte, Nat.reduceEqDiff]; exact t25, by simp only [Tr.get_set, get_bump, next_bump, next_set, next_add, AHeap.get_set, reduceIte, Nat.reduceEqDiff]; exact t26, by simp only [Tr.get_set, get_bump, next_bump, next_set, next_add, AHeap.get_set, reduceIte, Nat.reduceEqDiff], hR8, by show H.next + 15 < H8.next + 2; omega, by rw [hsucc, hb], hka8, hkb8⟩, by omega⟩
end Go.Proofs.YtfcgofffalmdfaaGreatDoor.PA
namespace Go.Proofs.YtfcgofffalmdfaaGreatDoor.PA
open Go Go.Eng Go.Proofs
section
variable {s : List UInt8} {rl : List Bool} {gap : Int} {R kn fn : Nat}
theorem first_ok (hP : RopeP s rl R kn fn) : ∀ n i j, j - i = n → i ≤ j → j ≤ s.length → ∀ H, GoodF s rl gap R kn fn H → ∃ v H', CallOK Tryz.prog 48 [.ptr R 0, keyP i j] H v H' ∧ Sp30 s rl gap R kn fn i j H v H' := by
  intro n
  induction n using Nat.strongRecOn with
  | _ n ih =>
    intro i j hn hij hj H hG
    obtain ⟨v, H1, h, hsp⟩ := first_walk hP (fuel := 4000) (by omega) hij hj hG (fun i' j' a b c H g => KF_30 _ _ _ _ _ _ (ih (j' - i') (by omega) i' j' rfl a b H g))
    exact ⟨v, H1, xfunc_sound mixed (xcallK_sound mixed (KF_ok _ _ _ _ _ _) F_ok 4000 2) 4000 (F_ok 48 L48 rfl) h, hsp⟩
end
theorem map_bool_inj : ∀ {a b : List Bool}, a.map AV.bool = b.map AV.bool → a = b
  | [], [], _ => rfl
  | [], _ :: _, h => by simp at h
  | _ :: _, [], h => by simp at h
  | x :: a, y :: b, h => by
    simp only [List.map_cons, List.cons.injEq, AV.bool.injEq] at h
    rw [h.1, map_bool_inj h.2]
theorem ropeA_inj {s s' : List UInt8} {rl rl' : List Bool} {gap gap' : Int} {k f k' f' : Nat} (h1 : rl.length = 16) (h2 : rl'.length = 16) (h : ropeA s rl gap (.map k) (.map f) = ropeA s' rl' gap' (.map k') (.map f')) : s = s' ∧ rl = rl' ∧ gap = gap' ∧ k = k' ∧ f = f' := by
  unfold ropeA at h
  simp only [List.cons.injEq, AV.str.injEq] at h
  obtain ⟨rfl, h⟩ := h
  have h3 := List.append_inj h (by simp [h1, h2])
  simp only [List.cons.injEq, AV.int.injEq, AV.map.injEq, true_and, and_true] at h3
  exact ⟨rfl, map_bool_inj h3.1, h3.2.1, h3.2.2.1, h3.2.2.2⟩
open Classical in
noncomputable def KM : CF := fun f args H =>
  if f = 47 then xcallK K0 F 2000 50 47 args H else
  if f = 68 then (if h : ∃ (r : AV × AHeap) (s : List UInt8) (rl : List Bool) (gap : Int) (R kn fn i j : Nat), args = [.ptr R 0, keyP i j] ∧ RopeP s rl R kn fn ∧ GoodH s rl gap R kn fn H ∧ CallOK Tryz.prog 68 args H r.1 r.2 ∧ Sp28 s rl gap R kn fn i j H r.1 r.2 then some h.choose else none) else
  if f = 48 then (if h : ∃ (r : AV × AHeap) (s : List UInt8) (rl : List Bool) (gap : Int) (R kn fn i j : Nat), args = [.ptr R 0, keyP i j] ∧ RopeP s rl R kn fn ∧ GoodF s rl gap R kn fn H ∧ CallOK Tryz.prog 48 args H r.1 r.2 ∧ Sp30 s rl gap R kn fn i j H r.1 r.2 then some h.choose else none) else none
theorem KM_ok : CFok Tryz.prog KM := by
  intro f args H v H' h
  unfold KM at h
  split at h
  · rename_i hf
    subst hf
    exact K0_ok 50 _ _ _ _ _ h
  · split at h
    · rename_i hf
      subst hf
      split at h
      · rename_i q
        obtain ⟨_, _, _, _, _, _, _, _, _, _, _, h2, _⟩ := q.choose_spec
        simp only [Option.some.injEq] at h
        rw [h] at h2
        exact h2
      · cases h
    · split at h
      · rename_i hf
        subst hf
        split at h
        · rename_i q
          obtain ⟨_, _, _, _, _, _, _, _, _, _, _, h2, _⟩ := q.choose_spec
          simp only [Option.some.injEq] at h
          rw [h] at h2
          exact h2
        · cases h
      · cases h
section
variable {s : List UInt8} {rl : List Bool} {gap : Int} {R kn fn : Nat}
theorem KM_28 (hP : RopeP s rl R kn fn) {i j : Nat} (hij : i ≤ j) (hj : j ≤ s.length) {H : AHeap} (hG : GoodH s rl gap R kn fn H) : ∃ v H', KM 68 [.ptr R 0, keyP i j] H = some (v, H') ∧ Sp28 s rl gap R kn fn i j H v H' := by
  obtain ⟨v, H', h1, h2⟩ := sizes_ok hP _ i j rfl hij hj H hG
  have q : ∃ (r : AV × AHeap) (s : List UInt8) (rl : List Bool) (gap : Int) (R' kn fn i' j' : Nat), [AV.ptr R 0, keyP i j] = [.ptr R' 0, keyP i' j'] ∧ RopeP s rl R' kn fn ∧ GoodH s rl gap R' kn fn H ∧ CallOK Tryz.prog 68 [.ptr R 0, keyP i j] H r.1 r.2 ∧ Sp28 s rl gap R' kn fn i' j' H r.1 r.2 := ⟨(v, H'), s, rl, gap, R, kn, fn, i, j, rfl, hP, hG, h1, h2⟩
  refine ⟨_, _, (by unfold KM; rw [if_neg (by decide), if_pos rfl, dif_pos q]), ?_⟩
  obtain ⟨s', rl', gap', R', kn', fn', i', j', e, hP', hG', _, h3⟩ := q.choose_spec
  have e1 : R = R' := by simp only [List.cons.injEq, AV.ptr.injEq] at e; exact e.1.1
  subst e1
  obtain ⟨rfl, rfl⟩ := keyP_inj (i := i) (j := j) (i' := i') (j' := j') (by simpa using e)
  have hr := hG.r
  rw [hG'.r] at hr
  obtain ⟨rfl, rfl, rfl, rfl, rfl⟩ := ropeA_inj hP'.rl hP.rl (by simpa using hr)
  exact h3
theorem KM_30 (hP : RopeP s rl R kn fn) {i j : Nat} (hij : i ≤ j) (hj : j ≤ s.length) {H : AHeap} (hG : GoodF s rl gap R kn fn H) : ∃ v H', KM 48 [.ptr R 0, keyP i j] H = some (v, H') ∧ Sp30 s rl gap R kn fn i j H v H' := by
  obtain ⟨v, H', h1, h2⟩ := first_ok hP _ i j rfl hij hj H hG
  have q : ∃ (r : AV × AHeap) (s : List UInt8) (rl : List Bool) (gap : Int) (R' kn fn i' j' : Nat), [AV.ptr R 0, keyP i j] = [.ptr R' 0, keyP i' j'] ∧ RopeP s rl R' kn fn ∧ GoodF s rl gap R' kn fn H ∧ CallOK Tryz.prog 48 [.ptr R 0, keyP i j] H r.1 r.2 ∧ Sp30 s rl gap R' kn fn i' j' H r.1 r.2 := ⟨(v, H'), s, rl, gap, R, kn, fn, i, j, rfl, hP, hG, h1, h2⟩
  refine ⟨_, _, (by unfold KM; rw [if_neg (by decide), if_neg (by decide), if_pos rfl, dif_pos q]), ?_⟩
  obtain ⟨s', rl', gap', R', kn', fn', i', j', e, hP', hG', _, h3⟩ := q.choose_spec
  have e1 : R = R' := by simp only [List.cons.injEq, AV.ptr.injEq] at e; exact e.1.1
  subst e1
  obtain ⟨rfl, rfl⟩ := keyP_inj (i := i) (j := j) (i' := i') (j' := j') (by simpa using e)
  have hr := hG.g.r
  rw [hG'.g.r] at hr
  obtain ⟨rfl, rfl, rfl, rfl, rfl⟩ := ropeA_inj hP'.rl hP.rl (by simpa using hr)
  exact h3
end
theorem KM_24 (s : List UInt8) (l : List (Int × Int)) (gap : Int) (H : AHeap) : ∃ v H', KM 47 [.str s, .imm (encPairs l) l.length false, .int .i64 gap] H = some (v, H') ∧ ReadQ s l gap v H' := by
  obtain ⟨v, H', h1, h2⟩ := read_ok (k := 46) (H := H) (s := s) (l := l) (gap := gap)
  refine ⟨v, H', ?_, h2⟩
  unfold KM
  rw [if_pos rfl]
  exact (xcallK_F (k := 49) (by omega) (show F 47 = some L47 from rfl)).trans h1
theorem KM_none {f : Nat} {args : List AV} {H : AHeap} (h1 : f ≠ 47) (h2 : f ≠ 68) (h3 : f ≠ 48) : KM f args H = none := by
  unfold KM
  rw [if_neg h1, if_neg h2, if_neg h3]
theorem readE_zero {s : List UInt8} {l : List (Int × Int)} {gap : Int} (h : readE s l gap = 0) : s.length ≤ 40 ∧ s.all inS' = true ∧ l.any badP = false ∧ 0 ≤ gap ∧ gap ≤ 5 := by
  unfold readE at h
  split at h
  · omega
  · split at h
    · omega
    · rename_i hb
      split at h
      · omega
      · split at h
        · rename_i ha
          exact ⟨by omega, ha, by simpa using hb, by omega, by omega⟩
        · omega
theorem read_good {s : List UInt8} {l : List (Int × Int)} {gap : Int} {R kn fn : Nat} {H : AHeap} (h0 : readE s l gap = 0) (h1 : H.get R = some (.cells (ropeA s (rulesOf l) gap (.map kn) (.map fn)) none)) (h2 : R < H.next) (h3 : H.get kn = some (.map [])) (h4 : H.get fn = some (.map [])) (h5 : kn < fn) (h6 : fn < R) : RopeP s (rulesOf l) R kn fn ∧ GoodF s (rulesOf l) gap R kn fn H := by
  obtain ⟨a, b, _⟩ := readE_zero h0
  exact ⟨⟨rulesOf_len l, b, a, by omega, by omega, by omega⟩, ⟨h1, ⟨[], h3, fun e he => by cases he⟩, h2, by omega⟩, ⟨[], h4, fun e he => by cases he⟩, by omega⟩
theorem whole_ok {cf : CF} {fuel : Nat} {H : AHeap} {R : Nat} {c : List AV} {s : List UInt8} (hR : H.get R = some (.cells c none)) (hc : c[0]? = some (.str s)) (hlt : R < H.next) (hl : s.length < 1000000) : ∃ v H', xfunc cf fuel L49 [.ptr R 0] H = some (v, H') ∧ (v = keyP 0 s.length ∧ H.next ≤ H'.next ∧ ∀ q, q < H.next → H'.get q = H.get q) := by
  refine xfunc_ofK rfl (by show 1 ≤ 9; omega) ?_
  have hF := HF.start H
  have hsl : ∀ {cf : CF} {n : Nat} {H : AHeap} {K : KL0} {x : XO}, evK K x = some (.str s) → XV cf K H n (.slen x) = some (nA s.length, H) := fun hx => k_any (op_slen hx)
  unfold L49
  dsimp only
  repeat' (first | refine WK.seq ?_ | refine WK.ret ?_ | (apply WK.reg; (· exact lnn)) | (apply WKO.alO; (· assumption); (· rfl); (· exact nxx); (· exact nxx); (· exact nxx); intro _ _ _) | (apply WKO.stO0; (· rfl); (· rfl); (· assumption); (· rfl); (· exact nxx); (· first | exact .inr nxx); (· rfl); (· rfl); (· first | decide); intro _ _ _) | refine WKO.nil ?_ | ((first | apply WKO.op); (· first | exact k_mv rfl | (apply k_ldF; (· rfl); (· assumption); (· rfl); (· exact hR); (· exact hlt); (· simp); (· exact hc)) | exact hsl rfl | exact k_faddr rfl | exact k_nilc rfl | exact opA); (· rfl)) | refine pN ?_ | fail)
  rename_i H1 hF1 hn1 H2 hF2 hn2
  exact ⟨fun id q => (by cases q), _, resK_obj rfl (hF2.obj _ (.head _)) rfl, rfl, Nat.le_trans hF2.base hF2.le, fun q hq => hF2.fr q hq (by simp)⟩
end Go.Proofs.YtfcgofffalmdfaaGreatDoor.PA
namespace Go.Proofs.YtfcgofffalmdfaaGreatDoor.PA
open Go Go.Eng Go.Proofs
def pairsI (l : List (Int × Int)) : AV := .imm (encPairs l) l.length false
theorem pairs_froz (l : List (Int × Int)) : (pairsI l).froz = true := by
  simp only [pairsI, AV.froz]
  refine frozL_iff.2 fun x hx => ?_
  unfold encPairs at hx
  obtain ⟨c, hc, hx⟩ := List.mem_flatten.1 hx
  obtain ⟨p, _, rfl⟩ := List.mem_map.1 hc
  simp only [List.mem_cons, List.not_mem_nil, or_false] at hx
  rcases hx with rfl | rfl <;> rfl
def MostV (s : List UInt8) (l : List (Int × Int)) (gap : Int) : Nat × Int := if readE s l gap = 0 then (mostF s (rulesOf l) gap 0 s.length, 0) else (0, readE s l gap)
def FirstV (s : List UInt8) (l : List (Int × Int)) (gap : Int) : List UInt8 × Int := if readE s l gap = 0 then (fsF s (rulesOf l) gap 0 s.length, 0) else ([], readE s l gap)
theorem k_neE {cf : CF} {n : Nat} {H : AHeap} {l : KL0} {x : XO} {e : Int} (hx : evK l x = some (.int .i64 e)) : XV cf l H n (.bin .neq x (.k (.int .i64 (.ofNat 0)))) = some (.bool (decide (e ≠ 0)), H) :=
  k_bin hx rfl (by
    show some (AV.bool (e != Int.ofNat 0)) = _
    congr 2
    rw [Bool.eq_iff_iff]
    simp)
theorem Most_walk (s : List UInt8) (l : List (Int × Int)) (gap : Int) : ∃ v H', xfunc (xcallK KM F 2000 1) 2000 L25 [.str s, pairsI l, .int .i64 gap] ⟨.e, 0⟩ = some (v, H') ∧ v = .tup [nA (MostV s l gap).1, .int .i64 (MostV s l gap).2] := by
  refine xfunc_ofK rfl (by show 3 ≤ 26; omega) ?_
  unfold L25
  dsimp only
  repeat' (first | refine WK.seq ?_ | (apply WK.reg; (· exact lnn)) | refine WKO.nil ?_ | ((first | apply WKO.op); (· first | exact k_mv rfl); (· rfl)) | refine pN ?_ | fail)
  obtain ⟨v, H1, h1, hq⟩ := KM_24 s l gap ((⟨.e, 0⟩ : AHeap).bump 2 |>.bump 9)
  refine WKO.callV rfl rfl rfl ⟨v, H1, cfhit h1, hq⟩ ?_
  rintro v H1 (⟨hE, rfl⟩ | ⟨hE, R, kn, fn, rfl, g1, g2, g3, g4, g5, g6⟩)
  · have hV : MostV s l gap = (0, readE s l gap) := by unfold MostV; rw [if_neg hE]
    rw [hV]
    repeat' (first | refine WK.seq ?_ | refine WK.ret ?_ | (apply WK.reg; (· exact lnn)) | refine WKO.nil ?_ | ((first | apply WKO.op); (· first | exact k_mv rfl | exact k_neE rfl | exact opA); (· rfl)) | refine pN ?_ | refine pR ?_ | (apply WK.condT; (· rfl); (· exact dcd)) | fail)
    exact ⟨fun id q => (by cases q), _, rfl, rfl⟩
  · have hV : MostV s l gap = (mostF s (rulesOf l) gap 0 s.length, 0) := by unfold MostV; rw [if_pos hE]
    obtain ⟨hP, hG⟩ := read_good hE g1 g2 g3 g4 g5 g6
    have hsl := hP.sl
    rw [hV]
    repeat' (first | refine WK.seq ?_ | refine WK.skip ?_ | (apply WK.reg; (· exact lnn)) | refine WKO.nil ?_ | ((first | apply WKO.op); (· first | exact k_mv rfl | exact k_neE rfl | exact opA); (· rfl)) | refine pN ?_ | (apply WK.condF; (· rfl); (· exact dcd)) | fail)
    refine WKO.callV rfl rfl rfl (show ∃ v H', xcallK KM F 2000 1 49 [.ptr R 0] ((H1.bump 2).bump 8) = some (v, H') ∧ _ from by
      obtain ⟨v, H', q1, q2⟩ := whole_ok (cf := xcallK KM F 2000 0) (fuel := 2000) (H := (H1.bump 2).bump 8) (R := R) (c := ropeA s (rulesOf l) gap (.map kn) (.map fn)) (s := s) g1 rfl (by simp only [next_bump]; omega) (by omega)
      exact ⟨v, H', (cfstep (KM_none (by decide) (by decide) (by decide)) rfl).trans q1, q2⟩) ?_
    rintro v2 H2 ⟨rfl, hn2, hk2⟩
    have hG2 : GoodF s (rulesOf l) gap R kn fn H2 := (hG.up (H' := (H1.bump 2).bump 8) (by simp only [next_bump]; omega) rfl rfl rfl).up hn2 (hk2 R (by simp only [next_bump]; omega)) (hk2 kn (by have := hG.g.kn; simp only [next_bump]; omega)) (hk2 fn (by have := hG.fnl; simp only [next_bump]; omega))
    obtain ⟨v3, H3, e3, q3⟩ := KM_28 hP (i := 0) (j := s.length) (Nat.zero_le _) (Nat.le_refl _) hG2.g
    refine WKO.callV rfl rfl rfl ⟨v3, H3, cfhit e3, q3⟩ ?_
    rintro v3 H3 ⟨rfl, _, _, _⟩
    have hpos : 1 ≤ (szF s (rulesOf l) gap 0 s.length).length := sizesN_pos _ _ _
    have hle : (szF s (rulesOf l) gap 0 s.length).length ≤ 42 := by
      have := lenN_le (mayF s (rulesOf l) gap) (s.length - 0) 0
      unfold lenN at this
      unfold szF
      omega
    repeat' (first | refine WK.ret ?_ | refine WKO.nil ?_ | ((first | apply WKO.op); (· first | exact k_mv rfl | exact k_lenE rfl (rowI_rd H3 _) | exact opA); (· rfl)) | refine pN ?_ | fail)
    exact ⟨fun id q => (by cases q), _, rfl, rfl⟩
theorem First_walk (s : List UInt8) (l : List (Int × Int)) (gap : Int) : ∃ v H', xfunc (xcallK KM F 2000 1) 2000 L14 [.str s, pairsI l, .int .i64 gap] ⟨.e, 0⟩ = some (v, H') ∧ v = .tup [.str (FirstV s l gap).1, .int .i64 (FirstV s l gap).2] := by
  refine xfunc_ofK rfl (by show 3 ≤ 24; omega) ?_
  unfold L14
  dsimp only
  repeat' (first | refine WK.seq ?_ | (apply WK.reg; (· exact lnn)) | refine WKO.nil ?_ | ((first | apply WKO.op); (· first | exact k_mv rfl); (· rfl)) | refine pN ?_ | fail)
  obtain ⟨v, H1, h1, hq⟩ := KM_24 s l gap ((⟨.e, 0⟩ : AHeap).bump 2 |>.bump 9)
  refine WKO.callV rfl rfl rfl ⟨v, H1, cfhit h1, hq⟩ ?_
  rintro v H1 (⟨hE, rfl⟩ | ⟨hE, R, kn, fn, rfl, g1, g2, g3, g4, g5, g6⟩)
  · have hV : FirstV s l gap = ([], readE s l gap) := by unfold FirstV; rw [if_neg hE]
    rw [hV]
    repeat' (first | refine WK.seq ?_ | refine WK.ret ?_ | (apply WK.reg; (· exact lnn)) | refine WKO.nil ?_ | ((first | apply WKO.op); (· first | exact k_mv rfl | exact k_neE rfl | exact opA); (· rfl)) | refine pN ?_ | refine pR ?_ | (apply WK.condT; (· rfl); (· exact dcd)) | fail)
    exact ⟨fun id q => (by cases q), _, rfl, rfl⟩
  · have hV : FirstV s l gap = (fsF s (rulesOf l) gap 0 s.length, 0) := by unfold FirstV; rw [if_pos hE]
    obtain ⟨hP, hG⟩ := read_good hE g1 g2 g3 g4 g5 g6
    have hsl := hP.sl
    rw [hV]
    repeat' (first | refine WK.seq ?_ | refine WK.skip ?_ | (apply WK.reg; (· exact lnn)) | refine WKO.nil ?_ | ((first | apply WKO.op); (· first | exact k_mv rfl | exact k_neE rfl | exact opA); (· rfl)) | refine pN ?_ | (apply WK.condF; (· rfl); (· exact dcd)) | fail)
    refine WKO.callV rfl rfl rfl (show ∃ v H', xcallK KM F 2000 1 49 [.ptr R 0] ((H1.bump 2).bump 6) = some (v, H') ∧ _ from by
      obtain ⟨v, H', q1, q2⟩ := whole_ok (cf := xcallK KM F 2000 0) (fuel := 2000) (H := (H1.bump 2).bump 6) (R := R) (c := ropeA s (rulesOf l) gap (.map kn) (.map fn)) (s := s) g1 rfl (by simp only [next_bump]; omega) (by omega)
      exact ⟨v, H', (cfstep (KM_none (by decide) (by decide) (by decide)) rfl).trans q1, q2⟩) ?_
    rintro v2 H2 ⟨rfl, hn2, hk2⟩
    have hG2 : GoodF s (rulesOf l) gap R kn fn H2 := (hG.up (H' := (H1.bump 2).bump 6) (by simp only [next_bump]; omega) rfl rfl rfl).up hn2 (hk2 R (by simp only [next_bump]; omega)) (hk2 kn (by have := hG.g.kn; simp only [next_bump]; omega)) (hk2 fn (by have := hG.fnl; simp only [next_bump]; omega))
    obtain ⟨v3, H3, e3, q3⟩ := KM_30 hP (i := 0) (j := s.length) (Nat.zero_le _) (Nat.le_refl _) hG2
    refine WKO.callV rfl rfl rfl ⟨v3, H3, cfhit e3, q3⟩ ?_
    rintro v3 H3 ⟨rfl, _, _, _⟩
    repeat' (first | refine WK.ret ?_ | refine WKO.nil ?_ | ((first | apply WKO.op); (· first | exact k_mv rfl); (· rfl)) | refine pN ?_ | fail)
    exact ⟨fun id q => (by cases q), _, rfl, rfl⟩
theorem Most_call (s : List UInt8) (l : List (Int × Int)) (gap : Int) : ∃ H', CallOK Tryz.prog 25 [.str s, pairsI l, .int .i64 gap] ⟨.e, 0⟩ (.tup [nA (MostV s l gap).1, .int .i64 (MostV s l gap).2]) H' := by
  obtain ⟨v, H', h, rfl⟩ := Most_walk s l gap
  exact ⟨H', xfunc_sound mixed (xcallK_sound mixed KM_ok F_ok 2000 1) 2000 (F_ok 25 L25 rfl) h⟩
theorem First_call (s : List UInt8) (l : List (Int × Int)) (gap : Int) : ∃ H', CallOK Tryz.prog 14 [.str s, pairsI l, .int .i64 gap] ⟨.e, 0⟩ (.tup [.str (FirstV s l gap).1, .int .i64 (FirstV s l gap).2]) H' := by
  obtain ⟨v, H', h, rfl⟩ := First_walk s l gap
  exact ⟨H', xfunc_sound mixed (xcallK_sound mixed KM_ok F_ok 2000 1) 2000 (F_ok 14 L14 rfl) h⟩
end Go.Proofs.YtfcgofffalmdfaaGreatDoor.PA
namespace Go.Proofs.YtfcgofffalmdfaaGreatDoor.PA
open Go Go.Eng Go.Proofs
theorem encPairs_inj {l l' : List (Int × Int)} (h : encPairs l = encPairs l') : l = l' := by
  have := decPairs_enc l
  rw [h, decPairs_enc l'] at this
  exact (Option.some.inj this).symm
theorem lives_call (H : AHeap) : CallOK Tryz.prog 16 [] H (.bool true) H := by
  obtain ⟨H', h⟩ := runLives
  exact frame0 (xcall_sound mixed F_ok 2000 50 _ _ _ _ _ h) rfl (fun E w us _ h => by simpa [AVRelL] using h)
end Go.Proofs.YtfcgofffalmdfaaGreatDoor.PA
namespace Go.Proofs.YtfcgofffalmdfaaGreatDoor.PA
open Go Go.Eng
section
variable (may : Nat → Nat → Bool)
theorem Fold.app {i : Nat} {u v : List UInt8} (h : Fold may i u) : Fold may (i + u.length) v → Fold may i (u ++ v) := by
  induction h with
  | nil i => exact fun h => h
  | @dot i w h ih =>
    intro hv
    exact .dot (ih (by rw [List.length_cons] at hv; rwa [show i + 1 + w.length = i + (w.length + 1) by omega]))
  | @pair i a b ha hm hb _ ih =>
    intro hv
    have := ih (by
      have e : (40 :: (a ++ 41 :: b) : List UInt8).length = a.length + b.length + 2 := by simp; omega
      rw [e] at hv
      rwa [show i + 2 + a.length + b.length = i + (a.length + b.length + 2) by omega])
    have e : 40 :: (a ++ 41 :: b) ++ v = 40 :: (a ++ 41 :: (b ++ v)) := by simp
    rw [e]
    exact .pair ha hm this
inductive Ctx : Nat → List Nat → List UInt8 → Prop
  | base {w} (h : Fold may 0 w) : Ctx w.length [] w
  | push {a op p w} (hc : Ctx a op p) (hw : Fold may (a + 1) w) : Ctx (a + 1 + w.length) (op ++ [a]) (p ++ 40 :: w)
theorem Ctx.app {i : Nat} {op : List Nat} {p v : List UInt8} (h : Ctx may i op p) (hv : Fold may i v) : Ctx may (i + v.length) op (p ++ v) := by
  cases h with
  | @base w h =>
    have := Ctx.base (may := may) (w := p ++ v) (h.app may (by simpa using hv))
    rwa [List.length_append] at this
  | @push a op p w hc hw =>
    have := Ctx.push hc (hw.app may hv)
    rw [List.length_append, ← Nat.add_assoc] at this
    simpa using this
end
end Go.Proofs.YtfcgofffalmdfaaGreatDoor.PA
namespace Go.Eng
theorem RowE.app0 {z bytes : Nat} {H : AHeap} {v y : AV} {l n : Nat} {cs new : List AV} (h : RowE z H v l cs) (hz : 0 < z) (hl : l + n ≤ 2 ^ 30) (hb : bytes ≤ 2 ^ 16) (hy : lenA y = some n) (hs : srcA H z n y = some new) (hnl : new.length = n * z) (ho : new.all AV.oneCell = true) :
    ∃ v' H', appA H z bytes v y = .eff v' H' ∧ RowE z H' v' (l + n) (cs ++ new) ∧ H.next ≤ H'.next ∧ (∀ j, j < H.next → v.own ≠ some j → H'.get j = H.get j) ∧ (∀ i, v'.own = some i → v.own = some i ∨ H.next ≤ i) := by
  rcases Nat.eq_zero_or_pos n with hn | hn
  · subst hn
    have hnew : new = [] := List.eq_nil_of_length_eq_zero (by omega)
    subst hnew
    refine ⟨v, H, ?_, by simpa using h, Nat.le_refl _, fun _ _ _ => rfl, fun i hi => .inl hi⟩
    unfold appA
    rw [hy]
    simp only [hs]
    rcases h with ⟨_, ⟨rfl, rfl⟩ | ⟨i, full, rfl, h1, _⟩⟩ | ⟨rfl, rfl, i, rfl, h1, h2⟩
    · simp only [List.all_nil, Bool.not_true, Bool.false_eq_true, false_or]
      rw [if_neg (by omega), if_pos trivial]
    · simp only [List.all_nil, Bool.not_true, Bool.false_eq_true, false_or, h1]
      rw [if_neg (by omega), if_neg (by omega), if_pos trivial]
    · simp only [List.all_nil, Bool.not_true, Bool.false_eq_true, false_or, h2]
      rw [if_neg (by omega), if_neg (by omega), if_pos trivial]
  · obtain ⟨v', H', h1, h2, h3, h4, h5⟩ := h.app hz hl hn hb hy hs hnl ho
    exact ⟨v', H', h1, .inl h2, h3, h4, h5⟩
end Go.Eng
namespace Go.Proofs.YtfcgofffalmdfaaGreatDoor.PA
open Go Go.Eng
def comps (out : List (Nat × Nat)) : List Nat := (out.map fun p => [p.1, p.2]).flatten
theorem comps_app (out : List (Nat × Nat)) (p : Nat × Nat) : comps (out ++ [p]) = comps out ++ [p.1, p.2] := by simp [comps]
structure SInv (i : Nat) (op : List Nat) (out : List (Nat × Nat)) : Prop where
  opl : ∀ a ∈ op, a < i
  outl : ∀ x ∈ comps out, x < i
  nd : (op ++ comps out).Nodup
  lt : ∀ p ∈ out, p.1 < p.2
theorem SInv.start : SInv 0 [] [] := ⟨fun a h => (by cases h), fun a h => (by cases h), (by simp [comps]), fun a h => (by cases h)⟩
theorem SInv.push {i : Nat} {op : List Nat} {out : List (Nat × Nat)} (h : SInv i op out) : SInv (i + 1) (op ++ [i]) out := by
  refine ⟨fun a ha => ?_, fun x hx => Nat.lt_succ_of_lt (h.outl x hx), ?_, h.lt⟩
  · rcases List.mem_append.1 ha with q | q
    · have := h.opl a q; omega
    · simp only [List.mem_singleton] at q; omega
  · rw [List.append_assoc]
    show (op ++ (i :: comps out)).Nodup
    rw [List.perm_middle.nodup_iff, List.nodup_cons]
    refine ⟨fun q => ?_, h.nd⟩
    rcases List.mem_append.1 q with q | q
    · have := h.opl i q; omega
    · have := h.outl i q; omega
def MP (out : List (Nat × Nat)) (m : List Int) : Prop := ∀ k, k < m.length → (∃ j, (k, j) ∈ out ∧ m[k]? = some (j : Int)) ∨ (∃ a, (a, k) ∈ out ∧ m[k]? = some (a : Int)) ∨ (k ∉ comps out ∧ m[k]? = some (-1))
theorem MP.grow {i : Nat} {op : List Nat} {out : List (Nat × Nat)} {m : List Int} (I : SInv i op out) (hl : m.length = i) (h : MP out m) : MP out (m ++ [-1]) := by
  intro k hk
  simp only [List.length_append, List.length_cons, List.length_nil] at hk
  by_cases e : k = i
  · refine .inr (.inr ⟨fun q => by have := I.outl k q; omega, ?_⟩)
    rw [List.getElem?_append_right (by omega)]
    simp [hl, e]
  · rcases h k (by omega) with ⟨j, q1, q2⟩ | ⟨j, q1, q2⟩ | ⟨q1, q2⟩
    · exact .inl ⟨j, q1, by rw [List.getElem?_append_left (by omega)]; exact q2⟩
    · exact .inr (.inl ⟨j, q1, by rw [List.getElem?_append_left (by omega)]; exact q2⟩)
    · exact .inr (.inr ⟨q1, by rw [List.getElem?_append_left (by omega)]; exact q2⟩)
theorem MP.pair {i a : Nat} {op : List Nat} {out : List (Nat × Nat)} {m : List Int} (I : SInv i op out) (ha : a < i) (hl : m.length = i) (h : MP out m) : MP (out ++ [(a, i)]) (((m ++ [-1]).set a (i : Int)).set i (a : Int)) := by
  intro k hk
  simp only [List.length_set, List.length_append, List.length_cons, List.length_nil] at hk
  by_cases e : k = i
  · subst e
    exact .inr (.inl ⟨a, by simp, by rw [List.getElem?_set_self (by simp; omega)]⟩)
  · by_cases e2 : k = a
    · subst e2
      exact .inl ⟨i, by simp, by rw [List.getElem?_set_ne (by omega), List.getElem?_set_self (by simp; omega)]⟩
    · have hm : (((m ++ [-1]).set a (i : Int)).set i (a : Int))[k]? = m[k]? := by
        rw [List.getElem?_set_ne (by omega), List.getElem?_set_ne (by omega), List.getElem?_append_left (by omega)]
      rw [hm]
      rcases h k (by omega) with ⟨j, q1, q2⟩ | ⟨j, q1, q2⟩ | ⟨q1, q2⟩
      · exact .inl ⟨j, List.mem_append_left _ q1, q2⟩
      · exact .inr (.inl ⟨j, List.mem_append_left _ q1, q2⟩)
      · refine .inr (.inr ⟨fun q => ?_, q2⟩)
        rw [comps_app] at q
        rcases List.mem_append.1 q with q | q
        · exact q1 q
        · simp only [List.mem_cons, List.not_mem_nil, or_false] at q; omega
def hit (x y : Nat) (p : Int × Int) : Bool := (p.1 == (x : Int) && p.2 == (y : Int)) || (p.1 == (y : Int) && p.2 == (x : Int))
theorem rules_hit : ∀ (l : List (Int × Int)) (rl : List Bool) (x y : Nat), rl.length = 16 → x < 4 → y < 4 → l.any badP = false →
    (l.foldl (fun rl p => (rl.set (p.1.toNat * 4 + p.2.toNat) true).set (p.2.toNat * 4 + p.1.toNat) true) rl).getD (x * 4 + y) false = (rl.getD (x * 4 + y) false || l.any (hit x y))
  | [], rl, x, y, h, hx, hy, hb => by simp
  | p :: l, rl, x, y, h, hx, hy, hb => by
    simp only [List.any_cons, Bool.or_eq_false_iff] at hb
    rw [List.foldl_cons, rules_hit l _ x y (by simp [h]) hx hy hb.2, List.any_cons, ← Bool.or_assoc]
    congr 1
    obtain ⟨p1, p2⟩ := p
    have hb1 := hb.1
    simp only [badP, Bool.or_eq_false_iff, decide_eq_false_iff_not] at hb1
    obtain ⟨a, rfl⟩ : ∃ a : Nat, p1 = a := ⟨p1.toNat, by omega⟩
    obtain ⟨b, rfl⟩ : ∃ b : Nat, p2 = b := ⟨p2.toNat, by omega⟩
    simp only [Int.toNat_natCast, List.getD_eq_getElem?_getD]
    have hlt : x * 4 + y < rl.length := by omega
    by_cases e1 : b * 4 + a = x * 4 + y
    · have e : b = x ∧ a = y := by omega
      rw [e1, List.getElem?_set_self (by simp; omega)]
      obtain ⟨rfl, rfl⟩ := e
      simp [hit]
    · rw [List.getElem?_set_ne e1]
      by_cases e2 : a * 4 + b = x * 4 + y
      · have e : a = x ∧ b = y := by omega
        rw [e2, List.getElem?_set_self hlt]
        obtain ⟨rfl, rfl⟩ := e
        simp [hit]
      · rw [List.getElem?_set_ne e2]
        have : hit x y ((a : Int), (b : Int)) = false := by
          simp only [hit, Bool.or_eq_false_iff, Bool.and_eq_false_iff, beq_eq_false_iff_ne]
          constructor <;> omega
        rw [this, Bool.or_false]
theorem frontE {z : Nat} {H : AHeap} {v : AV} {l m : Nat} {cs : List AV} (h : RowE z H v l cs) (hm : m ≤ l) (ev : XO → Option AV) (x : XO) (k : IntKind) (hx : ev x = some (.int k (m : Int))) :
    ∃ v', cutA ev z v none (some x) none = some v' ∧ RowE z H v' m (cs.take (m * z)) ∧ v'.own = v.own := by
  by_cases h0 : 0 < l
  · rcases h with h | ⟨q, _⟩
    · obtain ⟨v', h1, h2, h3⟩ := h.front hm h0 ev x k hx
      exact ⟨v', h1, .inl h2, h3⟩
    · omega
  · have hm0 : m = 0 := by omega
    have hl0 : l = 0 := by omega
    subst hm0
    subst hl0
    have hcs : cs = [] := List.eq_nil_of_length_eq_zero (by have := h.csl; omega)
    subst hcs
    refine ⟨v, ?_, by simpa using h, rfl⟩
    rcases h with ⟨_, ⟨rfl, _⟩ | ⟨i, full, rfl, _⟩⟩ | ⟨_, _, i, rfl, _⟩
    · unfold cutA
      simp only [bounds, obnd, hiBnd, hx, Option.bind_some, bndA_nat (Nat.le_refl 0)]
    · unfold cutA
      simp only
      rw [if_neg (by decide)]
      simp only [bounds, obnd, hiBnd, hx, Option.bind_some, bndA_nat (Nat.le_refl 0)]
      rw [Nat.sub_zero, if_pos (by decide)]
      simp
    · unfold cutA
      simp only
      rw [if_pos (by decide), if_pos (by omega)]
      simp only [bounds, obnd, hiBnd, hx, Option.bind_some, bndA_nat (Nat.le_refl 0)]
      simp
end Go.Proofs.YtfcgofffalmdfaaGreatDoor.PA
namespace Go.Proofs.YtfcgofffalmdfaaGreatDoor.PA
open Go Go.Eng Go.Proofs
def bA (n : Nat) : AV := .int .u8 (n : Int)
section
variable {cf : CF} {n : Nat} {H : AHeap} {l : KL0} {x y : XO} {f : List UInt8} {a b : Nat}
theorem k_slen (hx : evK l x = some (.str f)) : XV cf l H n (.slen x) = some (nA f.length, H) := k_any (op_slen hx)
theorem k_sidx (hx : evK l x = some (.str f)) (hy : evK l y = some (nA a)) (h : a < f.length) : XV cf l H n (.sidx x y) = some (bA (f.getD a 97).toNat, H) :=
  k_any (op_sidx hx hy (by rw [List.getD_eq_getElem?_getD, List.getElem?_eq_getElem h]; rfl))
theorem k_eq8 {c : Nat} (hx : evK l x = some (bA a)) : XV cf l H n (.bin .eql x (.k (.int .u8 (.ofNat c)))) = some (.bool (decide (a = c)), H) :=
  k_bin hx rfl (by
    show some (AV.bool ((a : Int) == (c : Int))) = _
    congr 2
    rw [Bool.eq_iff_iff]
    simp
    omega)
theorem k_eq88 (hx : evK l x = some (bA a)) (hy : evK l y = some (bA b)) : XV cf l H n (.bin .eql x y) = some (.bool (decide (a = b)), H) :=
  k_bin hx hy (by
    show some (AV.bool ((a : Int) == (b : Int))) = _
    congr 2
    rw [Bool.eq_iff_iff]
    simp
    omega)
theorem k_to8 (hx : evK l x = some (nA a)) (h : a < 256) : XV cf l H n (.conv .u8 x) = some (bA a, H) := by
  refine k_any ?_
  simp only [xval, xop, hx, nA, AR.ofV]
  have : wrapA .u8 (a : Int) = (a : Int) := by
    simp only [wrapA, IntKind.wrap, IntKind.bits, IntKind.signed]
    simp
    omega
  rw [this]
  rfl
theorem k_ldP {cs : List AV} {p : Nat} {v : AV} (hx : evK l x = some (.iptr cs p)) (h : cs[p]? = some v) : XV cf l H n (.load none x) = some (v, H) :=
  k_load hx (by
    show (cs.drop p)[0]? = _
    rw [List.getElem?_drop, Nat.add_zero, h])
theorem k_faP {cs : List AV} {p o : Nat} (hx : evK l x = some (.iptr cs p)) : XV cf l H n (.faddr o x) = some (.iptr cs (p + o), H) := k_any (op_faddrI hx)
theorem k_gtrZ {c : Int} (hx : evK l x = some (nA a)) (hy : evK l y = some (.int .i64 c)) : XV cf l H n (.bin .gtr x y) = some (.bool (decide ((a : Int) > c)), H) := k_bin hx hy rfl
end
theorem encP_get {l : List (Int × Int)} {k : Nat} {p : Int × Int} (h : l[k]? = some p) : (encPairs l)[k * 2]? = some (.int .i64 p.1) ∧ (encPairs l)[k * 2 + 1]? = some (.int .i64 p.2) := by
  have := encPairs_at l k p h
  constructor
  · have h1 : (((encPairs l).drop (k * 2)).take 2)[0]? = some (.int .i64 p.1) := by rw [this]; rfl
    rw [List.getElem?_take, if_pos (by omega), List.getElem?_drop] at h1
    exact h1
  · have h1 : (((encPairs l).drop (k * 2)).take 2)[1]? = some (.int .i64 p.2) := by rw [this]; rfl
    rw [List.getElem?_take, if_pos (by omega), List.getElem?_drop] at h1
    exact h1
theorem Size_ok {cf : CF} {fuel : Nat} {H : AHeap} (f : List UInt8) (hf : f.length < fuel) (hl : f.length ≤ 1000) : ∃ v H', xfunc cf fuel L56 [.str f] H = some (v, H') ∧ (v = nA (sizeF f) ∧ H'.m = H.m ∧ H.next ≤ H'.next) := by
  refine xfunc_ofK rfl (by show 1 ≤ 18; omega) ?_
  unfold L56
  dsimp only
  repeat' (first | refine WK.seq ?_ | refine WK.block ?_ | (apply WK.reg; (· exact lnn)) | refine WKO.nil ?_ | ((first | apply WKO.op); (· first | exact k_mv rfl); (· rfl)) | refine pN ?_ | fail)
  refine WK.loop (α := Nat) (fun i => [(0, .str f), (3, nA (sizeF (f.take i))), (4, nA i)]) (fun i H' => H'.m = H.m ∧ H.next ≤ H'.next ∧ i ≤ f.length) (fun i => f.length - i) 0 (.cons rfl <| .cons rfl <| .cons rfl <| .nil _) ⟨rfl, by simp only [next_bump]; omega, Nat.zero_le _⟩ (by omega) ?_
  rintro i H1 ⟨h1, h2, h3⟩
  have hc : sizeF (f.take i) ≤ i := by
    have := List.countP_le_length (p := fun x : UInt8 => x == 40) (l := f.take i)
    rw [List.length_take] at this
    unfold sizeF
    omega
  have hs : i < f.length → sizeF (f.take (i + 1)) = sizeF (f.take i) + if (f.getD i 97).toNat = 40 then 1 else 0 := fun h => by
    rw [List.take_add_one, List.getElem?_eq_getElem h, sizeF_app, List.getD_eq_getElem?_getD, List.getElem?_eq_getElem h]
    unfold sizeF
    simp only [Option.toList_some, List.countP_cons, List.countP_nil, Option.getD_some, Nat.zero_add]
    congr 1
    have e : (f[i] == 40) = decide (f[i].toNat = 40) := by
      rw [Bool.eq_iff_iff]
      simp only [beq_iff_eq, decide_eq_true_eq]
      exact ⟨fun q => by rw [q]; rfl, fun q => UInt8.toNat_inj.1 q⟩
    rw [e]
    by_cases q : f[i].toNat = 40 <;> simp [q]
  repeat' (first | refine WK.seq ?_ | refine WK.skip ?_ | refine WK.ret ?_ | refine WK.exit ?_ | refine WK.block ?_ | (apply WK.reg; (· exact lnn)) | refine WKO.nil ?_ | ((first | apply WKO.op); (· first | exact k_mv rfl | exact k_slen rfl | exact k_sidx rfl rfl (by omega) | exact k_eq8 rfl | exact opA); (· rfl)) | refine pN ?_ | refine pX ?_ | refine bN ?_ | refine bX ?_ | (apply WK.condD; (· rfl); all_goals intro _) | fail)
  · rename_i h4 h5
    refine ⟨i + 1, .cons rfl <| .cons (by rw [hs h4, if_pos h5]; rfl) <| .cons rfl <| .nil _, ⟨h1, by simp only [next_bump]; omega, by omega⟩, by omega⟩
  · rename_i h4 h5
    refine ⟨i + 1, .cons rfl <| .cons (by rw [hs h4, if_neg h5]; rfl) <| .cons rfl <| .nil _, ⟨h1, by simp only [next_bump]; omega, by omega⟩, by omega⟩
  · have hi : i = f.length := by omega
    refine ⟨fun id q => (by cases q), _, rfl, by rw [hi, List.take_length]; rfl, h1, by simp only [next_bump]; omega⟩
theorem may_iff {s : List UInt8} {l : List (Int × Int)} {gap : Int} {i j : Nat} (hb : l.any badP = false) (hs : s.all inS' = true) (hi : i < s.length) (hj : j < s.length) :
    mayF s (rulesOf l) gap i j = (decide ((j : Int) - (i : Int) > gap) && l.any (hit ((s.getD i 97).toNat - 97) ((s.getD j 97).toNat - 97))) := by
  have hx : ∀ i, i < s.length → 97 ≤ (s.getD i 97).toNat ∧ (s.getD i 97).toNat ≤ 100 := fun i hi => by
    have := List.all_eq_true.1 hs (s.getD i 97) (by rw [List.getD_eq_getElem?_getD, List.getElem?_eq_getElem hi]; exact List.getElem_mem hi)
    simpa [inS'] using this
  have h1 := hx i hi
  have h2 := hx j hj
  unfold mayF ruleOf
  congr 1
  have := rules_hit l (List.replicate 16 false) ((s.getD i 97).toNat - 97) ((s.getD j 97).toNat - 97) (by simp) (by omega) (by omega) hb
  unfold rulesOf
  rw [this, List.getD_eq_getElem?_getD, List.getElem?_replicate]
  split <;> simp
set_option maxHeartbeats 2000000 in
theorem RMay_ok {cf : CF} {fuel : Nat} {H : AHeap} {s : List UInt8} {l : List (Int × Int)} {gap : Int} {i j : Nat} (hb : l.any badP = false) (hs : s.all inS' = true) (hi : i < s.length) (hj : j < s.length) (hij : i < j) (hl : l.length < fuel) (hl2 : l.length ≤ 1000) (hsl : s.length ≤ 1000) :
    ∃ v H', xfunc cf fuel L53 [.str s, pairsI l, .int .i64 gap, nA i, nA j] H = some (v, H') ∧ (v = .bool (mayF s (rulesOf l) gap i j) ∧ H'.m = H.m ∧ H.next ≤ H'.next) := by
  refine xfunc_ofK rfl (by show 5 ≤ 67; omega) ?_
  rw [may_iff hb hs hi hj]
  have hx : ∀ i, i < s.length → 97 ≤ (s.getD i 97).toNat ∧ (s.getD i 97).toNat ≤ 100 := fun i hi => by
    have := List.all_eq_true.1 hs (s.getD i 97) (by rw [List.getD_eq_getElem?_getD, List.getElem?_eq_getElem hi]; exact List.getElem_mem hi)
    simpa [inS'] using this
  have hxi := hx i hi
  have hxj := hx j hj
  unfold L53
  dsimp only
  repeat' (first | refine WK.seq ?_ | refine WK.block ?_ | (apply WK.reg; (· exact lnn)) | refine WKO.nil ?_ | ((first | apply WKO.op); (· first | exact k_mv rfl); (· rfl)) | refine pN ?_ | fail)
  refine WK.loop (α := Nat) (fun k => [(0, .str s), (1, pairsI l), (2, .int .i64 gap), (3, nA i), (4, nA j), (11, nA k)]) (fun k H' => H'.m = H.m ∧ H.next ≤ H'.next ∧ k ≤ l.length ∧ (decide ((j : Int) - (i : Int) > gap) && (l.take k).any (hit ((s.getD i 97).toNat - 97) ((s.getD j 97).toNat - 97))) = false) (fun k => l.length - k) 0 (.cons rfl <| .cons rfl <| .cons rfl <| .cons rfl <| .cons rfl <| .cons rfl <| .nil _) ⟨rfl, by simp only [next_bump]; omega, Nat.zero_le _, by simp⟩ (by omega) ?_
  rintro k H1 ⟨h1, h2, h3, h4⟩
  by_cases hk : k < l.length
  · obtain ⟨p, hp⟩ : ∃ p, l[k]? = some p := ⟨_, List.getElem?_eq_getElem hk⟩
    have hbp : badP p = false := by
      rw [List.any_eq_false] at hb
      simpa using hb p (List.mem_of_getElem? hp)
    obtain ⟨⟨a, b⟩, hab⟩ : ∃ q : Nat × Nat, p = ((q.1 : Int), (q.2 : Int)) := by
      simp only [badP, Bool.or_eq_false_iff, decide_eq_false_iff_not] at hbp
      exact ⟨(p.1.toNat, p.2.toNat), by obtain ⟨p1, p2⟩ := p; simp only [Prod.mk.injEq] at hbp ⊢; omega⟩
    subst hab
    have hab4 : a < 4 ∧ b < 4 := by
      simp only [badP, Bool.or_eq_false_iff, decide_eq_false_iff_not] at hbp
      omega
    obtain ⟨e1, e2⟩ := encP_get hp
    have hany : ∀ z, z = hit ((s.getD i 97).toNat - 97) ((s.getD j 97).toNat - 97) ((a : Int), (b : Int)) → (l.take (k + 1)).any (hit ((s.getD i 97).toNat - 97) ((s.getD j 97).toNat - 97)) = ((l.take k).any (hit ((s.getD i 97).toNat - 97) ((s.getD j 97).toNat - 97)) || z) := fun z hz => by
      rw [List.take_add_one, hp, List.any_append, hz]
      simp
    have hiff : hit ((s.getD i 97).toNat - 97) ((s.getD j 97).toNat - 97) ((a : Int), (b : Int)) = decide ((97 + a = (s.getD i 97).toNat ∧ 97 + b = (s.getD j 97).toNat) ∨ (97 + a = (s.getD j 97).toNat ∧ 97 + b = (s.getD i 97).toNat)) := by
      rw [Bool.eq_iff_iff]
      simp only [hit, Bool.or_eq_true, Bool.and_eq_true, beq_iff_eq, decide_eq_true_eq]
      omega
    have hgo : ∀ {H' : AHeap}, H'.m = H1.m → H1.next ≤ H'.next → (decide ((j : Int) - (i : Int) > gap) && hit ((s.getD i 97).toNat - 97) ((s.getD j 97).toNat - 97) ((a : Int), (b : Int))) = false → H'.m = H.m ∧ H.next ≤ H'.next ∧ k + 1 ≤ l.length ∧ (decide ((j : Int) - (i : Int) > gap) && (l.take (k + 1)).any (hit ((s.getD i 97).toNat - 97) ((s.getD j 97).toNat - 97))) = false := fun a1 a2 a3 => by
      refine ⟨a1.trans h1, by omega, by omega, ?_⟩
      rw [hany _ rfl, Bool.and_or_distrib_left, h4, a3]
      rfl
    have hret : hit ((s.getD i 97).toNat - 97) ((s.getD j 97).toNat - 97) ((a : Int), (b : Int)) = true → l.any (hit ((s.getD i 97).toNat - 97) ((s.getD j 97).toNat - 97)) = true := fun q => List.any_eq_true.2 ⟨_, List.mem_of_getElem? hp, q⟩
    repeat' (first | refine WK.seq ?_ | refine WK.skip ?_ | refine WK.ret ?_ | refine WK.block ?_ | (apply WK.reg; (· exact lnn)) | (apply WK.regC; (· rfl); (· exact lnn); (· decide)) | refine WKC.nil ?_ | refine WKO.nil ?_ | ((first | apply WKC.op | apply WKO.op | ((first | apply WKO.gop); (· rfl); (· exact dcd))); (· first | exact k_mv rfl | exact k_lenE rfl (RdR.imm (H := H1) (encPairs_length l)) | exact k_iaM rfl rfl (by omega) | exact k_faP rfl | exact k_ldP rfl e1 | exact k_ldP rfl e2 | exact k_to8 rfl (by omega) | exact k_sidx rfl rfl (by omega) | exact k_eq88 rfl rfl | exact k_gtrZ rfl rfl | exact opA); (· rfl)) | ((first | apply WKO.gnoT | apply WKO.gnoF); (· rfl); (· exact dcd)) | ((first | apply WKO.gnu); (· rfl)) | ((first | apply WKO.gsp); (· rfl); all_goals ((fail_if_success (refine known ?_ ?_; (· assumption))); intro _)) | refine pN ?_ | refine pR ?_ | refine bN ?_ | refine bR ?_ | (apply WK.condT; (· rfl); (· exact dcd)) | (apply WK.condF; (· rfl); (· exact dcd)) | (apply WK.condD; (· rfl); all_goals intro _) | fail)
    all_goals simp only at *
    all_goals first
      | exact ⟨fun id q => (by cases q), _, rfl, by
          have hh := hret (by rw [hiff]; exact decide_eq_true (by omega))
          rw [hh, decide_eq_true (show (j : Int) - (i : Int) > gap by omega)]
          rfl, h1, by simp only [next_bump]; omega⟩
      | exact ⟨k + 1, (.cons rfl <| .cons rfl <| .cons rfl <| .cons rfl <| .cons rfl <| .cons rfl <| .nil _), hgo rfl (by simp only [next_bump]; omega) (by
          rw [hiff, ← Bool.decide_and, decide_eq_false_iff_not]
          omega), by omega⟩
  · repeat' (first | refine WK.seq ?_ | refine WK.ret ?_ | refine WK.exit ?_ | (apply WK.reg; (· exact lnn)) | refine WKO.nil ?_ | ((first | apply WKO.op); (· first | exact k_mv rfl | exact k_lenE rfl (RdR.imm (H := H1) (encPairs_length l)) | exact opA); (· rfl)) | refine pN ?_ | refine pX ?_ | refine bX ?_ | (apply WK.condF; (· rfl); (· exact dcd)) | fail)
    have hkl : k = l.length := by omega
    rw [hkl, List.take_length] at h4
    exact ⟨fun id q => (by cases q), _, rfl, by rw [h4]; rfl, h1, by simp only [next_bump]; omega⟩
end Go.Proofs.YtfcgofffalmdfaaGreatDoor.PA
namespace Go.Proofs.YtfcgofffalmdfaaGreatDoor.PA
open Go Go.Eng Go.Proofs
section
variable {cf : CF} {n m : Nat} {H H' : AHeap} {l : KL0} {x y a : XO} {v w val : AV} {cs ds : List AV} {r : List XOper} {R : KL0 → AHeap → Prop}
theorem bump_get {H H' : AHeap} (hm : H'.m = H.m) (q : Nat) : H'.get q = H.get q := by unfold AHeap.get; rw [hm]
theorem WKO.cutE {d m2 : Nat} (hR : RowE 1 H v m cs) (hm : H'.m = H.m) (h : m2 ≤ m) (hx : evK l x = some v) (hy : evK l y = some (nA m2))
    (k : ∀ v', RowE 1 H v' m2 (cs.take m2) → v'.own = v.own → WKO cf r (n + 1) ((d, v') :: l) H' R) : WKO cf (⟨some d, .cut 1 x none (some y) none, none⟩ :: r) n l H' R := by
  obtain ⟨v', e1, e2, e3⟩ := frontE hR h (evK l) y .i64 hy
  rw [Nat.mul_one] at e2
  exact WKO.op (v := v') (H1 := H') (k_any (by simp only [xval, xop, hx, Option.bind_some, e1, AR.ofV])) (by simp [allSm, XOp.opnds, hx, hy]) (k v' e2 e3)
theorem k_ld1 {j len : Nat} {X : AV} (hx : evK l x = some (adE X (j * 1))) (hE : RowE 1 H X len cs) (hm : H'.m = H.m) (h : cs[j]? = some val) : XV cf l H' n (.load none x) = some (val, H') := by
  have hE' := RdR.of hE
  have hj : j < len := by
    obtain ⟨q, _⟩ := List.getElem?_eq_some_iff.1 h
    have := hE.csl
    omega
  obtain ⟨c, h1, h2⟩ := hE'.at (H' := H') (p := j * 1) (fun i _ => bump_get hm i) (by omega)
  refine k_load hx ?_
  have h3 : c[0]? = some val := by
    have : (c.take (len * 1 - j * 1))[0]? = some val := by rw [h2, List.getElem?_drop, Nat.add_zero, Nat.mul_one, h]
    rw [List.getElem?_take] at this
    split at this
    · exact this
    · cases this
  simp only [loadA, h1, h3]
end
end Go.Proofs.YtfcgofffalmdfaaGreatDoor.PA
namespace Go.Proofs.YtfcgofffalmdfaaGreatDoor.PA
open Go Go.Eng Go.Proofs
structure MSt where
  i : Nat
  op : List Nat
  out : List (Nat × Nat)
  d : Nat
  m : List Int
  u : AV
  w : AV
end Go.Proofs.YtfcgofffalmdfaaGreatDoor.PA
namespace Go.Proofs.YtfcgofffalmdfaaGreatDoor.PA
open Go Go.Eng Go.Proofs
end Go.Proofs.YtfcgofffalmdfaaGreatDoor.PA
namespace Go.Proofs.YtfcgofffalmdfaaGreatDoor.PA
open Go Go.Eng Go.Proofs
section
variable {cf : CF} {n : Nat} {H H' : AHeap} {l : KL0} {x y : XO} {a b : Nat} {v : AV} {r : List XOper} {R : KL0 → AHeap → Prop}
end
structure MdSt where
  i : Nat
  at_ : Nat
  l : List (Int × Int)
  u : AV
end Go.Proofs.YtfcgofffalmdfaaGreatDoor.PA
namespace Go.Proofs.YtfcgofffalmdfaaGreatDoor.PA
open Go Go.Eng Go.Proofs
def zA (z : Int) : AV := .int .i64 z
section
variable {cf : CF} {n a b : Nat} {H : AHeap} {l : KL0} {x y : XO}
theorem k_shl64 (hx : evK l x = some (u64 a)) (h : a < B32) : XV cf l H n (.bin .shl x (.k (.int .u64 (.ofNat 32)))) = some (u64 (a * B32), H) :=
  k_bin hx rfl (by
    simp only [u64_int, binA]
    rw [if_neg (by decide), show (2 : Int) ^ (min (Int.toNat (Int.ofNat 32)) IntKind.u64.bits) = ((B32 : Nat) : Int) by decide, ← Int.natCast_mul, wrap64]
    have e1 : B32 = 4294967296 := rfl
    have e2 : B64 = 18446744073709551616 := rfl
    rw [e1] at h ⊢
    omega)
theorem k_or64 (hx : evK l x = some (u64 (a * B32))) (hy : evK l y = some (u64 b)) (h : a < B32) (hb : b < B32) : XV cf l H n (.bin .or x y) = some (u64 (a * B32 + b), H) :=
  k_bin hx hy (by
    simp only [u64_int, binA, bitsA]
    rw [if_neg (by simp)]
    have e1 : B32 = 4294967296 := rfl
    have e2 : B64 = 18446744073709551616 := rfl
    have h1 : a * B32 + b < B64 := by rw [e1] at h hb ⊢; rw [e2]; omega
    have h2 : (BitVec.ofInt IntKind.u64.bits ((a * B32 : Nat) : Int) ||| BitVec.ofInt IntKind.u64.bits ((b : Nat) : Int)).toNat = a * B32 + b := by
      rw [BitVec.ofInt_natCast, BitVec.ofInt_natCast, BitVec.toNat_or, BitVec.toNat_ofNat, BitVec.toNat_ofNat, show IntKind.u64.bits = 64 from rfl, Nat.mod_eq_of_lt (by rw [show 2 ^ 64 = B64 from rfl]; omega), Nat.mod_eq_of_lt (by rw [show 2 ^ 64 = B64 from rfl, e2]; omega)]
      rw [show a * B32 = a <<< 32 by rw [Nat.shiftLeft_eq]; rfl, Nat.shiftLeft_add_eq_or_of_lt (show b < 2 ^ 32 from hb)]
    rw [h2, wrap64 h1])
theorem k_quo64 (hx : evK l x = some (u64 a)) (hy : evK l y = some (u64 b)) (h : 0 < b) (ha : a < B64) : XV cf l H n (.bin .quo x y) = some (u64 (a / b), H) :=
  k_bin hx hy (by
    simp only [u64_int, binA]
    rw [if_neg (by simp), if_neg (by omega), show (a : Int).tdiv (b : Int) = ((a / b : Nat) : Int) from (Int.ofNat_tdiv a b).symm, wrap64 (Nat.lt_of_le_of_lt (Nat.div_le_self a b) ha)])
theorem k_rem64 (hx : evK l x = some (u64 a)) (hy : evK l y = some (u64 b)) (h : 0 < b) : XV cf l H n (.bin .rem x y) = some (u64 (a % b), H) :=
  k_bin hx hy (by
    simp only [u64_int, binA]
    rw [if_neg (by simp), if_neg (by omega), ← Int.ofNat_tmod])
theorem k_subM (hx : evK l x = some (nA a)) (h : a < 1000000000) : XV cf l H n (.bin .sub x (.k (.int .i64 (.ofNat 1)))) = some (zA ((a : Int) - 1), H) :=
  k_bin hx rfl (by
    show some (AV.int .i64 (wrapA .i64 ((a : Int) - ((1 : Nat) : Int)))) = _
    rw [wrapI _ (by omega) (by omega)]
    rfl)
theorem k_geqM (hx : evK l x = some (zA (-1))) : XV cf l H n (.bin .geq x (.k (.int .i64 (.ofNat 0)))) = some (.bool false, H) := k_bin hx rfl rfl
theorem k_geqT (hx : evK l x = some (nA a)) : XV cf l H n (.bin .geq x (.k (.int .i64 (.ofNat 0)))) = some (.bool true, H) :=
  k_bin hx rfl (by
    show some (AV.bool (decide ((a : Int) ≥ Int.ofNat 0))) = _
    rw [decide_eq_true (by show (0 : Int) ≤ a; omega)])
end
theorem zA_nat (k : Nat) : zA (((k + 1 : Nat) : Int) - 1) = nA k := by
  unfold zA nA
  congr 1
  omega
set_option maxHeartbeats 2000000 in
theorem byWord_ok {cf : CF} {fuel : Nat} {H : AHeap} {a : List Nat} {w : Nat} (ha : digL a) (hla : a.length ≤ 1000) (hw : 0 < w) (hw2 : w < B32) (hf : 1001 < fuel)
    (hT : ∀ H v l, MagL H v l → l.length ≤ 2000 → ∃ v' H', cf 96 [v] H = some (v', H') ∧ (MagL H' v' (trimL l) ∧ Same H H')) :
    ∃ v H', xfunc cf fuel L129 [digI a, u32 w] H = some (v, H') ∧ ∃ q, v = .tup [q, u32 (divL w a).2] ∧ MagL H' q (trimL (divL w a).1) := by
  refine xfunc_ofK rfl (by show 2 ≤ 44; omega) ?_
  have hF0 := HF.start H
  have e1 : B32 = 4294967296 := rfl
  have e2 : B64 = 18446744073709551616 := rfl
  unfold L129
  dsimp only
  repeat' (first | refine WK.seq ?_ | (apply WK.reg; (· exact lnn)) | refine WKO.nil ?_ | ((first | apply WKO.op); (· first | exact k_mv rfl | exact k_lenD rfl); (· rfl)) | refine pN ?_ | fail)
  refine WKO.mkO (m := a.length) rfl rfl ⟨by omega, by decide⟩ hF0 rfl (by simp only [next_bump]; omega) ?_
  intro H1 hF1 hn1
  rw [replicate_u32] at hF1
  repeat' (first | refine WK.seq ?_ | refine WK.block ?_ | (apply WK.reg; (· exact lnn)) | refine WKO.nil ?_ | ((first | apply WKO.op); (· first | exact k_mv rfl | exact k_lenD rfl | exact k_subM rfl (by omega)); (· rfl)) | refine pN ?_ | fail)
  have hdl : ∀ i, (divL w (a.drop i)).1.length = a.length - i := fun i => by
    have := (divL_ok hw (a.drop i) (fun x hx => ha x (List.mem_of_mem_drop hx))).2.2.2
    rw [this, List.length_drop]
  have hdr : ∀ i, (divL w (a.drop i)).2 < w := fun i => (divL_ok hw (a.drop i) (fun x hx => ha x (List.mem_of_mem_drop hx))).2.1
  refine WK.loop (α := Nat) (fun i => [(0, digI a), (1, u32 w), (6, .sl ((H.bump 2).bump 4).next 0 a.length a.length), (7, u64 (divL w (a.drop i)).2), (8, zA ((i : Int) - 1))])
    (fun i H' => ∃ T, HF H [] T [(((H.bump 2).bump 4).next, .cells ((List.replicate i 0 ++ (divL w (a.drop i)).1).map u32) none)] H' ∧ i ≤ a.length) (fun i => i) a.length ?_ ?_ (by show a.length < fuel; omega) ?_
  · rw [List.drop_length]
    exact .cons rfl <| .cons rfl <| .cons rfl <| .cons (by rw [u64_int]; rfl) <| .cons rfl <| .nil _
  · refine ⟨((H.bump 2).bump 4).next + 1, ?_, Nat.le_refl _⟩
    rw [List.drop_length]
    simpa [divL] using hF1.up (by rfl) (by simp only [next_bump, hn1]; omega)
  · rintro i H2 ⟨T, hF2, hi⟩
    cases i with
    | zero =>
      repeat' (first | refine WK.seq ?_ | refine WK.exit ?_ | (apply WK.reg; (· exact lnn)) | refine WKO.nil ?_ | ((first | apply WKO.op); (· first | exact k_mv rfl | exact k_geqM rfl); (· rfl)) | refine pN ?_ | refine pX ?_ | refine bX ?_ | (apply WK.condF; (· rfl); (· exact dcd)) | fail)
      have hM : MagL H2 (.sl ((H.bump 2).bump 4).next 0 a.length a.length) (divL w a).1 := by
        have hl := hdl 0
        rw [List.drop_zero, Nat.sub_zero] at hl
        refine .inr ⟨_, _, ((divL w a).1).map u32, none, by rw [hl], by rw [hl]; exact Nat.le_refl _, by unfold openAt; omega, ?_, by rw [List.take_of_length_le (by simp)], by simp, Nat.lt_of_lt_of_le (hF2.lt _ (List.mem_cons_self ..)) hF2.le⟩
        have := hF2.obj _ (List.mem_cons_self ..)
        simpa using this
      refine WKO.callV rfl rfl rfl (hT _ _ _ (hM.same ((Same.bump _ 2).trans (Same.bump _ 6))) (by have := hdl 0; rw [List.drop_zero] at this; omega)) ?_
      rintro v H4 ⟨m4, s4⟩
      have hr := hdr 0
      rw [List.drop_zero] at hr ⊢
      repeat' (first | refine WK.ret ?_ | refine WKO.nil ?_ | ((first | apply WKO.op); (· first | exact k_mv rfl | exact k_c32 rfl); (· rfl)) | refine pN ?_ | fail)
      refine ⟨fun id q => (by cases q), [v, u32 (divL w a).2], ?_, v, rfl, m4⟩
      rw [Nat.mod_eq_of_lt (Nat.lt_trans hr hw2)]
      rfl
    | succ k =>
      have hak := dig_lt ha k
      have hr := hdr (k + 1)
      have hB : (divL w (a.drop (k + 1))).2 * B32 + a.getD k 0 < B64 := by rw [e1] at hw2 hak ⊢; rw [e2]; omega
      have hst : divL w (a.drop k) = (((divL w (a.drop (k + 1))).2 * B32 + a.getD k 0) / w :: (divL w (a.drop (k + 1))).1, ((divL w (a.drop (k + 1))).2 * B32 + a.getD k 0) % w) := by
        rw [List.drop_eq_getElem_cons (show k < a.length by omega), divL, List.getD_eq_getElem?_getD, List.getElem?_eq_getElem (show k < a.length by omega)]
        rfl
      have hq : ((divL w (a.drop (k + 1))).2 * B32 + a.getD k 0) / w < B32 := by
        have := (divL_ok hw (a.drop k) (fun x hx => ha x (List.mem_of_mem_drop hx))).2.2.1 (((divL w (a.drop (k + 1))).2 * B32 + a.getD k 0) / w) (by rw [hst]; simp)
        exact this
      have hlen : (List.replicate (k + 1) 0 ++ (divL w (a.drop (k + 1))).1).length = a.length := by rw [List.length_append, List.length_replicate, hdl]; omega
      rw [zA_nat]
      repeat' (first | refine WK.seq ?_ | refine WK.skip ?_ | refine WK.block ?_ | (apply WK.reg; (· exact lnn)) | (apply WK.regd0; (· exact lnn)) | refine WKO.nil ?_ | ((first | apply WKO.op); (· first | exact k_mv rfl | exact k_geqT rfl | exact k_shl64 rfl (by omega) | exact k_iaD rfl rfl (by omega) | exact k_ldD rfl (by omega) | exact k_c64 rfl hak | exact k_c64 rfl hw2 | exact k_or64 rfl rfl (by omega) hak | exact k_quo64 rfl rfl hw hB | exact k_rem64 rfl rfl hw | exact k_c32 rfl | exact k_ia1s rfl rfl (by omega)); (· rfl)) | refine pN ?_ | (apply WK.condT; (· rfl); (· exact dcd)) | fail)
      rw [Nat.mod_eq_of_lt hq]
      refine WKO.stN (f := u32) (N := List.replicate (k + 1) 0 ++ (divL w (a.drop (k + 1))).1) (p := k) rfl rfl (u32_cells _) (u32_one _) hF2 rfl nxx (.inr (by simp only [next_bump]; omega)) (by omega) ?_
      intro H3 hF3 hn3
      repeat' (first | (apply WK.reg; (· exact lnn)) | refine WKO.nil ?_ | ((first | apply WKO.op); (· first | exact k_mv rfl | exact k_subM rfl (by omega)); (· rfl)) | refine pN ?_ | refine bN ?_ | fail)
      refine ⟨k, ?_, ⟨T, ?_, by omega⟩, by show k < k + 1; omega⟩
      · exact .cons rfl <| .cons rfl <| .cons rfl <| .cons (by rw [hst]; rfl) <| .cons rfl <| .nil _
      · have : (List.replicate (k + 1) 0 ++ (divL w (a.drop (k + 1))).1).set k (((divL w (a.drop (k + 1))).2 * B32 + a.getD k 0) / w) = List.replicate k 0 ++ (divL w (a.drop k)).1 := by
          rw [hst, List.replicate_succ', List.append_assoc, List.set_append_right _ _ (by simp), List.length_replicate, Nat.sub_self]
          rfl
        rw [this] at hF3
        exact hF3.up (by rfl) (by simp only [next_bump] at *; omega)
theorem byWord_call {n w : Nat} (hn : n < bigN) (hw : 0 < w) (hw2 : w < B32) (H : AHeap) : CallOK Tryz.prog 129 [digA (limbs n), u32 w] H (.tup [digA (limbs (n / w)), u32 (n % w)]) H := by
  have h1 := limbs20 hn
  obtain ⟨v, H', h, q, rfl, hM⟩ := byWord_ok (cf := xcallK KA F 3000 1) (fuel := 3000) (H := ⟨.e, 0⟩) (digL_limbs n) (by omega) hw hw2 (by omega) (fun H v l q1 q2 => trim_call (by omega) H v l q1 (by omega))
  obtain ⟨d1, d2⟩ := divL_limbs hw n
  rw [d1] at hM
  rw [d2] at h
  have h3 := xcallK_sound mixed KA_ok F_ok 3000 2 129 _ _ _ _ ((cfstep rfl rfl).trans h)
  rw [← digI_eq] at h3
  refine h3.pure (by simp [AV.frozL, digA_froz, u32_froz]) (.tup rfl (fun j x y hx hy => ?_))
  match j, hx, hy with
  | 0, hx, hy => cases hx; cases hy; exact hM.fz (fun i _ => get_e0 i)
  | 1, hx, hy => cases hx; cases hy; exact Fz.froz (u32_froz _)
end Go.Proofs.YtfcgofffalmdfaaGreatDoor.PA
namespace Go.Proofs.YtfcgofffalmdfaaGreatDoor.PA
def decR (n : Nat) : List Nat := if h : n = 0 then [] else (48 + n % 10) :: decR (n / 10)
  termination_by n
  decreasing_by exact Nat.div_lt_self (by omega) (by decide)
theorem decR_zero : decR 0 = [] := by rw [decR]; simp
theorem decR_pos {n : Nat} (h : n ≠ 0) : decR n = (48 + n % 10) :: decR (n / 10) := by rw [decR]; simp [h]
def decL (n : Nat) : List Nat := if n = 0 then [48] else (decR n).reverse
def decS (n : Nat) : List UInt8 := (decL n).map UInt8.ofNat
theorem decR_len : ∀ (k n : Nat), n < 10 ^ k → (decR n).length ≤ k
  | 0, n, h => by rw [show n = 0 by rw [Nat.pow_zero] at h; omega, decR_zero]; exact Nat.le_refl _
  | k + 1, n, h => by
    by_cases h0 : n = 0
    · rw [h0, decR_zero]; exact Nat.zero_le _
    · rw [decR_pos h0, List.length_cons]
      have := decR_len k (n / 10) (by
        rw [Nat.div_lt_iff_lt_mul (by decide)]
        rwa [Nat.pow_succ] at h)
      omega
theorem decR_dig : ∀ (n : Nat), ∀ x ∈ decR n, 48 ≤ x ∧ x < 58 := by
  intro n
  induction n using Nat.strongRecOn with
  | _ n ih =>
    intro x hx
    by_cases h0 : n = 0
    · rw [h0, decR_zero] at hx; cases hx
    · rw [decR_pos h0] at hx
      rcases List.mem_cons.1 hx with rfl | hx
      · omega
      · exact ih _ (Nat.div_lt_self (by omega) (by decide)) x hx
theorem decR_step {q k r : Nat} (h : q ≠ 0 ∨ r ≠ 0) (hr : r < 10 ^ (k + 1)) : decR (q * 10 ^ (k + 1) + r) = (48 + r % 10) :: decR (q * 10 ^ k + r / 10) := by
  have hp : 0 < 10 ^ k := Nat.pow_pos (by decide)
  have h0 : q * 10 ^ (k + 1) + r ≠ 0 := by
    rcases h with h | h
    · have : 0 < q * 10 ^ (k + 1) := Nat.mul_pos (by omega) (Nat.pow_pos (by decide))
      omega
    · omega
  have e1 : q * 10 ^ (k + 1) + r = 10 * (q * 10 ^ k) + r := by rw [Nat.pow_succ, ← Nat.mul_assoc, Nat.mul_comm _ 10]
  rw [decR_pos h0, e1]
  congr 1
  · omega
  · congr 1
    omega
theorem pow_lt_div {k r : Nat} (hr : r < 10 ^ (k + 1)) : r / 10 < 10 ^ k := by
  rw [Nat.div_lt_iff_lt_mul (by decide)]
  rwa [Nat.pow_succ] at hr
end Go.Proofs.YtfcgofffalmdfaaGreatDoor.PA
namespace Go.Proofs.YtfcgofffalmdfaaGreatDoor.PA
open Go Go.Eng Go.Proofs
def b8 (n : Nat) : AV := .int .u8 (n : Int)
theorem b8_cells (n : Nat) : (b8 n).cells = [b8 n] := rfl
theorem b8_one (n : Nat) : (b8 n).oneCell = true := rfl
theorem getD_setN (N : List Nat) (i w p : Nat) (hi : i < N.length) : (N.set i w).getD p 0 = if p = i then w else N.getD p 0 := by
  rw [List.getD_eq_getElem?_getD, List.getD_eq_getElem?_getD, List.getElem?_set]
  by_cases h : i = p
  · subst h
    simp [hi]
  · rw [if_neg h, if_neg (fun q => h q.symm)]
theorem ext_getD {N M : List Nat} (hl : N.length = M.length) (h : ∀ p, p < N.length → N.getD p 0 = M.getD p 0) : N = M := by
  refine List.ext_getElem? fun p => ?_
  by_cases hp : p < N.length
  · have := h p hp
    rw [List.getD_eq_getElem?_getD, List.getD_eq_getElem?_getD, List.getElem?_eq_getElem hp, List.getElem?_eq_getElem (by omega)] at this
    rw [List.getElem?_eq_getElem hp, List.getElem?_eq_getElem (by omega)]
    simpa using this
  · rw [List.getElem?_eq_none (by omega), List.getElem?_eq_none (by omega)]
theorem rev_getD (N : List Nat) (p : Nat) (hp : p < N.length) : N.reverse.getD p 0 = N.getD (N.length - 1 - p) 0 := by
  rw [List.getD_eq_getElem?_getD, List.getD_eq_getElem?_getD, List.getElem?_reverse hp]
def RevK (N M : List Nat) (k : Nat) : Prop := M.length = N.length ∧ ∀ p, p < N.length → M.getD p 0 = if p < k ∨ N.length ≤ k + p then N.getD (N.length - 1 - p) 0 else N.getD p 0
theorem RevK.zero (N : List Nat) : RevK N N 0 := ⟨rfl, fun p hp => by rw [if_neg (by omega)]⟩
theorem RevK.next {N M : List Nat} {k : Nat} (h : RevK N M k) (hk : k < N.length - 1 - k) : RevK N ((M.set k (M.getD (N.length - 1 - k) 0)).set (N.length - 1 - k) (M.getD k 0)) (k + 1) := by
  obtain ⟨h1, h2⟩ := h
  refine ⟨by simp [h1], fun p hp => ?_⟩
  rw [getD_setN _ _ _ _ (by rw [List.length_set]; omega), getD_setN _ _ _ _ (by omega)]
  by_cases q1 : p = N.length - 1 - k
  · subst q1
    rw [if_pos rfl, h2 k (by omega), if_neg (by omega), if_pos (by omega)]
    congr 1
    omega
  · rw [if_neg q1]
    by_cases q2 : p = k
    · subst q2
      rw [if_pos rfl, h2 _ (by omega), if_neg (by omega), if_pos (by omega)]
    · rw [if_neg q2, h2 p hp]
      by_cases q3 : p < k ∨ N.length ≤ k + p
      · rw [if_pos q3, if_pos (by omega)]
      · rw [if_neg q3, if_neg (by omega)]
theorem RevK.done {N M : List Nat} {k : Nat} (h : RevK N M k) (hk : N.length - 1 - k ≤ k) : M = N.reverse := by
  obtain ⟨h1, h2⟩ := h
  refine ext_getD (by rw [h1, List.length_reverse]) fun p hp => ?_
  rw [rev_getD _ _ (by omega), h2 p (by omega)]
  by_cases q : p < k ∨ N.length ≤ k + p
  · rw [if_pos q]
  · rw [if_neg q]
    congr 1
    omega
theorem WKO.stR {cf : CF} {n : Nat} {H0 H H' : AHeap} {mod : List Nat} {T : Nat} {fs : List (Nat × AObj)} {l : KL0} {R : KL0 → AHeap → Prop} {r : List XOper} {i p w : Nat} {opn : Option Nat} {N : List Nat} {rest : List AV} {a x : XO} (ha : evK l a = some (.ptr i p)) (hx : evK l x = some (b8 w)) (hF : HF H0 mod T ((i, .cells (N.map b8 ++ rest) opn) :: fs) H) (hm : H'.m = H.m) (hn : H.next ≤ H'.next) (hi : i ∈ mod ∨ H0.next ≤ i) (hp : p < N.length)
    (k : ∀ H1, HF H0 mod T ((i, .cells ((N.set p w).map b8 ++ rest) opn) :: fs) H1 → H1.next = H'.next → WKO cf r (n + 1) l H1 R) : WKO cf (⟨none, .store 1 a x, none⟩ :: r) n l H' R := by
  have e : (N.set p w).map b8 ++ rest = overA (N.map b8 ++ rest) p (b8 w).cells := by
    rw [b8_cells, List.map_set, overA, List.set_eq_take_append_cons_drop, if_pos (by simpa using hp), List.take_append_of_le_length (by simp; omega), List.drop_append_of_le_length (by simp; omega)]
    simp
  rw [e] at k
  exact WKO.stO0 ha hx hF hm hn hi (by rw [b8_cells]; rfl) (by rw [b8_cells]; simp [b8_one]) (by simp; omega) k
theorem map_getR {N : List Nat} {rest : List AV} {p : Nat} (h : p < N.length) : (N.map b8 ++ rest)[p]? = some (b8 (N.getD p 0)) := by
  rw [List.getElem?_append_left (by simpa using h), List.getElem?_map, List.getElem?_eq_getElem h, List.getD_eq_getElem?_getD, List.getElem?_eq_getElem h]
  rfl
set_option maxHeartbeats 2000000 in
theorem rev_ok {cf : CF} {fuel : Nat} {H : AHeap} {i c : Nat} {N : List Nat} {rest : List AV} {opn : Option Nat} (hN : 0 < N.length) (hl : N.length ≤ 100000) (hg : H.get i = some (.cells (N.map b8 ++ rest) opn)) (hi : i < H.next) (hf : N.length < fuel) :
    ∃ v H', xfunc cf fuel L130 [.sl i 0 N.length c] H = some (v, H') ∧ (H'.get i = some (.cells (N.reverse.map b8 ++ rest) opn) ∧ H.next ≤ H'.next ∧ ∀ q, q < H.next → q ≠ i → H'.get q = H.get q) := by
  refine xfunc_ofK rfl (by show 1 ≤ 28; omega) ?_
  have hF0 : HF H [i] H.next [(i, .cells (N.map b8 ++ rest) opn)] H := HF.add ⟨fun p hp => (by cases hp), fun p hp => (by cases hp), by simp, Nat.le_refl _, Nat.le_refl _, fun _ _ _ => rfl⟩ hg hi (by simp)
  unfold L130
  dsimp only
  repeat' (first | refine WK.seq ?_ | refine WK.block ?_ | (apply WK.reg; (· exact lnn)) | refine WKO.nil ?_ | ((first | apply WKO.op); (· first | exact k_mv rfl | exact k_lenL rfl rfl | exact k_subN rfl rfl (by omega) (by omega)); (· rfl)) | refine pN ?_ | fail)
  refine WK.loop (α := Nat × List Nat) (fun s => [(0, .sl i 0 N.length c), (2, nA s.1), (3, nA (N.length - 1 - s.1))])
    (fun s H' => ∃ T, HF H [i] T [(i, .cells (s.2.map b8 ++ rest) opn)] H' ∧ RevK N s.2 s.1 ∧ s.1 + s.1 ≤ N.length) (fun s => N.length - s.1) (0, N) ?_ ⟨_, hF0.up (by rfl) (by simp only [next_bump]; omega), RevK.zero N, by omega⟩ (by show N.length - 0 < fuel; omega) ?_
  · exact .cons rfl <| .cons rfl <| .cons rfl <| .nil _
  · rintro ⟨k, M⟩ H2 ⟨T, hF2, hR, hk⟩
    simp only at hF2 hR hk ⊢
    have hM := hR.1
    repeat' (first | refine WK.seq ?_ | refine WK.skip ?_ | refine WK.exit ?_ | refine WK.block ?_ | (apply WK.reg; (· exact lnn)) | (apply WK.regd0; (· exact lnn)) | refine WKO.nil ?_ | ((first | apply WKO.op); (· first | exact k_mv rfl | exact k_ia1s rfl rfl (by omega) | (apply k_ldO; (· rfl); (· exact hF2); (· rfl); (· exact .head _); (· exact map_getR (by omega))) | exact opA); (· rfl)) | refine pN ?_ | refine pX ?_ | refine bX ?_ | (apply WK.condD; (· rfl); all_goals intro _) | fail)
    · refine WKO.stR (N := M) (p := k) (w := M.getD (N.length - 1 - k) 0) rfl rfl hF2 rfl nxx (.inl (by simp)) (by omega) ?_
      intro H3 hF3 hn3
      repeat' (first | ((first | apply WKO.op); (· first | exact k_ia1s rfl rfl (by omega)); (· rfl)) | fail)
      refine WKO.stR (N := M.set k (M.getD (N.length - 1 - k) 0)) (p := N.length - 1 - k) (w := M.getD k 0) rfl rfl hF3 rfl nxx (.inl (by simp)) (by rw [List.length_set]; omega) ?_
      intro H4 hF4 hn4
      repeat' (first | (apply WK.reg; (· exact lnn)) | refine WKO.nil ?_ | ((first | apply WKO.op); (· first | exact k_mv rfl | exact k_subN rfl rfl (by omega) (by omega) | exact opA); (· rfl)) | refine pN ?_ | refine bN ?_ | fail)
      refine ⟨(k + 1, _), ?_, ⟨T, hF4.up (by rfl) (by simp only [next_bump] at *; omega), hR.next (by omega), by show k + 1 + (k + 1) ≤ N.length; omega⟩, by show N.length - (k + 1) < N.length - k; omega⟩
      exact .cons rfl <| .cons rfl <| .cons (by rw [show N.length - 1 - (k + 1) = N.length - 1 - k - 1 by omega]; rfl) <| .nil _
    · have hd := hR.done (by omega)
      subst hd
      exact ⟨fun id q => (by cases q), [], rfl, hF2.obj _ (List.mem_cons_self ..), Nat.le_trans (Nat.le_trans hF2.base hF2.le) (by simp only [next_bump]; omega), fun q q1 q2 => hF2.fr q q1 (by simpa using q2)⟩
section
variable {cf : CF} {n a b : Nat} {H : AHeap} {l : KL0} {x y : XO}
theorem k_rem10 (hx : evK l x = some (u32 a)) : XV cf l H n (.bin .rem x (.k (.int .u32 (.ofNat 10)))) = some (u32 (a % 10), H) :=
  k_bin hx rfl (by
    simp only [u32_int, binA]
    rw [if_neg (by simp), if_neg (by decide), show (Int.ofNat 10) = ((10 : Nat) : Int) from rfl, ← Int.ofNat_tmod])
theorem k_quo10 (hx : evK l x = some (u32 a)) (h : a < B32) : XV cf l H n (.bin .quo x (.k (.int .u32 (.ofNat 10)))) = some (u32 (a / 10), H) :=
  k_bin hx rfl (by
    simp only [u32_int, binA]
    rw [if_neg (by simp), if_neg (by decide), show (a : Int).tdiv (Int.ofNat 10) = ((a / 10 : Nat) : Int) from (Int.ofNat_tdiv a 10).symm, wrap32, Nat.mod_eq_of_lt (Nat.lt_of_le_of_lt (Nat.div_le_self a 10) h)])
theorem k_add48 (hx : evK l x = some (u32 a)) (h : a < 1000) : XV cf l H n (.bin .add (.k (.int .u32 (.ofNat 48))) x) = some (u32 (48 + a), H) :=
  k_bin rfl hx (by
    simp only [u32_int, binA]
    rw [if_neg (by simp), show Int.ofNat 48 + (a : Int) = ((48 + a : Nat) : Int) by simp, wrap32, Nat.mod_eq_of_lt (Nat.lt_trans (show 48 + a < 2000 by omega) (by decide))])
theorem k_u32b (hx : evK l x = some (u32 a)) (h : a < 256) : XV cf l H n (.conv .u8 x) = some (b8 a, H) := by
  refine k_any ?_
  simp only [xval, xop, hx, u32_int, AR.ofV]
  have : wrapA .u8 (a : Int) = (a : Int) := by
    simp only [wrapA, IntKind.wrap, IntKind.bits, IntKind.signed]
    simp
    omega
  rw [this]
  rfl
theorem k_gtr32 (hx : evK l x = some (u32 a)) : XV cf l H n (.bin .gtr x (.k (.int .u32 (.ofNat 0)))) = some (.bool (decide (a > 0)), H) :=
  k_bin hx rfl (by
    simp only [u32_int, binA]
    rw [if_neg (by simp)]
    show some (AV.bool (decide ((a : Int) > Int.ofNat 0))) = _
    congr 2
    rw [Bool.eq_iff_iff]
    simp only [decide_eq_true_eq]
    show ((0 : Int) < a) ↔ (0 < a)
    omega)
theorem k_btsR {v : AV} {m : Nat} {N : List Nat} (hx : evK l x = some v) (hR : RowE 1 H v m (N.map b8)) (hd : ∀ z ∈ N, z < 256) : XV cf l H n (.bts x) = some (.str (N.map UInt8.ofNat), H) := by
  refine k_any ?_
  have hb : bytesA (N.map b8) = some (N.map UInt8.ofNat) := by
    clear hR
    induction N with
    | nil => rfl
    | cons z N ih =>
      have h1 := hd z (by simp)
      simp only [List.map_cons, bytesA, b8, ih (fun q hq => hd q (by simp [hq]))]
      simp
      try omega
  simp only [xval, xop, hx, hR.len]
  have hs := hR.src
  have hn := hR.nstr
  cases v <;> first | (simp only [hs, Option.bind_some, hb, Option.map_some, AR.ofV]; done) | exact absurd rfl (hn _)
end
end Go.Proofs.YtfcgofffalmdfaaGreatDoor.PA
namespace Go.Proofs.YtfcgofffalmdfaaGreatDoor.PA
open Go Go.Eng Go.Proofs
section
variable {cf : CF} {n m : Nat} {H H' : AHeap} {l : KL0} {x y : XO} {v val : AV} {cs : List AV} {r : List XOper} {R : KL0 → AHeap → Prop}
theorem WKO.ap1b {d1 d2 bytes : Nat} {z0 : AV} (hR : RowE 1 H v m cs) (hb : bytes ≤ 2 ^ 16) (hm : H'.m = H.m) (hn : H.next ≤ n) (hlt : n < H'.next) (hl : m < 1000000) (hy : evK l y = some val) (hc : val.cells = [val]) (ho : val.oneCell = true) (hx : evK ((d1, .sl n 0 1 1) :: l) x = some v)
    (k : ∀ v' H1, RowE 1 H1 v' (m + 1) (cs ++ [val]) → H'.next ≤ H1.next → WKO cf r (n + 1 + 1) ((d2, v') :: (d1, .sl n 0 1 1) :: l) H1 R) :
    WKO cf (⟨some d1, .bslice [z0] [(0, 1, y)] 1, none⟩ :: ⟨some d2, .app 1 bytes x (.t d1), none⟩ :: r) n l H' R := by
  have hR' : RowE 1 H' v m cs := hR.frame (by omega) (fun i _ => bump_get hm i)
  refine WKO.append1E (m := m) (v := v) (cs := cs) (new := [val]) hR' hx ?_ (by simp [allSm, XOp.opnds, hy]) (by omega) (by omega) hb rfl (by simp [ho]) hlt (fun e => ?_) (fun v' H1 q1 q2 q3 q4 => k v' H1 (.inl q1) q2)
  · simp only [evParts, hy, bind, Option.bind_some, fillA, hc]
    simp
  · have := hR.own_lt e
    omega
end
theorem big200 {n : Nat} (h : n < bigN) : n < 10 ^ 200 := by
  rw [bigN_def] at h
  exact Nat.lt_of_lt_of_le h (by show 4294967296 ^ 20 ≤ 10 ^ 200; decide)
theorem div9_lt {q k : Nat} (h : q < 10 ^ k) : q / 1000000000 < 10 ^ (k - 9) := by
  by_cases hk : 9 ≤ k
  · rw [Nat.div_lt_iff_lt_mul (by decide), show (1000000000 : Nat) = 10 ^ 9 from rfl, ← Nat.pow_add]
    rwa [Nat.sub_add_cancel hk]
  · have : 10 ^ k ≤ 10 ^ 9 := Nat.pow_le_pow_right (by decide) (by omega)
    rw [Nat.div_eq_of_lt (Nat.lt_of_lt_of_le h this)]
    exact Nat.pow_pos (by decide)
theorem limbs_pos_iff {n : Nat} : (limbs n).length > 0 ↔ n ≠ 0 := by
  have := @limbs_nil n
  omega
theorem bts_dig {n : Nat} : ∀ z ∈ (decR n).reverse, z < 256 := fun z hz => by
  have := decR_dig n z (by simpa using hz)
  omega
noncomputable def K67 : CF := fun f args H => match f, args with
  | 129, [x, .int .u32 (.ofNat 1000000000)] => (unDig x).bind fun n => if n < bigN then some (.tup [digA (limbs (n / 1000000000)), u32 (n % 1000000000)], H) else none
  | _, _ => none
theorem K67_ok : CFok Tryz.prog K67 := by
  intro f args H v H' h
  unfold K67 at h
  split at h
  · obtain ⟨n, h1, h⟩ := Option.bind_eq_some_iff.1 h
    split at h
    · rename_i hb
      cases h
      rw [unDig_some h1]
      have := byWord_call (n := n) (w := 1000000000) hb (by decide) (by decide) H
      rwa [u32_of 1000000000] at this
    · cases h
  · cases h
theorem K67_eq {n : Nat} (hn : n < bigN) (H : AHeap) : K67 129 [digI (limbs n), .int .u32 (.ofNat 1000000000)] H = some (.tup [digI (limbs (n / 1000000000)), u32 (n % 1000000000)], H) := by
  show (unDig (digI (limbs n))).bind _ = _
  rw [← digI_eq, unDig_V, Option.bind_some, if_pos hn, digI_eq]
set_option maxHeartbeats 4000000 in
theorem text_walk {cf : CF} {fuel : Nat} {H : AHeap} {n : Nat} (hn : n < bigN) (hf : 201 < fuel)
    (h67 : ∀ q, q < bigN → ∀ H, cf 129 [digI (limbs q), .int .u32 (.ofNat 1000000000)] H = some (.tup [digI (limbs (q / 1000000000)), u32 (q % 1000000000)], H))
    (h68 : ∀ (H : AHeap) (i c : Nat) (N : List Nat) (rest : List AV) (opn : Option Nat), 0 < N.length → N.length ≤ 200 → H.get i = some (.cells (N.map b8 ++ rest) opn) → i < H.next → ∃ v H', cf 130 [.sl i 0 N.length c] H = some (v, H') ∧ (H'.get i = some (.cells (N.reverse.map b8 ++ rest) opn) ∧ H.next ≤ H'.next ∧ ∀ q, q < H.next → q ≠ i → H'.get q = H.get q)) :
    ∃ v H', xfunc cf fuel L102 [digI (limbs n)] H = some (v, H') ∧ v = .str (decS n) := by
  refine xfunc_ofK rfl (by show 1 ≤ 45; omega) ?_
  unfold L102
  dsimp only
  repeat' (first | refine WK.seq ?_ | refine WK.skip ?_ | refine WK.ret ?_ | refine WK.block ?_ | (apply WK.reg; (· exact lnn)) | refine WKO.nil ?_ | ((first | apply WKO.op); (· first | exact k_mv rfl | exact k_lenD rfl | exact opA); (· rfl)) | refine pN ?_ | refine pR ?_ | (apply WK.condD; (· rfl); all_goals intro _) | fail)
  · have h0 : n = 0 := by
      have := @limbs_nil n
      omega
    subst h0
    exact ⟨fun id q => (by cases q), _, rfl, rfl⟩
  · have h0 : n ≠ 0 := by
      have := @limbs_nil n
      omega
    have hdl : (decR n).length ≤ 200 := decR_len 200 n (big200 hn)
    refine WK.loop (α := Nat × Nat × List Nat × AV) (fun s => [(0, digI (limbs s.2.1)), (3, s.2.2.2)])
      (fun s H' => s.2.1 < 10 ^ s.1 ∧ s.2.1 < bigN ∧ s.2.2.1 ++ decR s.2.1 = decR n ∧ RowE 1 H' s.2.2.2 s.2.2.1.length (s.2.2.1.map b8)) (fun s => s.1) (200, n, [], .nils) ?_ ⟨big200 hn, hn, rfl, .inl ⟨rfl, .inl ⟨rfl, rfl⟩⟩⟩ (by show 200 < fuel; omega) ?_
    · exact .cons rfl <| .cons rfl <| .nil _
    · rintro ⟨k, q, bs, u⟩ H2 ⟨hk, hq, hs, hR⟩
      simp only at hk hq hs hR ⊢
      have hbl : bs.length ≤ 200 := by
        have := congrArg List.length hs
        rw [List.length_append] at this
        omega
      repeat' (first | refine WK.seq ?_ | refine WK.skip ?_ | refine WK.exit ?_ | refine WK.block ?_ | (apply WK.reg; (· exact lnn)) | refine WKO.nil ?_ | ((first | apply WKO.op); (· first | exact k_mv rfl | exact k_lenD rfl | exact k_call rfl rfl (h67 _ hq _) | exact opA); (· rfl)) | refine pN ?_ | refine pX ?_ | refine bX ?_ | (apply WK.condD; (· rfl); all_goals intro _) | fail)
      · have hq0 : q ≠ 0 := limbs_pos_iff.1 (by assumption)
        have hk1 : k ≠ 0 := fun q0 => by rw [q0, Nat.pow_zero] at hk; omega
        refine WK.loop (α := Nat × Nat × List Nat × AV) (fun s => [(3, s.2.2.2), (4, digI (limbs (q / 1000000000))), (5, u32 s.2.1), (6, nA (9 - s.1))])
          (fun s H' => s.1 ≤ 9 ∧ s.2.1 < 10 ^ s.1 ∧ s.2.2.1 ++ decR (q / 1000000000 * 10 ^ s.1 + s.2.1) = decR n ∧ RowE 1 H' s.2.2.2 s.2.2.1.length (s.2.2.1.map b8)) (fun s => s.1) (9, q % 1000000000, bs, u) ?_ ⟨by show 9 ≤ 9; omega, Nat.mod_lt _ (by decide), ?_, hR.frame (by simp only [next_bump]; omega) (fun _ _ => rfl)⟩ (by show 9 < fuel; omega) ?_
        · exact .cons rfl <| .cons rfl <| .cons rfl <| .cons rfl <| .nil _
        · show bs ++ decR (q / 1000000000 * 1000000000 + q % 1000000000) = decR n
          rw [Nat.mul_comm, Nat.div_add_mod, hs]
        · rintro ⟨j, r, b2, u2⟩ H3 ⟨hj, hr, hs2, hR2⟩
          simp only at hj hr hs2 hR2 ⊢
          have hbl2 : b2.length ≤ 200 := by
            have := congrArg List.length hs2
            rw [List.length_append] at this
            omega
          have hr32 : r < B32 := by
            have : 10 ^ j ≤ 10 ^ 9 := Nat.pow_le_pow_right (by decide) hj
            have e1 : B32 = 4294967296 := rfl
            have e2 : (10 : Nat) ^ 9 = 1000000000 := rfl
            omega
          have hm10 : r % 10 < 10 := Nat.mod_lt _ (by decide)
          repeat' (first | refine WK.seq ?_ | refine WK.skip ?_ | refine WK.exit ?_ | refine WK.block ?_ | (apply WK.reg; (· exact lnn)) | refine WKO.nil ?_ | ((first | apply WKO.op | ((first | apply WKO.gop); (· rfl); (· exact dcd))); (· first | exact k_mv rfl | exact k_lenD rfl | exact k_gtr32 rfl | exact k_rem10 rfl | exact k_add48 rfl (by omega) | exact k_u32b rfl (by omega) | exact opA); (· rfl)) | ((first | apply WKO.gnoT | apply WKO.gnoF); (· rfl); (· exact dcd)) | ((first | apply WKO.gnu); (· rfl)) | ((first | apply WKO.gsp); (· rfl); all_goals ((fail_if_success (refine known ?_ ?_; (· assumption))); intro _)) | refine pN ?_ | refine pX ?_ | refine bX ?_ | (apply WK.condT; (· rfl); (· exact dcd)) | (apply WK.condF; (· rfl); (· exact dcd)) | (apply WK.condD; (· rfl); all_goals intro _) | fail)
          · refine WKO.ap1b (H := H3) (v := u2) (m := b2.length) (cs := b2.map b8) (val := b8 (48 + r % 10)) (hR2) (by decide) rfl (by simp only [next_bump]; omega) (by simp only [next_bump]; omega) (by omega) rfl rfl rfl rfl ?_
            intro u3 H4 hR4 hn4
            repeat' (first | (apply WK.reg; (· exact lnn)) | refine WKO.nil ?_ | ((first | apply WKO.op); (· first | exact k_mv rfl | exact k_quo10 rfl hr32 | exact opA); (· rfl)) | refine pN ?_ | refine bN ?_ | fail)
            have hj0 : j ≠ 0 := fun q0 => by omega
            obtain ⟨j', rfl⟩ : ∃ j', j = j' + 1 := ⟨j - 1, by omega⟩
            refine ⟨(j', r / 10, b2 ++ [48 + r % 10], u3), ?_, ⟨by show j' ≤ 9; omega, pow_lt_div hr, ?_, ?_⟩, by show j' < j' + 1; omega⟩
            · exact .cons rfl <| .cons rfl <| .cons rfl <| .cons (by rw [show 9 - j' = 9 - (j' + 1) + 1 by omega]; rfl) <| .nil _
            · show (b2 ++ [48 + r % 10]) ++ decR (q / 1000000000 * 10 ^ j' + r / 10) = decR n
              rw [List.append_assoc, ← hs2, decR_step (by exact .inl (limbs_pos_iff.1 (by assumption))) hr]
              rfl
            · have : RowE 1 H4 u3 (b2 ++ [48 + r % 10]).length ((b2 ++ [48 + r % 10]).map b8) := by
                simpa using hR4
              exact this.frame (by simp only [next_bump]; omega) (fun _ _ => rfl)
          · refine WKO.ap1b (H := H3) (v := u2) (m := b2.length) (cs := b2.map b8) (val := b8 (48 + r % 10)) (hR2) (by decide) rfl (by simp only [next_bump]; omega) (by simp only [next_bump]; omega) (by omega) rfl rfl rfl rfl ?_
            intro u3 H4 hR4 hn4
            repeat' (first | (apply WK.reg; (· exact lnn)) | refine WKO.nil ?_ | ((first | apply WKO.op); (· first | exact k_mv rfl | exact k_quo10 rfl hr32 | exact opA); (· rfl)) | refine pN ?_ | refine bN ?_ | fail)
            have hj0 : j ≠ 0 := fun q0 => by omega
            obtain ⟨j', rfl⟩ : ∃ j', j = j' + 1 := ⟨j - 1, by omega⟩
            refine ⟨(j', r / 10, b2 ++ [48 + r % 10], u3), ?_, ⟨by show j' ≤ 9; omega, pow_lt_div hr, ?_, ?_⟩, by show j' < j' + 1; omega⟩
            · exact .cons rfl <| .cons rfl <| .cons rfl <| .cons (by rw [show 9 - j' = 9 - (j' + 1) + 1 by omega]; rfl) <| .nil _
            · show (b2 ++ [48 + r % 10]) ++ decR (q / 1000000000 * 10 ^ j' + r / 10) = decR n
              rw [List.append_assoc, ← hs2, decR_step (by exact .inr (by omega)) hr]
              rfl
            · have : RowE 1 H4 u3 (b2 ++ [48 + r % 10]).length ((b2 ++ [48 + r % 10]).map b8) := by
                simpa using hR4
              exact this.frame (by simp only [next_bump]; omega) (fun _ _ => rfl)
          · refine ⟨fun _ => ?_, fun q => absurd rfl q⟩
            repeat' (first | (apply WK.reg; (· exact lnn)) | refine WKO.nil ?_ | ((first | apply WKO.op); (· first | exact k_mv rfl); (· rfl)) | refine pN ?_ | refine bN ?_ | fail)
            have hz : q / 1000000000 * 10 ^ j + r = q / 1000000000 := by
              have hQ := @limbs_nil (q / 1000000000)
              by_cases hj0 : j = 0
              · subst hj0
                rw [Nat.pow_zero] at hr ⊢
                omega
              · rw [show q / 1000000000 = 0 by omega, show r = 0 by omega, Nat.zero_mul]
            exact ⟨(k - 9, q / 1000000000, b2, u2), .cons rfl <| .cons rfl <| .nil _, ⟨div9_lt hk, Nat.lt_of_le_of_lt (Nat.div_le_self _ _) hq, by rw [← hs2, hz], hR2.frame (by simp only [next_bump]; omega) (fun _ _ => rfl)⟩, by show k - 9 < k; omega⟩
          · refine ⟨fun _ => ?_, fun q => absurd rfl q⟩
            repeat' (first | (apply WK.reg; (· exact lnn)) | refine WKO.nil ?_ | ((first | apply WKO.op); (· first | exact k_mv rfl); (· rfl)) | refine pN ?_ | refine bN ?_ | fail)
            have hz : q / 1000000000 * 10 ^ j + r = q / 1000000000 := by
              have hQ := @limbs_nil (q / 1000000000)
              by_cases hj0 : j = 0
              · subst hj0
                rw [Nat.pow_zero] at hr ⊢
                omega
              · rw [show q / 1000000000 = 0 by omega, show r = 0 by omega, Nat.zero_mul]
            exact ⟨(k - 9, q / 1000000000, b2, u2), .cons rfl <| .cons rfl <| .nil _, ⟨div9_lt hk, Nat.lt_of_le_of_lt (Nat.div_le_self _ _) hq, by rw [← hs2, hz], hR2.frame (by simp only [next_bump]; omega) (fun _ _ => rfl)⟩, by show k - 9 < k; omega⟩
      · refine ⟨fun _ => ?_, fun q => absurd rfl q⟩
        have hq0 : q = 0 := by
          have := @limbs_nil q
          omega
        subst hq0
        rw [decR_zero, List.append_nil] at hs
        subst hs
        have hpos : 0 < (decR n).length := by rw [decR_pos h0]; exact Nat.zero_lt_succ _
        rcases hR with ⟨_, ⟨_, q0⟩ | ⟨i, full, rfl, hg, hfu, hfl, hi⟩⟩ | ⟨q0, _⟩
        · omega
        · have hfull : full = (decR n).map b8 ++ full.drop (decR n).length := by
            have := List.take_append_drop ((decR n).length * 1) full
            rw [hfu, Nat.mul_one] at this
            exact this.symm
          repeat' (first | refine WK.seq ?_ | (apply WK.reg; (· exact lnn)) | ((first | apply WKO.op); (· first | exact k_mv rfl); (· rfl)) | fail)
          refine WKO.callV rfl rfl rfl (h68 _ i _ (decR n) (full.drop (decR n).length) _ hpos hdl (by rw [← hfull]; exact hg) (by simp only [next_bump]; omega)) ?_
          rintro v H4 ⟨g4, n4, _⟩
          have hR4 : RowE 1 H4 (.sl i 0 (decR n).length openCap) (decR n).reverse.length ((decR n).reverse.map b8) := by
            rw [List.length_reverse]
            exact .inl ⟨by simp, .inr ⟨i, _, rfl, g4, by rw [Nat.mul_one, List.take_append_of_le_length (by simp), List.take_of_length_le (by simp)], by simp, by simp only [next_bump] at n4; omega⟩⟩
          repeat' (first | refine WK.seq ?_ | refine WK.ret ?_ | (apply WK.reg; (· exact lnn)) | refine WKO.nil ?_ | ((first | apply WKO.op); (· first | exact k_mv rfl | exact k_btsR rfl (hR4.frame (by simp only [next_bump]; omega) (fun _ _ => rfl)) bts_dig); (· rfl)) | refine pN ?_ | fail)
          exact ⟨fun id q => (by cases q), _, rfl, by unfold decS decL; rw [if_neg h0]; rfl⟩
        · omega
theorem text_call {n : Nat} (hn : n < bigN) (H : AHeap) : CallOK Tryz.prog 102 [digA (limbs n)] H (.str (decS n)) H := by
  obtain ⟨v, H', h, rfl⟩ := text_walk (cf := xcallK K67 F 3000 1) (fuel := 3000) (H := ⟨.e, 0⟩) hn (by omega) (fun q hq H => cfhit (K67_eq hq H))
    (fun H i c N rest opn q1 q2 q3 q4 => by
      obtain ⟨v', H', h1, h2⟩ := rev_ok (cf := xcallK K67 F 3000 0) (fuel := 3000) (c := c) q1 (by omega) q3 q4 (by omega)
      exact ⟨v', H', (cfstep rfl rfl).trans h1, h2⟩)
  have h2 := xcallK_sound mixed K67_ok F_ok 3000 2 102 _ _ _ _ ((cfstep rfl rfl).trans h)
  rw [← digI_eq] at h2
  exact h2.pure (by simp [AV.frozL, digA_froz]) (.str _)
end Go.Proofs.YtfcgofffalmdfaaGreatDoor.PA
namespace Go.Proofs.YtfcgofffalmdfaaGreatDoor.PA
open Go Go.Eng Go.Proofs
abbrev ratA (n : Nat) : AV := .agg [.bool false, digA (limbs n), .bool false, digA (limbs 1)]
theorem ratA_froz (n : Nat) : (ratA n).froz = true := by simp only [ratA, AV.froz, AV.frozL, digA_froz, Bool.and_self]
theorem from_walk (n : Nat) : ∃ v H', xfunc (xcallK KN F 2000 0) 2000 L63 [intA n] ⟨.e, 0⟩ = some (v, H') ∧ v = ratA n := by
  refine xfunc_ofK rfl (by show 1 ≤ 6; omega) ?_
  have hF := HF.start ⟨.e, 0⟩
  generalize (⟨.e, 0⟩ : AHeap) = H at hF ⊢
  unfold L63
  dsimp only
  repeat' (first | refine WK.seq ?_ | (apply WK.reg; (· exact lnn)) | (refine WK.regC1 3 rfl rfl rfl ?_ ; dsimp only [List.take_succ_cons, List.take_zero]) | (apply WKO.boxO; (· rfl); (· assumption); (· rfl); (· exact nxx); (· exact nxx); (· exact nxx); intro _ _ _) | (apply WKO.alO; (· assumption); (· rfl); (· exact nxx); (· exact nxx); (· exact nxx); intro _ _ _) | refine WKC.nil ?_ | refine WKO.nil ?_ | ((first | apply WKC.op); (· first | exact k_call rfl rfl (cfhit (KN_36 (by decide) _)) | (apply k_ldA; (· rfl); (· assumption); (· rfl); (· exact mmb); (· first | rfl)) | exact opA); (· rfl)) | refine pN ?_ | fail)
  rename_i H1 hF1 hn1
  refine WKO.stW0 (vs := [.bool false, digA (limbs n), .bool false, digA (limbs 1)]) rfl rfl hF1 rfl nxx (.inr nxx) rfl rfl (by simp only [List.all_cons, List.all_nil, digA_one, Bool.and_true]; rfl) rfl ?_
  intro H9 hF9 hn9
  repeat' (first | refine WK.ret ?_ | refine WKO.nil ?_ | refine pN ?_ | fail)
  exact ⟨fun id q => (by cases q), _, resK_obj rfl (HF.obj hF9 _ (.head _)) rfl, rfl⟩
theorem from_call (n : Nat) (H : AHeap) : CallOK Tryz.prog 63 [intA n] H (ratA n) H := by
  obtain ⟨v, H', h, rfl⟩ := from_walk n
  have h2 := xcallK_sound mixed KN_ok F_ok 2000 1 63 _ _ _ _ ((cfstep rfl rfl).trans h)
  exact h2.pure (by simp [AV.frozL, AV.froz, digA_froz]) (Fz.froz (ratA_froz n))
theorem limbs_one : limbs 1 = [1] := by rw [limbs_pos (by decide), show 1 / B32 = 0 by decide, limbs_zero]; rfl
theorem k_eq32 {cf : CF} {n a : Nat} {H : AHeap} {l : KL0} {x : XO} (hx : evK l x = some (u32 a)) : XV cf l H n (.bin .eql x (.k (.int .u32 (.ofNat 1)))) = some (.bool (decide (a = 1)), H) :=
  k_bin hx rfl (by
    simp only [u32_int, binA]
    rw [if_neg (by simp)]
    show some (AV.bool ((a : Int) == Int.ofNat 1)) = _
    congr 2
    rw [Bool.eq_iff_iff]
    simp only [beq_iff_eq, decide_eq_true_eq]
    show ((a : Int) = (1 : Int)) ↔ a = 1
    omega)
theorem int_walk (n : Nat) : ∃ v H', xfunc (xcallK KN F 2000 0) 2000 L78 [ratA n] ⟨.e, 0⟩ = some (v, H') ∧ v = .bool true := by
  refine xfunc_ofK rfl (by show 1 ≤ 16; omega) ?_
  have hF := HF.start ⟨.e, 0⟩
  generalize (⟨.e, 0⟩ : AHeap) = H at hF ⊢
  have hd : digA (limbs 1) = digI [1] := by rw [digI_eq, limbs_one]
  unfold ratA
  rw [hd]
  unfold L78
  dsimp only
  repeat' (first | refine WK.seq ?_ | refine WK.ret ?_ | (apply WK.reg; (· exact lnn)) | (apply WKO.boxO; (· rfl); (· assumption); (· rfl); (· exact nxx); (· exact nxx); (· exact nxx); intro _ _ _) | refine WKO.nil ?_ | ((first | apply WKO.op | ((first | apply WKO.gop); (· rfl); (· exact dcd))); (· first | exact k_mv rfl | exact k_lenD rfl | exact k_iaD rfl rfl (by decide) | exact k_ldD rfl (by decide) | exact k_eq32 rfl | (apply k_ldO; (· rfl); (· assumption); (· rfl); (· exact mmb); (· rfl)) | exact k_faddr rfl | exact opA); (· rfl)) | refine pN ?_ | fail)
  exact ⟨fun id q => (by cases q), _, rfl, rfl⟩
theorem int_call (n : Nat) (H : AHeap) : CallOK Tryz.prog 78 [ratA n] H (.bool true) H := by
  obtain ⟨v, H', h, rfl⟩ := int_walk n
  have h2 := xcallK_sound mixed KN_ok F_ok 2000 1 78 _ _ _ _ ((cfstep rfl rfl).trans h)
  exact h2.pure (by simp only [AV.frozL, ratA_froz, Bool.and_self]) (.bool _)
noncomputable def unRat (v : AV) : Option Nat := match v with
  | .agg [.bool false, x, .bool false, y] => (unDig x).bind fun n => (unDig y).bind fun m => if m = 1 then some n else none
  | _ => none
theorem unRat_V (n : Nat) : unRat (ratA n) = some n := by
  simp only [unRat, unDig_V, Option.bind_some, if_true]
theorem unRat_some {v : AV} {n : Nat} (h : unRat v = some n) : v = ratA n := by
  unfold unRat at h
  split at h
  · obtain ⟨a, h1, h⟩ := Option.bind_eq_some_iff.1 h
    obtain ⟨b, h2, h⟩ := Option.bind_eq_some_iff.1 h
    split at h
    · rename_i hb
      cases h
      rw [unDig_some h1, unDig_some h2, hb]
    · cases h
  · cases h
noncomputable def KTx : CF := fun f args H => match f, args with
  | 102, [x] => (unDig x).bind fun n => if n < bigN then some (.str (decS n), H) else none
  | 78, [x] => (unRat x).map fun n => (.bool true, H)
  | _, _ => none
theorem KTx_ok : CFok Tryz.prog KTx := by
  intro f args H v H' h
  unfold KTx at h
  split at h
  · obtain ⟨n, h1, h⟩ := Option.bind_eq_some_iff.1 h
    split at h
    · rename_i hb
      cases h
      rw [unDig_some h1]
      exact text_call hb H
    · cases h
  · obtain ⟨n, h1, h2⟩ := Option.map_eq_some_iff.1 h
    cases h2
    rw [unRat_some h1]
    exact int_call n H
  · cases h
theorem KTx_48 {n : Nat} (hn : n < bigN) (H : AHeap) : KTx 102 [digA (limbs n)] H = some (.str (decS n), H) := by
  show (unDig (digA (limbs n))).bind _ = _
  rw [unDig_V, Option.bind_some, if_pos hn]
theorem KTx_49 (n : Nat) (H : AHeap) : KTx 78 [ratA n] H = some (.bool true, H) := by
  show (unRat (ratA n)).map _ = _
  rw [unRat_V]; rfl
theorem decS_len {n : Nat} (hn : n < bigN) : (decS n).length ≤ 200 := by
  unfold decS decL
  rw [List.length_map]
  split
  · exact Nat.le_trans (Nat.le_refl 1) (by decide)
  · rw [List.length_reverse]; exact decR_len 200 n (big200 hn)
theorem Num_walk {n : Nat} (hn : n < bigN) : ∃ v H', xfunc (xcallK KTx F 2000 0) 2000 L64 [ratA n] ⟨.e, 0⟩ = some (v, H') ∧ v = .tup [.str (decS n), .int .i64 0] := by
  refine xfunc_ofK rfl (by show 1 ≤ 32; omega) ?_
  have hF := HF.start ⟨.e, 0⟩
  generalize (⟨.e, 0⟩ : AHeap) = H at hF ⊢
  have hl := decS_len hn
  unfold L64
  dsimp only
  repeat' (first | refine WK.seq ?_ | refine WK.skip ?_ | refine WK.ret ?_ | (apply WK.reg; (· exact lnn)) | (apply WKO.boxO; (· rfl); (· assumption); (· rfl); (· exact nxx); (· exact nxx); (· exact nxx); intro _ _ _) | refine WKO.nil ?_ | ((first | apply WKO.op); (· first | exact k_mv rfl | exact k_call rfl rfl (cfhit (KTx_48 hn _)) | exact k_call rfl rfl (cfhit (KTx_49 n _)) | exact k_slen rfl | (apply k_ldO; (· rfl); (· assumption); (· rfl); (· exact mmb); (· rfl)) | (apply k_ldA; (· rfl); (· assumption); (· rfl); (· exact mmb); (· first | rfl)) | exact k_faddr rfl | exact opA); (· rfl)) | refine pN ?_ | refine pR ?_ | (apply WK.condT; (· rfl); (· exact dcd)) | (apply WK.condF; (· rfl); (· exact dcd)) | fail)
  exact ⟨fun id q => (by cases q), _, rfl, rfl⟩
theorem Num_call {n : Nat} (hn : n < bigN) (H : AHeap) : CallOK Tryz.prog 64 [ratA n] H (.tup [.str (decS n), .int .i64 0]) H := by
  obtain ⟨v, H', h, rfl⟩ := Num_walk hn
  have h2 := xcallK_sound mixed KTx_ok F_ok 2000 1 64 _ _ _ _ ((cfstep rfl rfl).trans h)
  exact h2.pure (by simp only [AV.frozL, ratA_froz, Bool.and_self]) (Fz.froz rfl)
end Go.Proofs.YtfcgofffalmdfaaGreatDoor.PA
namespace Go.Proofs.YtfcgofffalmdfaaGreatDoor.PA
open Go Go.Eng Go.Proofs
section
variable {cf : CF} {n : Nat} {H0 H H' : AHeap} {mod : List Nat} {T : Nat} {fs : List (Nat × AObj)} {l : KL0} {R : KL0 → AHeap → Prop} {r : List XOper}
theorem WKO.stI0 {i m : Nat} {c1 c2 : AV} {opn : Option Nat} {a x : XO} (ha : evK l a = some (.ptr i 0)) (hx : evK l x = some (intA m)) (hF : HF H0 mod T ((i, .cells [c1, c2] opn) :: fs) H) (hm : H'.m = H.m) (hn : H.next ≤ H'.next) (hi : i ∈ mod ∨ H0.next ≤ i)
    (k : ∀ H1, HF H0 mod T ((i, .cells [.bool false, digA (limbs m)] opn) :: fs) H1 → H1.next = H'.next → WKO cf r (n + 1) l H1 R) : WKO cf (⟨none, .store 2 a x, none⟩ :: r) n l H' R :=
  WKO.stO0 ha hx hF hm hn hi rfl (by simp only [AV.cells, List.all_cons, List.all_nil, digA_one, Bool.and_true]; rfl) (Nat.le_refl _) k
theorem WKO.stI1 {f1 : Nat × AObj} {i m : Nat} {c1 c2 : AV} {opn : Option Nat} {a x : XO} (ha : evK l a = some (.ptr i 0)) (hx : evK l x = some (intA m)) (hF : HF H0 mod T (f1 :: (i, .cells [c1, c2] opn) :: fs) H) (hm : H'.m = H.m) (hn : H.next ≤ H'.next) (hi : i ∈ mod ∨ H0.next ≤ i)
    (k : ∀ H1, HF H0 mod T (f1 :: (i, .cells [.bool false, digA (limbs m)] opn) :: fs) H1 → H1.next = H'.next → WKO cf r (n + 1) l H1 R) : WKO cf (⟨none, .store 2 a x, none⟩ :: r) n l H' R :=
  WKO.stO1 ha hx hF hm hn hi rfl (by simp only [AV.cells, List.all_cons, List.all_nil, digA_one, Bool.and_true]; rfl) (Nat.le_refl _) k
end
theorem sum_take {l : List Nat} {i : Nat} (h : i < l.length) : (l.take (i + 1)).sum = (l.take i).sum + l.getD i 0 := by
  rw [List.take_add_one, List.sum_append, List.getElem?_eq_getElem h, List.getD_eq_getElem?_getD, List.getElem?_eq_getElem h]
  simp
theorem sum_take_le (l : List Nat) (i : Nat) : (l.take i).sum ≤ l.sum := by
  have := congrArg List.sum (List.take_append_drop i l)
  rw [List.sum_append] at this
  omega
theorem getD_le_sum {l : List Nat} {i : Nat} (h : i < l.length) : l.getD i 0 ≤ l.sum := by
  have h1 := sum_take h
  have h2 := sum_take_le l (i + 1)
  omega
set_option maxHeartbeats 1000000 in
theorem total_walk {l : List Nat} (hl : l.length < 400) (hs : l.sum < bigN) : ∃ v H', xfunc (xcallK KN F 2000 0) 2000 L69 [rowI l] ⟨.e, 0⟩ = some (v, H') ∧ v = intA l.sum := by
  refine xfunc_ofK rfl (by show 1 ≤ 18; omega) ?_
  have hF := HF.start ⟨.e, 0⟩
  generalize (⟨.e, 0⟩ : AHeap) = H at hF ⊢
  unfold L69
  dsimp only
  repeat' (first | refine WK.seq ?_ | refine WK.block ?_ | (apply WK.reg; (· exact lnn)) | ((apply WKO.stI0; (· rfl); (· rfl); (· assumption); (· rfl); (· exact nxx); (· exact .inr nxx); intro _ _ _)) | (apply WKO.alO; (· assumption); (· rfl); (· exact nxx); (· exact nxx); (· exact nxx); intro _ _ _) | refine WKO.nil ?_ | ((first | apply WKO.op); (· first | exact k_mv rfl | exact k_call rfl rfl (cfhit (KN_36 (by decide) _)) | exact k_lenE rfl (rowI_rd H _)); (· rfl)) | refine pN ?_ | fail)
  rename_i H1 hF1 hn1 H2 hF2 hn2 H3 hF3 hn3
  refine WK.loop (α := Nat) (fun i => [(2, .ptr H.next 0), (3, .ptr (H1.next + 1) 0), (7, rowI l), (8, nA l.length), (9, nA i)])
    (fun i H' => ∃ T, HF H [] T [(H1.next + 1, .cells [.bool false, digA (limbs (l.take i).sum)] none), (H.next, .cells [.bool false, .nils] none)] H' ∧ i ≤ l.length) (fun i => l.length - i) 0 (.cons rfl <| .cons rfl <| .cons rfl <| .cons rfl <| .cons rfl <| .nil _) ⟨_, hF3.up rfl (by simp only [next_bump]; omega), Nat.zero_le _⟩ (by show l.length - 0 < 2000; omega) ?_
  rintro i H4 ⟨T, hF4, hi⟩
  have hb4 := hF4.base
  have hle4 := hF4.le
  clear hF hF1 hF2 hF3
  have hp3 : H.next ≤ H1.next + 1 := by simp only [next_bump] at hn1; omega
  have hadd : i < l.length → (l.take i).sum < bigN ∧ l.getD i 0 < bigN := fun h => ⟨by have := sum_take_le l i; omega, by have := getD_le_sum h; omega⟩
  repeat' (first | refine WK.seq ?_ | refine WK.skip ?_ | refine WK.ret ?_ | refine WK.exit ?_ | refine WK.block ?_ | (apply WK.reg; (· exact lnn)) | ((apply WKO.stI0; (· rfl); (· rfl); (· assumption); (· rfl); (· exact nxx); (· first | exact .inr nxx); intro _ _ _)) | ((apply WKO.stI1; (· rfl); (· rfl); (· assumption); (· rfl); (· exact nxx); (· first | exact .inr nxx); intro _ _ _)) | (apply WKO.alO; (· assumption); (· rfl); (· exact nxx); (· exact nxx); (· exact nxx); intro _ _ _) | refine WKO.nil ?_ | ((first | apply WKO.op); (· first | exact k_mv rfl | exact k_iaE rfl rfl (rowI_rd H4 _) (by omega) | exact k_ldI rfl (rowI_rd H4 _) rfl (by omega) | exact k_call rfl rfl (cfhit (KN_38 (hadd (by omega)).1 (hadd (by omega)).2 _)) | (apply k_ldA; (· rfl); (· assumption); (· rfl); (· exact mmb); (· first | rfl)) | exact opA); (· rfl)) | refine pN ?_ | refine pX ?_ | refine bN ?_ | refine bX ?_ | (apply WK.condD; (· rfl); all_goals intro _) | fail)
  · rename_i h0 _ _ _ _ _ _ H7 hF7 hn7
    refine ⟨i + 1, (.cons rfl <| .cons rfl <| .cons rfl <| .cons rfl <| .cons rfl <| .nil _), ⟨H7.next, ?_, by show i + 1 ≤ l.length; omega⟩, by show l.length - (i + 1) < l.length - i; omega⟩
    rw [sum_take h0]
    exact (hF7.sub (.cons _ (.refl _)) hF7.le (Nat.le_refl _)).up rfl (by simp only [next_bump]; omega)
  · rename_i H7 hF7 hn7
    have hil : i = l.length := by omega
    subst hil
    rw [List.take_length] at hF7
    exact ⟨fun id q => (by cases q), _, resK_obj rfl (hF7.obj _ (.tail _ (.head _))) rfl, rfl⟩
theorem total_call {l : List Nat} (hl : l.length < 400) (hs : l.sum < bigN) (H : AHeap) : CallOK Tryz.prog 69 [rowI l] H (intA l.sum) H := by
  obtain ⟨v, H', h, rfl⟩ := total_walk hl hs
  have h2 := xcallK_sound mixed KN_ok F_ok 2000 1 69 _ _ _ _ ((cfstep rfl rfl).trans h)
  rw [← rowI_V, ← intA_V] at h2 ⊢
  exact h2.pure (by simp only [AV.frozL, RowV_froz, Bool.and_self]) (Fz.froz (IntV_froz _))
end Go.Proofs.YtfcgofffalmdfaaGreatDoor.PA
namespace Go.Proofs.YtfcgofffalmdfaaGreatDoor.PA
open Go Go.Eng Go.Proofs
noncomputable def KAl : CF := fun f args H =>
  if f = 63 then (match args with
    | [x] => (unInt x).map fun n => (ratA n, H)
    | _ => none) else
  if f = 64 then (match args with
    | [x] => (unRat x).bind fun n => if n < bigN then some (.tup [.str (decS n), .int .i64 0], H) else none
    | _ => none) else
  if f = 69 then (match args with
    | [x] => (unRow x).bind fun l => if l.length < 400 ∧ l.sum < bigN then some (intA l.sum, H) else none
    | _ => none) else KM f args H
theorem KAl_ok : CFok Tryz.prog KAl := by
  intro f args H v H' h
  unfold KAl at h
  split at h
  · rename_i hf
    subst hf
    split at h
    · obtain ⟨n, h1, h2⟩ := Option.map_eq_some_iff.1 h
      cases h2
      rw [unInt_some h1, intA_V]
      exact from_call n H
    · cases h
  · split at h
    · rename_i hf
      subst hf
      split at h
      · obtain ⟨n, h1, h⟩ := Option.bind_eq_some_iff.1 h
        split at h
        · rename_i hb
          cases h
          rw [unRat_some h1]
          exact Num_call hb H
        · cases h
      · cases h
    · split at h
      · rename_i hf
        subst hf
        split at h
        · obtain ⟨l, h1, h⟩ := Option.bind_eq_some_iff.1 h
          split at h
          · rename_i hb
            cases h
            rw [unRow_some h1, rowI_V]
            exact total_call hb.1 hb.2 H
          · cases h
        · cases h
      · exact KM_ok _ _ _ _ _ h
theorem KAl_31 (n : Nat) (H : AHeap) : KAl 63 [intA n] H = some (ratA n, H) := by
  unfold KAl
  rw [if_pos rfl]
  simp only [unInt_A, Option.map_some]
theorem KAl_32 {n : Nat} (hn : n < bigN) (H : AHeap) : KAl 64 [ratA n] H = some (.tup [.str (decS n), .int .i64 0], H) := by
  unfold KAl
  rw [if_neg (by decide), if_pos rfl]
  simp only [unRat_V, Option.bind_some, if_pos hn]
theorem KAl_35 {l : List Nat} (h1 : l.length < 400) (h2 : l.sum < bigN) (H : AHeap) : KAl 69 [rowI l] H = some (intA l.sum, H) := by
  unfold KAl
  rw [if_neg (by decide), if_neg (by decide), if_pos rfl]
  simp only
  rw [← rowI_V, unRow_V, Option.bind_some, if_pos ⟨h1, h2⟩]
theorem KAl_KM {f : Nat} {args : List AV} {H : AHeap} (h1 : f ≠ 63) (h2 : f ≠ 64) (h3 : f ≠ 69) : KAl f args H = KM f args H := by
  unfold KAl
  rw [if_neg h1, if_neg h2, if_neg h3]
def AllV (s : List UInt8) (l : List (Int × Int)) (gap : Int) : List UInt8 × Int := if readE s l gap = 0 then (decS (szF s (rulesOf l) gap 0 s.length).sum, 0) else ([], readE s l gap)
def SizesV (s : List UInt8) (l : List (Int × Int)) (gap : Int) : List Nat × Int := if readE s l gap = 0 then (szF s (rulesOf l) gap 0 s.length, 0) else ([], readE s l gap)
def strC (l : List Nat) : List AV := l.map fun n => .str (decS n)
theorem szF_le (s : List UInt8) (rl : List Bool) (gap : Int) (h : s.length ≤ 40) : (szF s rl gap 0 s.length).length < 400 ∧ (szF s rl gap 0 s.length).sum < bigN := by
  have h1 := lenN_le (mayF s rl gap) (s.length - 0) 0
  have h2 := sizesN_sum (mayF s rl gap) (s.length - 0) 0 (by omega)
  have h3 := pow8 (n := s.length - 0) (by omega)
  unfold lenN at h1
  unfold szF
  exact ⟨by omega, by omega⟩
theorem All_walk (s : List UInt8) (l : List (Int × Int)) (gap : Int) : ∃ v H', xfunc (xcallK KAl F 2000 1) 2000 L26 [.str s, pairsI l, .int .i64 gap] ⟨.e, 0⟩ = some (v, H') ∧ v = .tup [.str (AllV s l gap).1, .int .i64 (AllV s l gap).2] := by
  refine xfunc_ofK rfl (by show 3 ≤ 29; omega) ?_
  unfold L26
  dsimp only
  repeat' (first | refine WK.seq ?_ | (apply WK.reg; (· exact lnn)) | refine WKO.nil ?_ | ((first | apply WKO.op); (· first | exact k_mv rfl); (· rfl)) | refine pN ?_ | fail)
  obtain ⟨v, H1, h1, hq⟩ := KM_24 s l gap ((⟨.e, 0⟩ : AHeap).bump 2 |>.bump 9)
  refine WKO.callV rfl rfl rfl ⟨v, H1, cfhit ((KAl_KM (by decide) (by decide) (by decide)).trans h1), hq⟩ ?_
  rintro v H1 (⟨hE, rfl⟩ | ⟨hE, R, kn, fn, rfl, g1, g2, g3, g4, g5, g6⟩)
  · have hV : AllV s l gap = ([], readE s l gap) := by unfold AllV; rw [if_neg hE]
    rw [hV]
    repeat' (first | refine WK.seq ?_ | refine WK.ret ?_ | (apply WK.reg; (· exact lnn)) | refine WKO.nil ?_ | ((first | apply WKO.op); (· first | exact k_mv rfl | exact k_neE rfl | exact opA); (· rfl)) | refine pN ?_ | refine pR ?_ | (apply WK.condT; (· rfl); (· exact dcd)) | fail)
    exact ⟨fun id q => (by cases q), _, rfl, rfl⟩
  · have hV : AllV s l gap = (decS (szF s (rulesOf l) gap 0 s.length).sum, 0) := by unfold AllV; rw [if_pos hE]
    obtain ⟨hP, hG⟩ := read_good hE g1 g2 g3 g4 g5 g6
    have hsl := hP.sl
    obtain ⟨z1, z2⟩ := szF_le s (rulesOf l) gap hsl
    rw [hV]
    repeat' (first | refine WK.seq ?_ | refine WK.skip ?_ | (apply WK.reg; (· exact lnn)) | refine WKO.nil ?_ | ((first | apply WKO.op); (· first | exact k_mv rfl | exact k_neE rfl | exact opA); (· rfl)) | refine pN ?_ | (apply WK.condF; (· rfl); (· exact dcd)) | fail)
    refine WKO.callV rfl rfl rfl (show ∃ v H', xcallK KAl F 2000 1 49 [.ptr R 0] ((H1.bump 2).bump 11) = some (v, H') ∧ _ from by
      obtain ⟨v, H', q1, q2⟩ := whole_ok (cf := xcallK KAl F 2000 0) (fuel := 2000) (H := (H1.bump 2).bump 11) (R := R) (c := ropeA s (rulesOf l) gap (.map kn) (.map fn)) (s := s) g1 rfl (by simp only [next_bump]; omega) (by omega)
      exact ⟨v, H', (cfstep ((KAl_KM (by decide) (by decide) (by decide)).trans (KM_none (by decide) (by decide) (by decide))) rfl).trans q1, q2⟩) ?_
    rintro v2 H2 ⟨rfl, hn2, hk2⟩
    have hG2 : GoodF s (rulesOf l) gap R kn fn H2 := (hG.up (H' := (H1.bump 2).bump 11) (by simp only [next_bump]; omega) rfl rfl rfl).up hn2 (hk2 R (by simp only [next_bump]; omega)) (hk2 kn (by have := hG.g.kn; simp only [next_bump]; omega)) (hk2 fn (by have := hG.fnl; simp only [next_bump]; omega))
    obtain ⟨v3, H3, e3, q3⟩ := KM_28 hP (i := 0) (j := s.length) (Nat.zero_le _) (Nat.le_refl _) hG2.g
    refine WKO.callV rfl rfl rfl ⟨v3, H3, cfhit ((KAl_KM (by decide) (by decide) (by decide)).trans e3), q3⟩ ?_
    rintro v3 H3 ⟨rfl, _, _, _⟩
    repeat' (first | refine WK.ret ?_ | refine WKO.nil ?_ | ((first | apply WKO.op); (· first | exact k_mv rfl | exact k_call rfl rfl (cfhit (KAl_35 z1 z2 _)) | exact k_call rfl rfl (cfhit (KAl_31 _ _)) | exact k_call rfl rfl (cfhit (KAl_32 z2 _)) | exact opA); (· rfl)) | refine pN ?_ | fail)
    exact ⟨fun id q => (by cases q), _, rfl, rfl⟩
theorem All_call (s : List UInt8) (l : List (Int × Int)) (gap : Int) (H : AHeap) : CallOK Tryz.prog 26 [.str s, pairsI l, .int .i64 gap] H (.tup [.str (AllV s l gap).1, .int .i64 (AllV s l gap).2]) H := by
  obtain ⟨v, H', h, rfl⟩ := All_walk s l gap
  exact CallOK.pure (xfunc_sound mixed (xcallK_sound mixed KAl_ok F_ok 2000 1) 2000 (F_ok 26 L26 rfl) h) (by simp only [AV.frozL, pairs_froz, AV.froz, Bool.and_self]) (Fz.froz rfl)
theorem Sizes_walk (s : List UInt8) (l : List (Int × Int)) (gap : Int) : ∃ v H', xfunc (xcallK KAl F 2000 1) 2000 L31 [.str s, pairsI l, .int .i64 gap] ⟨.e, 0⟩ = some (v, H') ∧ ∃ u, v = .tup [u, .int .i64 (SizesV s l gap).2] ∧ RowE 1 H' u (SizesV s l gap).1.length (strC (SizesV s l gap).1) := by
  refine xfunc_ofK rfl (by show 3 ≤ 49; omega) ?_
  unfold L31
  dsimp only
  repeat' (first | refine WK.seq ?_ | (apply WK.reg; (· exact lnn)) | refine WKO.nil ?_ | ((first | apply WKO.op); (· first | exact k_mv rfl); (· rfl)) | refine pN ?_ | fail)
  obtain ⟨v, H1, h1, hq⟩ := KM_24 s l gap ((⟨.e, 0⟩ : AHeap).bump 2 |>.bump 9)
  refine WKO.callV rfl rfl rfl ⟨v, H1, cfhit ((KAl_KM (by decide) (by decide) (by decide)).trans h1), hq⟩ ?_
  rintro v H1 (⟨hE, rfl⟩ | ⟨hE, R, kn, fn, rfl, g1, g2, g3, g4, g5, g6⟩)
  · have hV : SizesV s l gap = ([], readE s l gap) := by unfold SizesV; rw [if_neg hE]
    rw [hV]
    repeat' (first | refine WK.seq ?_ | refine WK.ret ?_ | (apply WK.reg; (· exact lnn)) | refine WKO.nil ?_ | ((first | apply WKO.op); (· first | exact k_mv rfl | exact k_neE rfl | exact opA); (· rfl)) | refine pN ?_ | refine pR ?_ | (apply WK.condT; (· rfl); (· exact dcd)) | fail)
    exact ⟨fun id q => (by cases q), _, rfl, _, rfl, .inl ⟨rfl, .inl ⟨rfl, rfl⟩⟩⟩
  · have hV : SizesV s l gap = (szF s (rulesOf l) gap 0 s.length, 0) := by unfold SizesV; rw [if_pos hE]
    obtain ⟨hP, hG⟩ := read_good hE g1 g2 g3 g4 g5 g6
    have hsl := hP.sl
    obtain ⟨z1, z2⟩ := szF_le s (rulesOf l) gap hsl
    rw [hV]
    repeat' (first | refine WK.seq ?_ | refine WK.skip ?_ | (apply WK.reg; (· exact lnn)) | refine WKO.nil ?_ | ((first | apply WKO.op); (· first | exact k_mv rfl | exact k_neE rfl | exact opA); (· rfl)) | refine pN ?_ | (apply WK.condF; (· rfl); (· exact dcd)) | fail)
    refine WKO.callV rfl rfl rfl (show ∃ v H', xcallK KAl F 2000 1 49 [.ptr R 0] (((H1.bump 2).bump 1).bump 6) = some (v, H') ∧ _ from by
      obtain ⟨v, H', q1, q2⟩ := whole_ok (cf := xcallK KAl F 2000 0) (fuel := 2000) (H := ((H1.bump 2).bump 1).bump 6) (R := R) (c := ropeA s (rulesOf l) gap (.map kn) (.map fn)) (s := s) g1 rfl (by simp only [next_bump]; omega) (by omega)
      exact ⟨v, H', (cfstep ((KAl_KM (by decide) (by decide) (by decide)).trans (KM_none (by decide) (by decide) (by decide))) rfl).trans q1, q2⟩) ?_
    rintro v2 H2 ⟨rfl, hn2, hk2⟩
    have hG2 : GoodF s (rulesOf l) gap R kn fn H2 := (hG.up (H' := ((H1.bump 2).bump 1).bump 6) (by simp only [next_bump]; omega) rfl rfl rfl).up hn2 (hk2 R (by simp only [next_bump]; omega)) (hk2 kn (by have := hG.g.kn; simp only [next_bump]; omega)) (hk2 fn (by have := hG.fnl; simp only [next_bump]; omega))
    obtain ⟨v3, H3, e3, q3⟩ := KM_28 hP (i := 0) (j := s.length) (Nat.zero_le _) (Nat.le_refl _) hG2.g
    refine WKO.callV rfl rfl rfl ⟨v3, H3, cfhit ((KAl_KM (by decide) (by decide) (by decide)).trans e3), q3⟩ ?_
    rintro v3 H3 ⟨rfl, _, _, _⟩
    generalize szF s (rulesOf l) gap 0 s.length = L at z1 z2 ⊢
    repeat' (first | refine WK.block ?_ | refine WKO.nil ?_ | ((first | apply WKO.op); (· first | exact k_mv rfl | exact k_lenE rfl (rowI_rd H3 _)); (· rfl)) | refine pN ?_ | fail)
    refine WK.loop (α := Nat × AV) (fun t => [(10, t.2), (28, rowI L), (29, nA L.length), (30, nA t.1)]) (fun t H' => RowE 1 H' t.2 t.1 (strC (L.take t.1)) ∧ t.1 ≤ L.length) (fun t => L.length - t.1) (0, .nils) (.cons rfl <| .cons rfl <| .cons rfl <| .cons rfl <| .nil _) ⟨.inl ⟨rfl, .inl ⟨rfl, rfl⟩⟩, Nat.zero_le _⟩ (by show L.length - 0 < 2000; omega) ?_
    rintro ⟨i, u⟩ H4 ⟨hR, hi⟩
    simp only at hR hi ⊢
    have hF4 := HF.start H4
    have hb : i < L.length → L.getD i 0 < bigN := fun h => by have := getD_le_sum h; omega
    repeat' (first | refine WK.seq ?_ | refine WK.skip ?_ | refine WK.exit ?_ | refine WK.block ?_ | (apply WK.reg; (· exact lnn)) | ((apply WKO.alO; (· assumption); (· rfl); (· exact nxx); (· exact nxx); (· exact nxx); intro _ _ _)) | ((apply WKO.stI0; (· rfl); (· rfl); (· assumption); (· rfl); (· exact nxx); (· exact .inr nxx); intro _ _ _)) | refine WKO.nil ?_ | ((first | apply WKO.op); (· first | exact k_mv rfl | (apply k_ldA; (· rfl); (· assumption); (· rfl); (· exact mmb); (· rfl)) | exact k_iaE rfl rfl (rowI_rd H4 _) (by omega) | exact k_ldI rfl (rowI_rd H4 _) rfl (by omega) | exact k_call rfl rfl (cfhit (KAl_31 _ _)) | exact k_call rfl rfl (cfhit (KAl_32 (hb (by omega)) _)) | exact k_neE rfl | exact opA); (· rfl)) | refine pN ?_ | refine pX ?_ | refine bX ?_ | (apply WK.condF; (· rfl); (· exact dcd)) | (apply WK.condD; (· rfl); all_goals intro _) | fail)
    · rename_i h0 _ _ _ H5 hF5 hn5
      have hR5 : RowE 1 H5 u i (strC (L.take i)) := hR.frame (Nat.le_trans hF5.base hF5.le) (fun q hq => hF5.fr q (hR.own_lt hq) (by simp))
      refine WKO.ap1b (H := H5) (v := u) (m := i) (cs := strC (L.take i)) (val := .str (decS (L.getD i 0))) hR5 (by decide) rfl (by simp only [next_bump]; omega) (by simp only [next_bump]; omega) (by omega) rfl rfl rfl rfl ?_
      intro u6 H6 hR6 hn6
      repeat' (first | (apply WK.reg; (· exact lnn)) | refine WKO.nil ?_ | ((first | apply WKO.op); (· first | exact k_mv rfl | exact opA); (· rfl)) | refine pN ?_ | refine bN ?_ | fail)
      refine ⟨(i + 1, u6), (.cons rfl <| .cons rfl <| .cons rfl <| .cons rfl <| .nil _), ⟨?_, by show i + 1 ≤ L.length; omega⟩, by show L.length - (i + 1) < L.length - i; omega⟩
      have e : strC (L.take (i + 1)) = strC (L.take i) ++ [.str (decS (L.getD i 0))] := by
        rw [List.take_add_one, List.getElem?_eq_getElem h0, List.getD_eq_getElem?_getD, List.getElem?_eq_getElem h0]
        simp only [strC, List.map_append, Option.toList_some, List.map_cons, List.map_nil, Option.getD_some]
      simp only
      rw [e]
      exact hR6.frame (by simp only [next_bump]; omega) (fun _ _ => rfl)
    · refine ⟨fun _ => ?_, fun q => absurd rfl q⟩
      repeat' (first | refine WK.seq ?_ | refine WK.ret ?_ | (apply WK.reg; (· exact lnn)) | refine WKO.nil ?_ | ((first | apply WKO.op); (· first | exact k_mv rfl); (· rfl)) | refine pN ?_ | fail)
      have hil : i = L.length := by omega
      subst hil
      rw [List.take_length] at hR
      exact ⟨fun id q => (by cases q), _, rfl, _, rfl, hR.frame (by simp only [next_bump]; omega) (fun _ _ => rfl)⟩
def strI (l : List Nat) : AV := .imm (strC l) l.length false
theorem strC_froz (l : List Nat) : AV.frozL (strC l) = true := by
  refine frozL_iff.2 fun x hx => ?_
  obtain ⟨n, _, rfl⟩ := List.mem_map.1 hx
  rfl
theorem strI_fz {H H'' : AHeap} {N : Nat → Prop} {v : AV} {l : List Nat} (h : RowE 1 H v l.length (strC l)) (hn : ∀ i, v.own = some i → H''.get i = none) : Fz H H'' N v (strI l) := by
  rcases h with ⟨_, ⟨rfl, h0⟩ | ⟨i, full, rfl, hg, hf, hfl, hi⟩⟩ | ⟨h0, h1, i, rfl, h2, h3⟩
  · have : l = [] := List.eq_nil_of_length_eq_zero h0
    subst this
    exact .fnil
  · refine .fsl (k := l.length * 1) (hn i rfl) hg (by rw [List.drop_zero, hf]) (fun j x y hx hy => ?_) (fun h0 => ?_)
    · rw [List.drop_zero, hf] at hx
      rw [hx] at hy
      cases hy
      exact Fz.frozL (strC_froz l) j x hx
    · rw [List.eq_nil_of_length_eq_zero h0]; rfl
  · have : l = [] := List.eq_nil_of_length_eq_zero h0
    subst this
    exact .fsl (k := 0) (hn i rfl) h3 rfl (fun j x y hx hy => by simp at hx) (fun _ => rfl)
theorem Sizes_call (s : List UInt8) (l : List (Int × Int)) (gap : Int) (H : AHeap) : CallOK Tryz.prog 31 [.str s, pairsI l, .int .i64 gap] H (.tup [strI (SizesV s l gap).1, .int .i64 (SizesV s l gap).2]) H := by
  obtain ⟨v, H', h, u, rfl, hR⟩ := Sizes_walk s l gap
  refine CallOK.pure (xfunc_sound mixed (xcallK_sound mixed KAl_ok F_ok 2000 1) 2000 (F_ok 31 L31 rfl) h) (by simp only [AV.frozL, pairs_froz, AV.froz, Bool.and_self]) (.tup rfl (fun j x y hx hy => ?_))
  match j, hx, hy with
  | 0, hx, hy => cases hx; cases hy; exact strI_fz hR (fun i _ => get_e0 i)
  | 1, hx, hy => cases hx; cases hy; exact .int _ _
end Go.Proofs.YtfcgofffalmdfaaGreatDoor.PA
namespace Go.Proofs.YtfcgofffalmdfaaGreatDoor.PA
open Go Go.Eng Go.Proofs
theorem pairsI_fz {H H'' : AHeap} {N : Nat → Prop} {v : AV} {l : List (Int × Int)} (h : RowE 2 H v l.length (encPairs l)) (hn : ∀ i, v.own = some i → H''.get i = none) : Fz H H'' N v (pairsI l) := by
  have hp := pairs_froz l
  simp only [pairsI, AV.froz] at hp
  rcases h with ⟨_, ⟨rfl, h0⟩ | ⟨i, full, rfl, hg, hf, hfl, hi⟩⟩ | ⟨h0, h1, i, rfl, h2, h3⟩
  · have : l = [] := List.eq_nil_of_length_eq_zero h0
    subst this
    exact .fnil
  · refine .fsl (k := l.length * 2) (hn i rfl) hg (by rw [List.drop_zero, hf]) (fun j x y hx hy => ?_) (fun h0 => ?_)
    · rw [List.drop_zero, hf] at hx
      rw [hx] at hy
      cases hy
      exact Fz.frozL hp j x hx
    · rw [List.eq_nil_of_length_eq_zero h0]; rfl
  · have : l = [] := List.eq_nil_of_length_eq_zero h0
    subst this
    exact .fsl (k := 0) (hn i rfl) h3 rfl (fun j x y hx hy => by simp at hx) (fun _ => rfl)
theorem Most_pure (s : List UInt8) (l : List (Int × Int)) (gap : Int) (H : AHeap) : CallOK Tryz.prog 25 [.str s, pairsI l, .int .i64 gap] H (.tup [nA (MostV s l gap).1, .int .i64 (MostV s l gap).2]) H := by
  obtain ⟨H', h⟩ := Most_call s l gap
  exact h.pure (by simp only [AV.frozL, pairs_froz, AV.froz, Bool.and_self]) (Fz.froz rfl)
theorem pairsI_inj {a b : List (Int × Int)} (h : pairsI a = pairsI b) : a = b := by
  simp only [pairsI, AV.imm.injEq] at h
  exact encPairs_inj h.1
open Classical in
noncomputable def unP (v : AV) : Option (List (Int × Int)) := if h : ∃ l, v = pairsI l then some h.choose else none
theorem unP_V (l : List (Int × Int)) : unP (pairsI l) = some l := by
  have h : ∃ m, pairsI l = pairsI m := ⟨l, rfl⟩
  unfold unP
  rw [dif_pos h]
  exact congrArg some (pairsI_inj h.choose_spec).symm
theorem unP_some {v : AV} {l : List (Int × Int)} (h : unP v = some l) : v = pairsI l := by
  unfold unP at h
  split at h
  · rename_i q
    cases h
    exact q.choose_spec
  · cases h
theorem nA_inj {a b : Nat} (h : nA a = nA b) : a = b := by
  simp only [nA, AV.int.injEq, true_and] at h
  omega
section
variable (s : List UInt8) {l : List (Int × Int)} {gap : Int} (H : AHeap)
end
end Go.Proofs.YtfcgofffalmdfaaGreatDoor.PA
namespace Go.Proofs.YtfcgofffalmdfaaGreatDoor.PA
open Go Go.Eng Go.Proofs
section
variable {cf : CF} {n a b : Nat} {H : AHeap} {l : KL0} {x y : XO} {s : List UInt8}
theorem k_mnN (hx : evK l x = some (nA a)) (hy : evK l y = some (nA b)) : XV cf l H n (.mn [x, y]) = some (nA (min a b), H) := by
  rw [k_mnZ hx hy]
  congr 3
  rw [Nat.min_def]
  split <;> split <;> omega
theorem k_mxN (hx : evK l x = some (nA a)) (hy : evK l y = some (nA b)) : XV cf l H n (.mx [x, y]) = some (nA (max a b), H) := by
  rw [k_mxZ hx hy]
  congr 3
  rw [Nat.max_def]
  split <;> split <;> omega
theorem k_scT (hx : evK l x = some (.str s)) (hy : evK l y = some (nA a)) (h : a ≤ s.length) : XV cf l H n (.scut x none (some y)) = some (.str (s.take a), H) := by
  have e : bndA s.length (nA a) = some a := bndA_nat h
  exact k_any (by simp only [xval, xop, scutA, bounds, obnd, hiBnd, hx, hy, Option.bind_some, e, AR.ofV, List.drop_zero, Nat.sub_zero])
end
end Go.Proofs.YtfcgofffalmdfaaGreatDoor.PA
namespace Go.Eng
section
variable {cf : CF} {fuel : Nat} {l : KL0} {H : AHeap} {Q : XE → KL0 → AHeap → Prop}
theorem WK.cl {c : XCode} (hc : CleanCF cf) (h : WK cf fuel c l H fun e l' H' => CleanTo H H' → Q e l' H') : WK cf fuel c l H Q := by
  unfold WK at h ⊢
  intro tm ht
  have h1 := h tm ht
  unfold W at h1 ⊢
  obtain ⟨e, s', q1, l', q2, q3⟩ := h1
  exact ⟨e, s', q1, l', q2, q3 (xcode_clean hc fuel _ _ _ _ q1)⟩
theorem WK.seqC {a b : XCode} (hc : CleanCF cf) (h : WK cf fuel a l H fun e l' H' => CleanTo H H' → (e = .normal → WK cf fuel b l' H' Q) ∧ (e ≠ .normal → Q e l' H')) : WK cf fuel (.seq a b) l H Q :=
  WK.seq (WK.cl hc h)
end
theorem less_get {H : AHeap} {base R : Nat} : ∀ (l : List Nat) (H : AHeap), (∀ i ∈ l, R ≠ base + i) → (H.less base l).get R = H.get R
  | [], H, _ => rfl
  | i :: l, H, h => by
    unfold AHeap.less
    rw [less_get (H := H) l _ (fun j hj => h j (List.mem_cons_of_mem _ hj)), AHeap.get_set, if_neg (h i List.mem_cons_self)]
end Go.Eng
namespace Go.Proofs.YtfcgofffalmdfaaGreatDoor.PA
open Go Go.Eng Go.Proofs
section
variable {cf : CF} {n : Nat} {H : AHeap} {l : KL0} {x y : XO}
theorem k_bs0 {z : List AV} : XV cf l H n (.bslice z [] 0) = some (.sl n 0 0 0, H.set n (some (.cells [] none))) := k_any (by simp [xval, xop, evParts, fillA])
theorem k_app {z bytes : Nat} {u v w : AV} {H1 : AHeap} (hx : evK l x = some u) (hy : evK l y = some v) (h : appA H z bytes u v = .eff w H1) : XV cf l H n (.app z bytes x y) = some (w, H1) := k_any (by simp only [xval, xop, hx, hy, h])
end
theorem k_ldX {cf : CF} {n i p : Nat} {H : AHeap} {l : KL0} {x : XO} {c : List AV} {opn : Option Nat} {v : AV} (hx : evK l x = some (.ptr i p)) (hg : H.get i = some (.cells c opn)) (hc : c[p]? = some v) : XV cf l H n (.load none x) = some (v, H) := k_any (op_loadc hx hg hc)
theorem k_bs2 {cf : CF} {n : Nat} {H : AHeap} {l : KL0} {z z' a b : AV} {x : XO} (hx : evK l x = some (.agg [a, b])) : XV cf l H n (.bslice [z, z'] [(0, 2, x)] 1) = some (.sl n 0 1 1, H.set n (some (.cells [a, b] none))) :=
  k_any (by
    have : (evParts (evK l) [(0, 2, x)]).bind (fillA (List.replicate 1 [z, z']).flatten) = some [a, b] := by simp [evParts, hx, fillA, AV.cells]
    simp only [xval, xop, this])
end Go.Proofs.YtfcgofffalmdfaaGreatDoor.PA
namespace Go.Proofs.YtfcgofffalmdfaaGreatDoor.PA
theorem getD_far {l : List Nat} {j : Nat} (h : l.length ≤ j) : l.getD j 0 = 0 := by rw [List.getD_eq_getElem?_getD, List.getElem?_eq_none h]; rfl
theorem plusF_get (a b : List Nat) (k j : Nat) : (plusF a b k).getD j 0 = a.getD j 0 + if k ≤ j then b.getD (j - k) 0 else 0 := by
  by_cases h : j < max a.length (b.length + k)
  · unfold plusF
    rw [List.getD_eq_getElem?_getD, List.getElem?_map, List.getElem?_range h]
    rfl
  · rw [getD_far (by rw [plusF_len]; omega), getD_far (show a.length ≤ j by omega)]
    split
    · rw [getD_far (show b.length ≤ j - k by omega)]
    · rfl
def allP (l : List Nat) : Prop := ∀ j, j < l.length → 0 < l.getD j 0
theorem timesP_allP {a b : List Nat} (ha : allP a) (hb : allP b) (h0 : 0 < b.length) : ∀ k, k ≤ a.length → allP (timesP a b k)
  | 0, _ => fun j hj => by simp [timesP] at hj
  | k + 1, hk => fun j hj => by
    have ih := timesP_allP ha hb h0 k (by omega)
    have hl := timesP_len a b k
    have hl1 := timesP_len a b (k + 1)
    rw [hl1, if_neg (by omega)] at hj
    rw [timesP_succ, plusF_get]
    by_cases q : k ≤ j
    · have h1 := hb (j - k) (by omega)
      have h2 := ha k (by omega)
      rw [if_pos q, List.getD_eq_getElem?_getD, List.getD_eq_getElem?_getD, List.getElem?_map, List.getElem?_eq_getElem (show j - k < b.length by omega)]
      have h3 : b[j - k]'(by omega) = b.getD (j - k) 0 := by rw [List.getD_eq_getElem?_getD, List.getElem?_eq_getElem (show j - k < b.length by omega)]; rfl
      have := Nat.mul_pos h2 h1
      simp only [Option.map_some, Option.getD_some]
      rw [h3]
      omega
    · have := ih j (by rw [hl, if_neg (by omega)]; omega)
      omega
section
variable (may : Nat → Nat → Bool)
theorem sizes_allP : ∀ n i, allP (sizesN may n i) := by
  intro n
  induction n using Nat.strongRecOn with
  | _ n ih =>
    intro i
    by_cases h : n < 2
    · rw [sizesN_lt may h]
      intro j hj
      have : j = 0 := by simpa using hj
      subst this
      decide
    · rw [sizesN_ge may (by omega)]
      have key : ∀ k, k ≤ n - 1 → allP (sizesP may n i k) := by
        intro k
        induction k with
        | zero => intro _; rw [sizesP_zero]; exact ih _ (by omega) _
        | succ k ihk =>
          intro hk
          have h1 := ihk (by omega)
          rw [sizesP_succ]
          split
          · have h2 := timesP_allP (ih k (by omega) (i + 1)) (ih (n - 2 - k) (by omega) (i + 2 + k)) (sizesN_pos may _ _) _ (Nat.le_refl _)
            have h3 := sizesP_pos may n i (fun m j _ => sizesN_pos may m j) (by omega) k
            intro j hj
            rw [plusF_len] at hj
            rw [plusF_get]
            by_cases q : j < (sizesP may n i k).length
            · have := h1 j q
              omega
            · rw [if_pos (by omega)]
              have := h2 (j - 1) (by unfold timesF at hj; unfold timesP; omega)
              have e : timesF (sizesN may k (i + 1)) (sizesN may (n - 2 - k) (i + 2 + k)) = timesP (sizesN may k (i + 1)) (sizesN may (n - 2 - k) (i + 2 + k)) (sizesN may k (i + 1)).length := rfl
              rw [e]
              omega
          · exact h1
      exact key _ (Nat.le_refl _)
end
end Go.Proofs.YtfcgofffalmdfaaGreatDoor.PA
namespace Go.Proofs.YtfcgofffalmdfaaGreatDoor.PA
section
variable (may : Nat → Nat → Bool) (x : Nat)
end
end Go.Proofs.YtfcgofffalmdfaaGreatDoor.PA
namespace Go.Proofs.YtfcgofffalmdfaaGreatDoor.PA
open Go Go.Eng Go.Proofs
section
variable (may : Nat → Nat → Bool)
end
end Go.Proofs.YtfcgofffalmdfaaGreatDoor.PA
namespace Go.Proofs.YtfcgofffalmdfaaGreatDoor.PA
def BZ : Nat := 10000
theorem BZ_eq : BZ = 10000 := rfl
def valZ : List Nat → Nat
  | [] => 0
  | x :: r => x + BZ * valZ r
def digZ (l : List Nat) : Prop := ∀ x ∈ l, x < BZ
def dz (n : Nat) : List Nat := if h : n = 0 then [] else (n % BZ) :: dz (n / BZ)
  termination_by n
  decreasing_by exact Nat.div_lt_self (by omega) (by decide)
theorem dz_zero : dz 0 = [] := by rw [dz]; simp
theorem dz_pos {n : Nat} (h : n ≠ 0) : dz n = (n % BZ) :: dz (n / BZ) := by rw [dz]; simp [h]
theorem valZ_dz : ∀ n, valZ (dz n) = n := by
  intro n
  induction n using Nat.strongRecOn with
  | _ n ih =>
    by_cases h : n = 0
    · rw [h, dz_zero]; rfl
    · rw [dz_pos h, valZ, ih _ (Nat.div_lt_self (by omega) (by decide))]
      exact Nat.mod_add_div n BZ
theorem digZ_dz : ∀ n, digZ (dz n) := by
  intro n
  induction n using Nat.strongRecOn with
  | _ n ih =>
    intro x hx
    by_cases h : n = 0
    · rw [h, dz_zero] at hx; cases hx
    · rw [dz_pos h] at hx
      rcases List.mem_cons.1 hx with rfl | hx
      · exact Nat.mod_lt _ (by decide)
      · exact ih _ (Nat.div_lt_self (by omega) (by decide)) x hx
theorem valZ_app : ∀ (a b : List Nat), valZ (a ++ b) = valZ a + BZ ^ a.length * valZ b
  | [], b => by simp [valZ]
  | x :: a, b => by
    rw [List.cons_append, valZ, valZ_app a b, valZ, List.length_cons, Nat.pow_succ, Nat.mul_add, ← Nat.mul_assoc, Nat.mul_comm BZ (BZ ^ a.length)]
    omega
theorem valZ_lt : ∀ {l : List Nat}, digZ l → valZ l < BZ ^ l.length
  | [], _ => by simp [valZ]
  | x :: l, h => by
    have h1 := h x (by simp)
    have h2 := valZ_lt (l := l) (fun y hy => h y (by simp [hy]))
    rw [valZ, List.length_cons, Nat.pow_succ]
    have h3 : BZ * (valZ l + 1) ≤ BZ * BZ ^ l.length := Nat.mul_le_mul_left _ h2
    rw [Nat.mul_add, Nat.mul_one] at h3
    rw [Nat.mul_comm (BZ ^ l.length)]
    omega
theorem valZ_zeros (k : Nat) : valZ (List.replicate k 0) = 0 := by
  induction k with
  | zero => rfl
  | succ k ih => rw [List.replicate_succ, valZ, ih, Nat.mul_zero]
def NoZ (l : List Nat) : Prop := ∀ h : l ≠ [], l.getLast h ≠ 0
theorem dz_val : ∀ {l : List Nat}, digZ l → NoZ l → dz (valZ l) = l
  | [], _, _ => by rw [valZ, dz_zero]
  | x :: l, hd, hn => by
    have h1 := hd x (by simp)
    have ih := dz_val (l := l) (fun y hy => hd y (by simp [hy])) (fun h => by
      have := hn (by simp)
      rwa [List.getLast_cons h] at this)
    have h0 : valZ (x :: l) ≠ 0 := by
      intro h
      rw [valZ] at h
      have hx : x = 0 := by omega
      have hv : valZ l = 0 := by
        have : BZ * valZ l = 0 := by omega
        rcases Nat.mul_eq_zero.1 this with q | q
        · exact absurd q (by decide)
        · exact q
      rw [hv, dz_zero] at ih
      subst ih
      exact hn (by simp) (by simpa using hx)
    rw [dz_pos h0, valZ, Nat.add_mul_mod_self_left, Nat.mod_eq_of_lt h1, Nat.add_mul_div_left _ _ (by decide : 0 < BZ), Nat.div_eq_of_lt h1, Nat.zero_add, ih]
def cutZ (l : List Nat) (n : Nat) : Prop := n ≤ l.length ∧ valZ (l.take n) = valZ l
theorem cutZ_next {l : List Nat} {n : Nat} (h : cutZ l (n + 1)) (h0 : l.getD n 0 = 0) : cutZ l n := by
  obtain ⟨h1, h2⟩ := h
  refine ⟨by omega, ?_⟩
  rw [← h2, List.take_add_one, List.getElem?_eq_getElem (by omega), valZ_app]
  rw [List.getD_eq_getElem?_getD, List.getElem?_eq_getElem (show n < l.length by omega)] at h0
  simp only [Option.getD_some] at h0
  simp [valZ, h0]
theorem cutZ_done {l : List Nat} {n : Nat} (hd : digZ l) (h : cutZ l n) (hn : n = 0 ∨ l.getD (n - 1) 0 ≠ 0) : l.take n = dz (valZ l) := by
  obtain ⟨h1, h2⟩ := h
  rw [← h2]
  refine (dz_val (fun x hx => hd x (List.mem_of_mem_take hx)) fun hne => ?_).symm
  have hn0 : n ≠ 0 := fun q => hne (by rw [q, List.take_zero])
  rcases hn with q | q
  · exact absurd q hn0
  · rw [List.getLast_eq_getElem]
    rw [List.getD_eq_getElem?_getD, List.getElem?_eq_getElem (show n - 1 < l.length by omega)] at q
    simp only [List.length_take, List.getElem_take, Nat.min_eq_left h1]
    exact q
theorem dz_len : ∀ (k n : Nat), n < BZ ^ k → (dz n).length ≤ k
  | 0, n, h => by rw [show n = 0 by rw [Nat.pow_zero] at h; omega, dz_zero]; exact Nat.le_refl _
  | k + 1, n, h => by
    by_cases h0 : n = 0
    · rw [h0, dz_zero]; exact Nat.zero_le _
    · rw [dz_pos h0, List.length_cons]
      have := dz_len k (n / BZ) (by
        rw [Nat.div_lt_iff_lt_mul (by decide)]
        rwa [Nat.pow_succ] at h)
      omega
theorem dz_nil {n : Nat} : (dz n).length = 0 ↔ n = 0 := by
  constructor
  · intro h
    rw [← valZ_dz n, List.eq_nil_of_length_eq_zero h]
    rfl
  · intro h
    rw [h, dz_zero]
    rfl
theorem valZ_take (l : List Nat) {i : Nat} (h : i < l.length) : valZ (l.take (i + 1)) = valZ (l.take i) + BZ ^ i * l.getD i 0 := by
  rw [List.take_add_one, List.getElem?_eq_getElem h, valZ_app, List.getD_eq_getElem?_getD, List.getElem?_eq_getElem h, List.length_take, Nat.min_eq_left (by omega)]
  simp [valZ]
theorem valZ_snoc (l : List Nat) (w : Nat) : valZ (l ++ [w]) = valZ l + BZ ^ l.length * w := by
  rw [valZ_app]
  simp [valZ]
theorem valZ_set : ∀ (l : List Nat) (j w : Nat), j < l.length → valZ (l.set j w) + BZ ^ j * l.getD j 0 = valZ l + BZ ^ j * w
  | [], j, w, h => by simp at h
  | x :: l, 0, w, h => by simp [valZ]; omega
  | x :: l, j + 1, w, h => by
    have ih := valZ_set l j w (by simpa using h)
    rw [List.set_cons_succ, valZ, valZ, List.getD_cons_succ, Nat.pow_succ, Nat.mul_comm (BZ ^ j), Nat.mul_assoc, Nat.mul_assoc]
    have := congrArg (BZ * ·) ih
    simp only [Nat.mul_add] at this
    omega
def decV (l : List Nat) : Nat := l.foldl (fun v c => 10 * v + (c - 48)) 0
end Go.Proofs.YtfcgofffalmdfaaGreatDoor.PA
namespace Go.Proofs.YtfcgofffalmdfaaGreatDoor.PA
open Go Go.Eng Go.Proofs
def rowZ (l : List Nat) : AV := .imm (l.map nA) l.length false
abbrev zN (n : Nat) : AV := .agg [.bool false, rowZ (dz n)]
theorem rowZ_froz (l : List Nat) : (rowZ l).froz = true := by
  simp only [rowZ, AV.froz]
  refine frozL_iff.2 fun x hx => ?_
  obtain ⟨n, _, rfl⟩ := List.mem_map.1 hx
  rfl
theorem zN_froz (n : Nat) : (zN n).froz = true := by simp only [zN, AV.froz, AV.frozL, rowZ_froz, Bool.and_self]
theorem rowZ_one (l : List Nat) : (rowZ l).oneCell = true := rfl
theorem rowZ_inj {a b : List Nat} (h : rowZ a = rowZ b) : a = b := by
  simp only [rowZ, AV.imm.injEq] at h
  exact (List.map_inj_right (fun x y => nA_inj)).1 h.1
theorem dz_inj {a b : Nat} (h : dz a = dz b) : a = b := by rw [← valZ_dz a, h, valZ_dz]
theorem rowZ_fz {H H'' : AHeap} {N : Nat → Prop} {v : AV} {l : List Nat} (h : RowE 1 H v l.length (l.map nA)) (hn : ∀ i, v.own = some i → H''.get i = none) : Fz H H'' N v (rowZ l) := by
  have hp := rowZ_froz l
  simp only [rowZ, AV.froz] at hp
  rcases h with ⟨_, ⟨rfl, h0⟩ | ⟨i, full, rfl, hg, hf, hfl, hi⟩⟩ | ⟨h0, h1, i, rfl, h2, h3⟩
  · have : l = [] := List.eq_nil_of_length_eq_zero h0
    subst this
    exact .fnil
  · refine .fsl (k := l.length * 1) (hn i rfl) hg (by rw [List.drop_zero, hf]) (fun j x y hx hy => ?_) (fun h0 => ?_)
    · rw [List.drop_zero, hf] at hx
      rw [hx] at hy
      cases hy
      exact Fz.frozL hp j x hx
    · rw [List.eq_nil_of_length_eq_zero h0]; rfl
  · have : l = [] := List.eq_nil_of_length_eq_zero h0
    subst this
    exact .fsl (k := 0) (hn i rfl) h3 rfl (fun j x y hx hy => by simp at hx) (fun _ => rfl)
section
variable {cf : CF} {n a b : Nat} {H H' : AHeap} {l : KL0} {x y : XO} {d : List Nat} {X : AV}
theorem k_lenZ (hx : evK l x = some (rowZ d)) : XV cf l H n (.len x) = some (nA d.length, H) := k_lenL hx rfl
theorem map_nA {d : List Nat} {a : Nat} (h : a < d.length) : (d.map nA)[a * 1]? = some (nA (d.getD a 0)) := by
  rw [Nat.mul_one, List.getElem?_map, List.getElem?_eq_getElem h, List.getD_eq_getElem?_getD, List.getElem?_eq_getElem h]
  rfl
theorem k_iaZ (hx : evK l x = some (rowZ d)) (hy : evK l y = some (nA a)) (h : a < d.length) : XV cf l H n (.iaddr 1 x y) = some (.iptr (d.map nA) (a * 1), H) := k_iaM hx hy h
theorem k_ldZ (hx : evK l x = some (.iptr (d.map nA) (a * 1))) (h : a < d.length) : XV cf l H n (.load none x) = some (nA (d.getD a 0), H) := k_ldP hx (map_nA h)
theorem k_ldR (hx : evK l x = some (adE X (a * 1))) (hE : RdR 1 H' X d.length (d.map nA)) (hg : ∀ i, X.own = some i → H.get i = H'.get i) (h : a < d.length) : XV cf l H n (.load none x) = some (nA (d.getD a 0), H) := by
  obtain ⟨c, h1, h2⟩ := hE.at (H' := H) (p := a * 1) hg (by omega)
  refine k_load hx ?_
  have h3 := map_nA h
  have h4 : c[0]? = some (nA (d.getD a 0)) := by
    have : (c.take (d.length * 1 - a * 1))[0]? = some (nA (d.getD a 0)) := by rw [h2, List.getElem?_drop, Nat.add_zero]; exact h3
    rwa [List.getElem?_take, if_pos (by omega)] at this
  simp only [loadA, h1, h4]
end
theorem rowZ_rd (H : AHeap) (l : List Nat) : RdR 1 H (rowZ l) l.length (l.map nA) := RdR.imm (by simp)
def Frt (H : AHeap) (X : AV) (d : List Nat) : Prop := X = rowZ d ∨ (∃ i, X = .sl i 0 d.length d.length ∧ i < H.next ∧ H.get i = some (.cells (d.map nA) none) ∧ d.length < 1000000) ∨ RowE 1 H X d.length (d.map nA)
theorem Frt.rd {H : AHeap} {X : AV} {d : List Nat} (h : Frt H X d) : RdR 1 H X d.length (d.map nA) := by
  rcases h with rfl | ⟨i, rfl, h1, h2, h3⟩ | h
  · exact rowZ_rd H d
  · exact ⟨by simp, .inr (.inr ⟨i, _, _, _, rfl, h1, h2, by rw [List.take_of_length_le (by simp)], by simp⟩)⟩
  · exact RdR.of h
theorem Frt.cut {H H' : AHeap} {X : AV} {d : List Nat} {m : Nat} (h : Frt H X d) (hm : m ≤ d.length) (hn : H.next ≤ H'.next) (hg : ∀ i, X.own = some i → H'.get i = H.get i) (ev : XO → Option AV) (x : XO) (hx : ev x = some (nA m)) :
    ∃ Y, cutA ev 1 X none (some x) none = some Y ∧ lenA Y = some m ∧ srcA H' 1 m Y = some ((d.take m).map nA) := by
  rcases h with rfl | ⟨i, rfl, h1, h2, h3⟩ | h
  · by_cases h0 : d.length = 0
    · have : d = [] := List.eq_nil_of_length_eq_zero h0
      subst this
      have : m = 0 := by simpa using hm
      subst this
      refine ⟨.imm [] 0 false, ?_, rfl, by simp [srcA]⟩
      simp only [rowZ, cutA, bounds, obnd, hiBnd, hx, Option.bind_some, show bndA (List.length ([] : List Nat)) (nA 0) = some 0 from bndA_nat (Nat.le_refl 0)]
      simp
    · have hb : bndA d.length (nA m) = some m := bndA_nat hm
      refine ⟨.imm (d.map nA) m (false && decide (m = d.length)), ?_, rfl, ?_⟩
      · simp only [rowZ, cutA, bounds, obnd, hiBnd, hx, Option.bind_some, hb]
        rw [if_neg (by omega)]
        simp
      · simp only [srcA, List.length_map, Nat.mul_one]
        rw [if_pos hm, List.map_take]
  · have hb : bndA d.length (nA m) = some m := bndA_nat hm
    refine ⟨.sl i 0 m d.length, ?_, rfl, ?_⟩
    · simp only [cutA]
      rw [if_pos (by unfold openAt; omega), if_pos (Nat.le_refl _)]
      simp only [bounds, obnd, hiBnd, hx, Option.bind_some, hb]
      simp
    · have hgi := hg i rfl
      simp only [srcA, hgi, h2, List.length_map, Nat.zero_add, Nat.mul_one, List.drop_zero]
      rw [if_pos hm, List.map_take]
  · obtain ⟨Y, c1, c2, c3⟩ := frontE (h.frame hn hg) hm ev x .i64 hx
    refine ⟨Y, c1, c2.len, ?_⟩
    have := c2.src
    rwa [Nat.mul_one, ← List.map_take] at this
theorem WKO.cutF {cf : CF} {n m d : Nat} {H H' : AHeap} {l : KL0} {x y : XO} {X : AV} {dd : List Nat} {R : KL0 → AHeap → Prop} {r : List XOper} (hx : evK l x = some X) (hy : evK l y = some (nA m)) (hX : Frt H X dd) (hm : m ≤ dd.length) (hn : H.next ≤ H'.next) (hg : ∀ i, X.own = some i → H'.get i = H.get i)
    (k : ∀ Y, lenA Y = some m → srcA H' 1 m Y = some ((dd.take m).map nA) → WKO cf r (n + 1) ((d, Y) :: l) H' R) : WKO cf (⟨some d, .cut 1 x none (some y) none, none⟩ :: r) n l H' R := by
  obtain ⟨Y, c1, c2, c3⟩ := hX.cut hm hn hg (evK l) y hy
  exact WKO.op (v := Y) (H1 := H') (k_any (by simp only [xval, xop, hx, Option.bind_some, c1, AR.ofV])) (by simp [allSm, XOp.opnds, hx, hy]) (k Y c2 c3)
section
variable {cf : CF} {n m bytes : Nat} {H H' : AHeap} {l : KL0} {x y : XO} {X Y v w v' : AV}
theorem k_appF (hx : evK l x = some v) (hy : evK l y = some w) (h : appA H 1 bytes v w = .eff v' H') : XV cf l H n (.app 1 bytes x y) = some (v', H') := by
  refine k_any ?_
  simp only [xval, xop, hx, hy, h]
end
theorem one_cells {v : AV} (h : v.oneCell = true) : v.cells = [v] := by
  cases v <;> first | rfl | simp [AV.oneCell] at h
section
variable {cf : CF} {n : Nat} {H0 H H' : AHeap} {mod : List Nat} {T : Nat} {fs : List (Nat × AObj)} {l : KL0} {R : KL0 → AHeap → Prop} {r : List XOper}
theorem WKO.c0 {i p : Nat} {c : List AV} {v : AV} {opn : Option Nat} {a x : XO} (ha : evK l a = some (.ptr i p)) (hx : evK l x = some v) (hv : v.oneCell = true) (hF : HF H0 mod T ((i, .cells c opn) :: fs) H) (hm : H'.m = H.m) (hn : H.next ≤ H'.next) (hi : i ∈ mod ∨ H0.next ≤ i) (hp : p < c.length)
    (k : ∀ H1, HF H0 mod T ((i, .cells (c.set p v) opn) :: fs) H1 → H1.next = H'.next → WKO cf r (n + 1) l H1 R) : WKO cf (⟨none, .store 1 a x, none⟩ :: r) n l H' R := by
  have e : c.set p v = overA c p v.cells := by
    rw [one_cells hv, overA, List.set_eq_take_append_cons_drop, if_pos hp]
    simp
  rw [e] at k
  exact WKO.stO0 ha hx hF hm hn hi (by rw [one_cells hv]; rfl) (by rw [one_cells hv]; simp [hv]) (by omega) k
theorem WKO.c1 {f1 : Nat × AObj} {i p : Nat} {c : List AV} {v : AV} {opn : Option Nat} {a x : XO} (ha : evK l a = some (.ptr i p)) (hx : evK l x = some v) (hv : v.oneCell = true) (hF : HF H0 mod T (f1 :: (i, .cells c opn) :: fs) H) (hm : H'.m = H.m) (hn : H.next ≤ H'.next) (hi : i ∈ mod ∨ H0.next ≤ i) (hp : p < c.length)
    (k : ∀ H1, HF H0 mod T (f1 :: (i, .cells (c.set p v) opn) :: fs) H1 → H1.next = H'.next → WKO cf r (n + 1) l H1 R) : WKO cf (⟨none, .store 1 a x, none⟩ :: r) n l H' R := by
  have e : c.set p v = overA c p v.cells := by
    rw [one_cells hv, overA, List.set_eq_take_append_cons_drop, if_pos hp]
    simp
  rw [e] at k
  exact WKO.stO1 ha hx hF hm hn hi (by rw [one_cells hv]; rfl) (by rw [one_cells hv]; simp [hv]) (by omega) k
theorem WKO.p0 {i : Nat} {c1 c2 u w : AV} {opn : Option Nat} {a x : XO} (ha : evK l a = some (.ptr i 0)) (hx : evK l x = some (.agg [u, w])) (hu : u.oneCell = true) (hw : w.oneCell = true) (hF : HF H0 mod T ((i, .cells [c1, c2] opn) :: fs) H) (hm : H'.m = H.m) (hn : H.next ≤ H'.next) (hi : i ∈ mod ∨ H0.next ≤ i)
    (k : ∀ H1, HF H0 mod T ((i, .cells [u, w] opn) :: fs) H1 → H1.next = H'.next → WKO cf r (n + 1) l H1 R) : WKO cf (⟨none, .store 2 a x, none⟩ :: r) n l H' R :=
  WKO.stO0 ha hx hF hm hn hi rfl (by simp [AV.cells, hu, hw]) (Nat.le_refl _) k
end
theorem WKO.bsZ {cf : CF} {n z' d : Nat} {H' : AHeap} {l : KL0} {R : KL0 → AHeap → Prop} {r : List XOper} {z : List AV} (hlt : n < H'.next) (k : ∀ H1, RowE z' H1 (.sl n 0 0 0) 0 [] → H1.next = H'.next → (∀ q, q ≠ n → H1.get q = H'.get q) → WKO cf r (n + 1) ((d, .sl n 0 0 0) :: l) H1 R) : WKO cf (⟨some d, .bslice z [] 0, none⟩ :: r) n l H' R :=
  WKO.op (v := .sl n 0 0 0) (H1 := H'.set n (some (.cells [] none))) (k_any (by simp [xval, xop, evParts, fillA])) rfl (k _ (.inr ⟨rfl, rfl, n, rfl, by rw [next_set]; exact hlt, by rw [AHeap.get_set, if_pos rfl]⟩) rfl (fun q hq => by rw [AHeap.get_set, if_neg hq]))
theorem map_one (d : List Nat) : (d.map nA).all AV.oneCell = true := by
  rw [List.all_eq_true]
  intro x hx
  obtain ⟨n, _, rfl⟩ := List.mem_map.1 hx
  rfl
end Go.Proofs.YtfcgofffalmdfaaGreatDoor.PA
namespace Go.Proofs.YtfcgofffalmdfaaGreatDoor.PA
open Go Go.Eng Go.Proofs
theorem _root_.Go.Eng.RowE.one {z l : Nat} {H : AHeap} {v : AV} {cs : List AV} (h : RowE z H v l cs) : v.oneCell = true := by
  rcases h with ⟨_, ⟨rfl, _⟩ | ⟨i, full, rfl, _⟩⟩ | ⟨_, _, i, rfl, _⟩ <;> rfl
set_option maxHeartbeats 2000000 in
theorem lean_ok {cf : CF} {fuel : Nat} {H : AHeap} {X : AV} {d : List Nat} (hX : Frt H X d) (hd : digZ d) (hl : d.length < 1000000) (hf : d.length < fuel) :
    ∃ v H', xfunc cf fuel L83 [.agg [.bool false, X]] H = some (v, H') ∧ ∃ u, v = .agg [.bool false, u] ∧ RowE 1 H' u (dz (valZ d)).length ((dz (valZ d)).map nA) ∧ (∀ q, q < H.next → H'.get q = H.get q) ∧ H.next ≤ H'.next ∧ (∀ q, u.own = some q → H.next ≤ q) := by
  refine xfunc_ofK rfl (by show 1 ≤ 35; omega) ?_
  have hF := HF.start H
  have hrd := hX.rd
  unfold L83
  dsimp only
  repeat' (first | refine WK.seq ?_ | refine WK.block ?_ | (apply WK.reg; (· exact lnn)) | (apply WKO.boxO; (· rfl); (· assumption); (· rfl); (· exact nxx); (· exact nxx); (· exact nxx); intro _ _ _) | (apply WKO.alO; (· assumption); (· rfl); (· exact nxx); (· exact nxx); (· exact nxx); intro _ _ _) | refine WKO.nil ?_ | ((first | apply WKO.op); (· first | exact k_mv rfl | exact k_lenE rfl hrd | (apply k_ldO; (· rfl); (· assumption); (· rfl); (· exact mmb); (· rfl)) | exact k_faddr rfl); (· rfl)) | refine pN ?_ | fail)
  rename_i H1 hF1 hn1 H2 hF2 hn2
  have hb1 := hF1.lt _ (.head _)
  simp only at hb1
  refine WK.loop (α := Nat) (fun m => [(1, .ptr H.next 0), (2, .ptr (H.next + 1) 0), (3, nA m)]) (fun m H' => (∃ T, HF H [] T [(H.next + 1, .cells [.bool false, .nils] none), (H.next, .cells [.bool false, X] none)] H') ∧ cutZ d m) (fun m => m) d.length (.cons rfl <| .cons rfl <| .cons rfl <| .nil _) ⟨⟨_, hF2.up rfl (by simp only [next_bump]; omega)⟩, Nat.le_refl _, by rw [List.take_length]⟩ (by show d.length < fuel; omega) ?_
  rintro m H3 ⟨⟨T, hF3⟩, hc⟩
  have hm := hc.1
  have hb3 := hF3.base
  have hle3 := hF3.le
  clear hF hF1 hF2
  repeat' (first | refine WK.seq ?_ | refine WK.skip ?_ | refine WK.exit ?_ | refine WK.block ?_ | (apply WK.reg; (· exact lnn)) | (apply WKO.bsO; (· rfl); (· rfl); (· assumption); (· rfl); (· exact nxx); (· exact nxx); (· exact nxx); intro _ _ _) | refine WKO.nil ?_ | ((first | apply WKO.op | ((first | apply WKO.gop); (· rfl); (· exact dcd))); (· first | exact k_mv rfl | exact k_iaE rfl rfl hrd (by omega) | exact k_ldR rfl hrd (fun i hi => hF3.fr i (hrd.own_lt hi) (by simp)) (by omega) | exact k_subN rfl rfl (by omega) (by omega) | exact k_eqlN rfl rfl | (apply k_ldO; (· rfl); (· assumption); (· rfl); (· exact mmb); (· rfl)) | exact k_faddr rfl | exact opA); (· rfl)) | ((first | apply WKO.gnoT); (· rfl); (· exact dcd)) | ((first | apply WKO.gsp); (· rfl); all_goals ((fail_if_success (refine known ?_ ?_; (· assumption))); intro _)) | refine pN ?_ | refine pX ?_ | refine bN ?_ | refine bX ?_ | (apply WK.condF; (· rfl); (· exact dcd)) | (apply WK.condD; (· rfl); all_goals intro _) | fail)
  · rename_i h1 h2
    refine ⟨m - 1, (.cons rfl <| .cons rfl <| .cons rfl <| .nil _), ⟨⟨T, hF3.up rfl (by simp only [next_bump]; omega)⟩, cutZ_next (n := m - 1) (by rwa [Nat.sub_add_cancel h1]) h2⟩, by omega⟩
  all_goals
    rename_i H5 hF5 hn5
    have hn : m = 0 ∨ d.getD (m - 1) 0 ≠ 0 := by first | exact .inr (by assumption) | exact .inl (by omega)
    have hq := cutZ_done hd hc hn
    refine WKO.cutF rfl rfl hX hm (Nat.le_trans hF5.base hF5.le) (fun i hi => hF5.fr i (hrd.own_lt hi) (by simp)) ?_
    intro Y c2 c3
    have hE5 : RowE 1 H5 (.sl (H3.bump 11).next 0 0 0) 0 [] := .inr ⟨rfl, rfl, _, rfl, by simp only [next_bump] at hn5 ⊢; omega, hF5.obj _ (.head _)⟩
    obtain ⟨v6, H6, a1, a2, a3, a4, a5⟩ := RowE.app0 (bytes := 8) hE5 (by omega) (by omega) (by decide) c2 c3 (by simp; omega) (map_one _)
    refine WKO.op (k_appF rfl rfl a1) rfl ?_
    have hb5 := hF5.base
    have hF6 := ((hF5.sub (gs := [(H.next + 1, .cells [.bool false, .nils] none), (H.next, .cells [.bool false, X] none)]) (.cons _ (.refl _)) (Nat.le_refl _) hF5.le).call (H' := H6) (mod' := [(H3.bump 11).next]) (fun k hk hmem => a4 k hk (by
      simp only [AV.own, ne_eq, Option.some.injEq]
      intro e
      exact hmem (by rw [e]; exact .head _))) a3 (fun k hk => .inr (by
      simp only [List.mem_singleton] at hk
      rw [hk]
      simp only [next_bump]
      omega)) (fun p hp => by
      have hT := hF3.lt p (by simpa using hp)
      simp only [List.mem_singleton, next_bump]
      omega))
    have ho := a2.one
    have hu : (dz (valZ d)).length ≤ d.length := by rw [← hq, List.length_take]; omega
    rw [hq] at a2
    have hF7 : HF H6 [H.next, H.next + 1] H6.next [(H.next + 1, .cells [.bool false, .nils] none), (H.next, .cells [.bool false, X] none)] H6 := ⟨hF6.obj, fun p hp => Nat.lt_of_lt_of_le (hF6.lt p hp) hF6.le, hF6.nd, Nat.le_refl _, Nat.le_refl _, fun _ _ _ => rfl⟩
    have hT2 := hF3.lt _ (.head _)
    simp only at hT2
    have hown : ∀ i, v6.own = some i → i ∉ [H.next, H.next + 1] := fun i hi hmem => by
      simp only [List.mem_cons, List.not_mem_nil, or_false] at hmem
      simp only [next_bump] at hn5
      rcases a5 i hi with q | q
      · simp only [AV.own, Option.some.injEq, next_bump] at q
        omega
      · omega
    have hfr6 : ∀ q, q < H.next → H6.get q = H.get q := fun q hq => hF6.fr q hq (by simp)
    have hge6 : H.next ≤ H6.next := Nat.le_trans hF6.base hF6.le
    have hown2 : ∀ q, v6.own = some q → H.next ≤ q := fun q hq => by
      simp only [next_bump] at hn5
      rcases a5 q hq with r | r
      · simp only [AV.own, Option.some.injEq, next_bump] at r
        omega
      · omega
    clear hF5 hF6
    repeat' (first | refine WK.seq ?_ | refine WK.ret ?_ | (apply WK.reg; (· exact lnn)) | ((apply WKO.c1; (· rfl); (· rfl); (· first | exact ho | rfl); (· assumption); (· rfl); (· exact nxx); (· exact .inl (by simp)); (· simp); intro _ _ _)) | ((apply WKO.p0; (· rfl); (· rfl); (· first | rfl); (· first | exact ho); (· assumption); (· rfl); (· exact nxx); (· exact .inl (by simp)); intro _ _ _)) | refine WKO.nil ?_ | ((first | apply WKO.op); (· first | exact k_mv rfl | (apply k_ldO; (· rfl); (· assumption); (· rfl); (· exact mmb); (· rfl)) | (apply k_ldA; (· rfl); (· assumption); (· rfl); (· exact mmb); (· first | rfl)) | exact k_faddr rfl | exact opA); (· rfl)) | ((first | apply WKO.gnoT); (· rfl); (· exact dcd)) | refine pN ?_ | fail)
    rename_i H9 hF9 hn9
    rw [Nat.zero_add, List.nil_append] at a2
    have hmd : m = (dz (valZ d)).length := by rw [← hq, List.length_take]; omega
    rw [hmd] at a2
    exact ⟨fun id q => (by cases q), _, resK_obj rfl (hF9.obj _ (.head _)) rfl, v6, rfl, a2.frame (Nat.le_trans hF9.base hF9.le) (fun i hi => hF9.fr i (a2.own_lt hi) (hown i hi)), fun q hq => (hF9.fr q (by omega) (by simp only [List.mem_cons, List.not_mem_nil, or_false]; omega)).trans (hfr6 q hq), Nat.le_trans hge6 (Nat.le_trans hF9.base hF9.le), hown2⟩
end Go.Proofs.YtfcgofffalmdfaaGreatDoor.PA
namespace Go.Proofs.YtfcgofffalmdfaaGreatDoor.PA
theorem getZ_none {l : List Nat} {i : Nat} (h : ¬ i < l.length) : l.getD i 0 = 0 := by rw [List.getD_eq_getElem?_getD, List.getElem?_eq_none (by omega)]; rfl
theorem valZ_drop (l : List Nat) (i : Nat) : valZ (l.drop i) = l.getD i 0 + BZ * valZ (l.drop (i + 1)) := by
  by_cases h : i < l.length
  · rw [List.drop_eq_getElem_cons h, valZ, List.getD_eq_getElem?_getD, List.getElem?_eq_getElem h]
    rfl
  · rw [List.drop_eq_nil_of_le (by omega), List.drop_eq_nil_of_le (by omega), getZ_none h]
    rfl
theorem digZ_get {l : List Nat} (h : digZ l) (i : Nat) : l.getD i 0 < BZ := by
  rw [List.getD_eq_getElem?_getD]
  cases e : l[i]? with
  | none => exact (by decide : 0 < BZ)
  | some v => exact h v (List.mem_of_getElem? e)
theorem digZ_snoc {l : List Nat} {w : Nat} (h : digZ l) (hw : w < BZ) : digZ (l ++ [w]) := by
  intro x hx
  rcases List.mem_append.1 hx with q | q
  · exact h x q
  · rw [List.mem_singleton.1 q]; exact hw
theorem digZ_nil : digZ [] := fun x hx => by cases hx
structure AddZ (a b : List Nat) (i c : Nat) (o : List Nat) : Prop where
  v : valZ o + BZ ^ i * (c + valZ (a.drop i) + valZ (b.drop i)) = valZ a + valZ b
  l : o.length = i
  d : digZ o
  c1 : c ≤ 1
  m : i ≤ max a.length b.length + 1
  e : i = max a.length b.length + 1 → c = 0
theorem AddZ.zero (a b : List Nat) : AddZ a b 0 0 [] := ⟨by simp [valZ], rfl, digZ_nil, by omega, by omega, fun _ => rfl⟩
theorem AddZ.next {a b : List Nat} {i c s : Nat} {o : List Nat} (ha : digZ a) (hb : digZ b) (h : AddZ a b i c o) (hi : i < a.length ∨ i < b.length ∨ 0 < c) (hs : s = c + a.getD i 0 + b.getD i 0) : AddZ a b (i + 1) (s / 10000) (o ++ [s % 10000]) := by
  obtain ⟨v, l, d, c1, m, e⟩ := h
  have h1 := digZ_get ha i
  have h2 := digZ_get hb i
  have hB : BZ = 10000 := rfl
  rw [hB] at h1 h2
  refine ⟨?_, by simp [l], digZ_snoc d (Nat.mod_lt _ (by decide)), by omega, by omega, fun q => ?_⟩
  · rw [valZ_snoc, l, ← v, valZ_drop a i, valZ_drop b i, Nat.pow_succ, Nat.mul_assoc, Nat.add_assoc, ← Nat.mul_add]
    congr 2
    have := Nat.mod_add_div s 10000
    rw [hB, Nat.mul_add, Nat.mul_add]
    omega
  · have h3 : ¬ i < a.length := by omega
    have h4 : ¬ i < b.length := by omega
    rw [getZ_none h3, getZ_none h4] at hs
    omega
theorem AddZ.done {a b : List Nat} {i c : Nat} {o : List Nat} (h : AddZ a b i c o) (h1 : ¬ i < a.length) (h2 : ¬ i < b.length) (h3 : ¬ 0 < c) : valZ o = valZ a + valZ b := by
  have := h.v
  rw [List.drop_eq_nil_of_le (by omega), List.drop_eq_nil_of_le (by omega), show c = 0 by omega] at this
  simpa [valZ] using this
structure SubZ (a b : List Nat) (i w : Nat) (o : List Nat) : Prop where
  v : valZ (a.take i) + w * BZ ^ i = valZ o + valZ (b.take i)
  l : o.length = i
  d : digZ o
  w1 : w ≤ 1
theorem SubZ.zero (a b : List Nat) : SubZ a b 0 0 [] := ⟨by simp [valZ], rfl, digZ_nil, by omega⟩
theorem valZ_take' (l : List Nat) (i : Nat) : valZ (l.take (i + 1)) = valZ (l.take i) + BZ ^ i * l.getD i 0 := by
  by_cases h : i < l.length
  · exact valZ_take l h
  · rw [List.take_of_length_le (by omega), List.take_of_length_le (by omega), getZ_none h, Nat.mul_zero, Nat.add_zero]
theorem SubZ.next {a b : List Nat} {i w x w' : Nat} {o : List Nat} (h : SubZ a b i w o) (hx : x < BZ) (hw : w' ≤ 1) (hs : a.getD i 0 + w' * BZ = x + w + b.getD i 0) : SubZ a b (i + 1) w' (o ++ [x]) := by
  obtain ⟨v, l, d, w1⟩ := h
  refine ⟨?_, by simp [l], digZ_snoc d hx, hw⟩
  rw [valZ_snoc, l, valZ_take', valZ_take', Nat.pow_succ]
  have h1 := congrArg (BZ ^ i * ·) hs
  simp only [Nat.mul_add] at h1
  have e1 : BZ ^ i * (w' * BZ) = w' * (BZ ^ i * BZ) := by rw [Nat.mul_left_comm]
  have e2 : BZ ^ i * w = w * BZ ^ i := Nat.mul_comm _ _
  omega
theorem SubZ.done {a b : List Nat} {i w : Nat} {o : List Nat} (h : SubZ a b i w o) (hi : i = a.length) (hb : b.length ≤ a.length) (hv : valZ b ≤ valZ a) : valZ o = valZ a - valZ b := by
  have v := h.v
  have hl := valZ_lt h.d
  rw [h.l] at hl
  rw [List.take_of_length_le (by omega), List.take_of_length_le (by omega)] at v
  have hw := h.w1
  by_cases q : w = 0
  · subst q; omega
  · have : w = 1 := by omega
    subst this
    omega
end Go.Proofs.YtfcgofffalmdfaaGreatDoor.PA
namespace Go.Proofs.YtfcgofffalmdfaaGreatDoor.PA
end Go.Proofs.YtfcgofffalmdfaaGreatDoor.PA
namespace Go.Proofs.YtfcgofffalmdfaaGreatDoor.PA
open Go Go.Eng Go.Proofs
theorem lean_call {d : List Nat} (hd : digZ d) (hl : d.length < 2000) (H : AHeap) : CallOK Tryz.prog 83 [.agg [.bool false, rowZ d]] H (zN (valZ d)) H := by
  obtain ⟨v, H', h, u, rfl, hR, _⟩ := lean_ok (cf := xcallK Kno F 3000 0) (fuel := 3000) (H := ⟨.e, 0⟩) (X := rowZ d) (.inl rfl) hd (by omega) (by omega)
  have h2 := xcallK_sound mixed Kno_ok F_ok 3000 1 83 _ _ _ _ ((cfstep rfl rfl).trans h)
  refine h2.pure (by simp only [AV.frozL, AV.froz, rowZ_froz, Bool.and_self]) (.agg rfl (fun j x y hx hy => ?_))
  match j, hx, hy with
  | 0, hx, hy => cases hx; cases hy; exact .bool _
  | 1, hx, hy => cases hx; cases hy; exact rowZ_fz hR (fun i _ => get_e0 i)
section
variable {cf : CF} {n a b : Nat} {z : Int} {H : AHeap} {l : KL0} {x y : XO}
end
set_option maxHeartbeats 4000000 in
theorem plusZ_ok {cf : CF} {fuel : Nat} {H : AHeap} {a b : List Nat} (ha : digZ a) (hb : digZ b) (hla : a.length < 1000) (hlb : b.length < 1000) (hf : 1100 < fuel) :
    ∃ v H', xfunc cf fuel L103 [rowZ a, rowZ b] H = some (v, H') ∧ ∃ o, RowE 1 H' v o.length (o.map nA) ∧ digZ o ∧ valZ o = valZ a + valZ b ∧ o.length < 2000 := by
  refine xfunc_ofK rfl (by show 2 ≤ 55; omega) ?_
  unfold L103
  dsimp only
  repeat' (first | refine WK.seq ?_ | (apply WK.reg; (· exact lnn)) | refine WKO.nil ?_ | ((first | apply WKO.op); (· first | exact k_mv rfl); (· rfl)) | refine pN ?_ | fail)
  refine WKO.bsZ (z' := 1) nxx ?_
  intro H1 hR1 hn1 _
  repeat' (first | refine WK.seq ?_ | refine WK.block ?_ | (apply WK.reg; (· exact lnn)) | refine WKO.nil ?_ | ((first | apply WKO.op); (· first | exact k_mv rfl); (· rfl)) | refine pN ?_ | fail)
  refine WK.loop (α := Nat × Nat × List Nat × AV) (fun s => [(0, rowZ a), (1, rowZ b), (5, s.2.2.2), (6, nA s.2.1), (7, nA s.1)]) (fun s H' => RowE 1 H' s.2.2.2 s.1 (s.2.2.1.map nA) ∧ AddZ a b s.1 s.2.1 s.2.2.1) (fun s => max a.length b.length + 1 - s.1) (0, 0, [], .sl (H.bump 1).next 0 0 0) ?_ ⟨hR1.frame (by simp only [next_bump]; omega) (fun _ _ => rfl), AddZ.zero a b⟩ (by show max a.length b.length + 1 - 0 < fuel; omega) ?_
  · exact .cons rfl <| .cons rfl <| .cons rfl <| .cons rfl <| .cons rfl <| .nil _
  · rintro ⟨i, c, o, u⟩ H3 ⟨hR, hA⟩
    simp only at hR hA ⊢
    have h1 := digZ_get ha i
    have h2 := digZ_get hb i
    have hB : BZ = 10000 := rfl
    rw [hB] at h1 h2
    have hm := hA.m
    have hc := hA.c1
    have he := hA.e
    repeat' (first | refine WK.seq ?_ | refine WK.skip ?_ | refine WK.exit ?_ | refine WK.block ?_ | (apply WK.reg; (· exact lnn)) | refine WKO.nil ?_ | ((first | apply WKO.op | ((first | apply WKO.gop); (· rfl); (· exact dcd))); (· first | exact k_mv rfl | exact k_lenZ rfl | exact k_iaZ rfl rfl (by omega) | exact k_ldZ rfl (by omega) | exact k_remN rfl rfl (by decide) | exact opA); (· rfl)) | ((first | apply WKO.gnoF); (· rfl); (· exact dcd)) | ((first | apply WKO.gsp); (· rfl); all_goals ((fail_if_success (refine known ?_ ?_; (· assumption))); intro _)) | refine pN ?_ | refine pX ?_ | refine bX ?_ | (apply WK.condT; (· rfl); (· exact dcd)) | (apply WK.condF; (· rfl); (· exact dcd)) | (apply WK.condD; (· rfl); all_goals intro _) | fail)
    rotate_left 4
    · refine ⟨fun _ => ?_, fun q => absurd rfl q⟩
      repeat' (first | refine WK.seq ?_ | refine WK.ret ?_ | (apply WK.reg; (· exact lnn)) | refine WKO.nil ?_ | ((first | apply WKO.op); (· first | exact k_mv rfl); (· rfl)) | refine pN ?_ | fail)
      exact ⟨fun id q => (by cases q), _, rfl, o, by rw [hA.l]; exact hR.frame (by simp only [next_bump]; omega) (fun _ _ => rfl), hA.d, hA.done (by assumption) (by assumption) (by omega), by rw [hA.l]; omega⟩
    all_goals
      refine WKO.ap1b (H := H3) (v := u) (m := i) (cs := o.map nA) hR (by decide) rfl (by simp only [next_bump]; omega) (by simp only [next_bump]; omega) (by omega) rfl rfl rfl rfl ?_
      intro u4 H4 hR4 hn4
      repeat' (first | (apply WK.reg; (· exact lnn)) | refine WKO.nil ?_ | ((first | apply WKO.op); (· first | exact k_mv rfl | exact k_quoN rfl rfl (by decide) (by omega) | exact opA); (· rfl)) | refine pN ?_ | refine bN ?_ | fail)
      refine ⟨(i + 1, _, o ++ [_], u4), (.cons rfl <| .cons rfl <| .cons rfl <| .cons rfl <| .cons rfl <| .nil _), ⟨by simpa using hR4.frame (H' := (H4.bump 3)) (by simp only [next_bump]; omega) (fun _ _ => rfl), hA.next ha hb (by omega) (by first | rfl | (have q1 := getZ_none (l := a) (i := i) (by assumption); have q2 := getZ_none (l := b) (i := i) (by assumption); omega) | (have q1 := getZ_none (l := a) (i := i) (by assumption); omega) | (have q2 := getZ_none (l := b) (i := i) (by assumption); omega))⟩, by show max a.length b.length + 1 - (i + 1) < max a.length b.length + 1 - i; omega⟩
end Go.Proofs.YtfcgofffalmdfaaGreatDoor.PA
namespace Go.Proofs.YtfcgofffalmdfaaGreatDoor.PA
open Go Go.Eng Go.Proofs
def cmpI (m n : Nat) : Int := if m < n then -1 else if m = n then 0 else 1
abbrev negZ (n : Nat) : AV := .agg [.bool (decide ((dz n).length > 0)), rowZ (dz n)]
abbrev qN (n : Nat) : AV := .agg [.bool false, rowZ (dz n), .bool false, rowZ (dz 1)]
abbrev fN (n d : Nat) : AV := .agg [.bool false, rowZ (dz n), .bool false, rowZ (dz d)]
def qC (l : List Nat) : List AV := (l.map fun n => [AV.bool false, rowZ (dz n), .bool false, rowZ (dz 1)]).flatten
def rowQ (l : List Nat) : AV := .imm (qC l) l.length false
def BestV (s : List UInt8) (l : List (Int × Int)) (gap : Int) : List UInt8 × Int := if readE s l gap = 0 then (decS ((szF s (rulesOf l) gap 0 s.length).getD (mostF s (rulesOf l) gap 0 s.length) 0), 0) else ([], readE s l gap)
def SZ (f : Nat) (args : List AV) (v : AV) : Prop := match f with
  | 83 => ∀ d, args = [.agg [.bool false, rowZ d]] → v = zN (valZ d)
  | 103 => ∀ a b, args = [rowZ a, rowZ b] → ∃ o, v = rowZ o ∧ digZ o ∧ valZ o = valZ a + valZ b ∧ o.length < 2000
  | 85 => ∀ a b, args = [rowZ a, rowZ b] → ∃ o, v = rowZ o ∧ digZ o ∧ valZ o = valZ a - valZ b ∧ o.length < 2000
  | 82 => ∀ m n, args = [rowZ (dz m), rowZ (dz n)] → v = zA (cmpI m n)
  | 108 => ∀ n, args = [zN n] → v = negZ n
  | 66 => (∀ m n, args = [zN m, zN n] → v = zN (m + n)) ∧ (∀ m n, 0 < n → args = [zN m, negZ n] → v = zN (m - n))
  | 86 => ∀ m n, args = [zN m, zN n] → v = zN (m - n)
  | 72 => ∀ m n, args = [zN m, zN n] → v = zN (m * n)
  | 52 => ∀ n, args = [nA n] → v = zN n
  | 109 => ∀ n, args = [zN n] → v = nA (min n 1)
  | 71 => ∀ m n, args = [zN m, zN n] → v = nA (min (m - n) 1)
  | 107 => ∀ n, args = [.str (decS n)] → v = .tup [zN n, .bool true]
  | 70 => ∀ n, args = [.str (decS n)] → v = .tup [qN n, .bool true]
  | 28 => ∀ m n, args = [qN m, qN n] → v = nA (min (m - n) 1)
  | 30 => ∀ m n p q, args = [fN m n, fN p q] → v = fN (m * p) (n * q)
  | 84 => ∀ m n, args = [rowZ (dz m), nA n] → v = rowZ (dz (m * n))
  | 45 => ∀ m n, args = [zN m, zN n] → v = .tup [zN (m / n), zN (m % n)]
  | 88 => ∀ n, args = [zN n] → v = zN n
  | 73 => ∀ m n, args = [zN m, zN n] → v = zN (Nat.gcd m n)
  | 33 => ∀ m n, args = [fN m n] → v = fN (m / Nat.gcd m n) (n / Nat.gcd m n)
  | 40 => ∀ m n, args = [qN m, qN n] → v = qN (m + n)
  | 32 => ∀ n, args = [nA n] → v = qN n
  | 22 => ∀ n, args = [zN n] → v = qN n
  | 74 => ∀ m n, args = [zN m, zN n] → v = fN m n
  | 34 => ∀ m n, args = [nA m, nA n] → v = fN (m / Nat.gcd m n) (n / Nat.gcd m n)
  | 87 => ∀ n, args = [zN n] → v = .str (decS n)
  | 46 => ∀ n, args = [qN n] → v = .tup [.str (decS n), .bool true]
  | 21 => ∀ s n, args = [.str s, qN n] → v = .bool (decide (s = decS n))
  | 35 => ∀ s l gap, args = [.str s, pairsI l, .int .i64 gap] → v = .tup [.str (BestV s l gap).1, .int .i64 (BestV s l gap).2]
  | 53 => ∀ s l gap i j, args = [.str s, pairsI l, .int .i64 gap, nA i, nA j] → v = .bool (mayF s (rulesOf l) gap i j)
  | 15 => ∀ s l gap, args = [.str s, pairsI l, .int .i64 gap] → v = .int .i64 (readE s l gap)
  | 39 => ∀ l, args = [strI l] → v = .int .i64 0
  | 38 => ∀ l m, args = [strI l, rowQ m] → v = .bool (decide (l = m))
  | 27 => ∀ n, args = [.str (decS n)] → v = .bool true
  | 29 => ∀ n, args = [.str (decS n)] → v = qN n
  | _ => False
open Classical in
noncomputable def KE : CF := fun f args H => if h : ∃ v, CallOK Tryz.prog f args H v H ∧ SZ f args v then some (h.choose, H) else none
theorem KE_ok : CFok Tryz.prog KE := by
  intro f args H v H' h
  unfold KE at h
  split at h
  · rename_i q
    cases h
    exact q.choose_spec.1
  · cases h
theorem KE_hit {f : Nat} {args : List AV} {H : AHeap} {v : AV} (h : CallOK Tryz.prog f args H v H) (hs : SZ f args v) : ∃ v', KE f args H = some (v', H) ∧ SZ f args v' := by
  have q : ∃ v, CallOK Tryz.prog f args H v H ∧ SZ f args v := ⟨v, h, hs⟩
  exact ⟨_, (by unfold KE; rw [dif_pos q]), q.choose_spec.2⟩
attribute [irreducible] KE
theorem zN_inj {m n : Nat} (h : zN m = zN n) : m = n := by
  simp only [zN, AV.agg.injEq, List.cons.injEq, true_and, and_true] at h
  exact dz_inj (rowZ_inj h)
theorem E83 {d : List Nat} (hd : digZ d) (hl : d.length < 2000) (H : AHeap) : KE 83 [.agg [.bool false, rowZ d]] H = some (zN (valZ d), H) := by
  obtain ⟨v, h1, h2⟩ := KE_hit (lean_call hd hl H) (fun d' e => by
    simp only [List.cons.injEq, AV.agg.injEq, true_and, and_true] at e
    rw [rowZ_inj e])
  rw [h1, h2 d rfl]
theorem frozZ2 (a b : List Nat) : AV.frozL [rowZ a, rowZ b] = true := by simp only [AV.frozL, rowZ_froz, Bool.and_self]
theorem E103 {a b : List Nat} (ha : digZ a) (hb : digZ b) (hla : a.length < 900) (hlb : b.length < 900) (H : AHeap) : ∃ o, KE 103 [rowZ a, rowZ b] H = some (rowZ o, H) ∧ digZ o ∧ valZ o = valZ a + valZ b ∧ o.length < 2000 := by
  obtain ⟨v, H', h, o, h1, h2, h3, h4⟩ := plusZ_ok (cf := xcallK Kno F 2000 0) (fuel := 2000) (H := ⟨.e, 0⟩) ha hb (by omega) (by omega) (by omega)
  have hc := (xcallK_sound mixed Kno_ok F_ok 2000 1 103 _ _ _ _ ((cfstep rfl rfl).trans h)).pure (H := H) (frozZ2 a b) (rowZ_fz h1 (fun i _ => get_e0 i))
  obtain ⟨v', q1, q2⟩ := KE_hit hc (fun a' b' e => by
    simp only [List.cons.injEq, and_true] at e
    rw [← rowZ_inj e.1, ← rowZ_inj e.2]
    exact ⟨o, rfl, h2, h3, h4⟩)
  obtain ⟨o', rfl, r1, r2, r3⟩ := q2 a b rfl
  exact ⟨o', q1, r1, r2, r3⟩
end Go.Proofs.YtfcgofffalmdfaaGreatDoor.PA
namespace Go.Proofs.YtfcgofffalmdfaaGreatDoor.PA
open Go Go.Eng Go.Proofs
theorem add_walkP {m n : Nat} (hm : (dz m).length < 800) (hn : (dz n).length < 800) : ∃ v H', xfunc (xcallK KE F 2000 0) 2000 L66 [zN m, zN n] ⟨.e, 0⟩ = some (v, H') ∧ v = zN (m + n) := by
  refine xfunc_ofK rfl (by show 2 ≤ 43; omega) ?_
  have hF := HF.start ⟨.e, 0⟩
  generalize (⟨.e, 0⟩ : AHeap) = H at hF ⊢
  unfold L66
  dsimp only
  repeat' (first | refine WK.seq ?_ | (apply WK.reg; (· exact lnn)) | (apply WKO.boxO; (· rfl); (· assumption); (· rfl); (· exact nxx); (· exact nxx); (· exact nxx); intro _ _ _) | (apply WKO.alO; (· assumption); (· rfl); (· exact nxx); (· exact nxx); (· exact nxx); intro _ _ _) | refine WKO.nil ?_ | ((first | apply WKO.op); (· first | exact k_eqB rfl rfl | (apply k_ldO; (· rfl); (· assumption); (· rfl); (· exact mmb); (· rfl)) | exact k_faddr rfl); (· rfl)) | refine pN ?_ | (apply WK.condT; (· rfl); (· exact dcd)) | fail)
  rename_i H1 hF1 hn1 H2 hF2 hn2 H3 hF3 hn3
  obtain ⟨o, e1, e2, e3, e4⟩ := E103 (digZ_dz m) (digZ_dz n) (by omega) (by omega) ((H3.bump 5).bump (9 + 1))
  rw [valZ_dz, valZ_dz] at e3
  refine WK.regC1 9 rfl rfl rfl ?_
  dsimp only [List.take_succ_cons, List.take_zero]
  repeat' (first | refine WK.ret ?_ | (apply WKO.stO0; (· rfl); (· rfl); (· assumption); (· rfl); (· exact nxx); (· first | exact .inr nxx); (· rfl); (· rfl); (· first | decide); intro _ _ _) | refine WKC.nil ?_ | refine WKO.nil ?_ | ((first | apply WKC.op); (· first | (apply k_call; (· rfl); (· rfl); (· exact cfhit e1)) | (apply k_call; (· rfl); (· rfl); (· exact cfhit (E83 e2 e4 _))) | (apply k_ldO; (· rfl); (· assumption); (· rfl); (· exact mmb); (· rfl)) | exact k_faddr rfl | exact opA); (· rfl)) | refine pN ?_ | refine pR ?_ | fail)
  repeat' (first | fail)
  rename_i H9 hF9 hn9
  exact ⟨fun id q => (by cases q), _, resK_obj rfl (hF9.obj _ (.head _)) rfl, by rw [e3]; rfl⟩
theorem negZ_eq {n : Nat} (h : 0 < n) : negZ n = .agg [.bool true, rowZ (dz n)] := by
  unfold negZ
  have := @dz_nil n
  rw [decide_eq_true (by omega)]
theorem SZ66P {m n : Nat} : SZ 66 [zN m, zN n] (zN (m + n)) := by
  refine ⟨fun m' n' e => ?_, fun m' n' h0 e => ?_⟩
  · simp only [List.cons.injEq, and_true] at e
    rw [zN_inj e.1, zN_inj e.2]
  · rw [negZ_eq h0] at e
    simp [zN] at e
theorem E66 {m n : Nat} (hm : (dz m).length < 800) (hn : (dz n).length < 800) (H : AHeap) : KE 66 [zN m, zN n] H = some (zN (m + n), H) := by
  obtain ⟨v, H', h, rfl⟩ := add_walkP hm hn
  have hc := (xfunc_sound mixed (xcallK_sound mixed KE_ok F_ok 2000 0) 2000 (F_ok 66 L66 rfl) h).pure (H := H) (by simp only [AV.frozL, zN_froz, Bool.and_self]) (Fz.froz (zN_froz _))
  obtain ⟨v', q1, q2⟩ := KE_hit hc SZ66P
  rw [q1, q2.1 m n rfl]
theorem sign_walk (n : Nat) : ∃ v H', xfunc (xcallK KE F 2000 0) 2000 L109 [zN n] ⟨.e, 0⟩ = some (v, H') ∧ v = nA (min n 1) := by
  refine xfunc_ofK rfl (by show 1 ≤ 9; omega) ?_
  have hF := HF.start ⟨.e, 0⟩
  generalize (⟨.e, 0⟩ : AHeap) = H at hF ⊢
  have hnil := @dz_nil n
  unfold L109
  dsimp only
  repeat' (first | refine WK.seq ?_ | refine WK.skip ?_ | refine WK.ret ?_ | (apply WK.reg; (· exact lnn)) | (apply WKO.boxO; (· rfl); (· assumption); (· rfl); (· exact nxx); (· exact nxx); (· exact nxx); intro _ _ _) | refine WKO.nil ?_ | ((first | apply WKO.op); (· first | exact k_mv rfl | exact k_lenZ rfl | (apply k_ldO; (· rfl); (· assumption); (· rfl); (· exact mmb); (· rfl)) | exact k_faddr rfl | exact opA); (· rfl)) | refine pN ?_ | refine pR ?_ | (apply WK.condF; (· rfl); (· exact dcd)) | (apply WK.condD; (· rfl); all_goals intro _) | fail)
  · exact ⟨fun id q => (by cases q), _, rfl, by rw [show min n 1 = 0 by omega]; rfl⟩
  · exact ⟨fun id q => (by cases q), _, rfl, by rw [show min n 1 = 1 by omega]; rfl⟩
theorem E109 (n : Nat) (H : AHeap) : KE 109 [zN n] H = some (nA (min n 1), H) := by
  obtain ⟨v, H', h, rfl⟩ := sign_walk n
  have hc := (xfunc_sound mixed (xcallK_sound mixed KE_ok F_ok 2000 0) 2000 (F_ok 109 L109 rfl) h).pure (H := H) (by simp only [AV.frozL, zN_froz, Bool.and_self]) (Fz.froz rfl)
  obtain ⟨v', q1, q2⟩ := KE_hit hc (fun n' e => by
    simp only [List.cons.injEq, and_true] at e
    rw [zN_inj e])
  rw [q1, q2 n rfl]
end Go.Proofs.YtfcgofffalmdfaaGreatDoor.PA
namespace Go.Proofs.YtfcgofffalmdfaaGreatDoor.PA
theorem getZ_set (N : List Nat) (i w p : Nat) (hi : i < N.length) : (N.set i w).getD p 0 = if p = i then w else N.getD p 0 := by
  rw [List.getD_eq_getElem?_getD, List.getD_eq_getElem?_getD, List.getElem?_set]
  by_cases h : i = p
  · subst h
    simp [hi]
  · rw [if_neg h, if_neg (fun q => h q.symm)]
theorem digZ_set {l : List Nat} (h : digZ l) (p : Nat) {w : Nat} (hw : w < BZ) : digZ (l.set p w) := by
  intro x hx
  rcases List.mem_or_eq_of_mem_set hx with q | q
  · exact h x q
  · rw [q]; exact hw
structure MulO (a b : List Nat) (i : Nat) (N : List Nat) : Prop where
  v : valZ N = valZ (a.take i) * valZ b
  l : N.length = a.length + b.length + 1
  d : digZ N
  z : ∀ j, i + b.length ≤ j → N.getD j 0 = 0
structure MulI (a b : List Nat) (i k c : Nat) (N : List Nat) : Prop where
  v : valZ N + BZ ^ (i + k) * c = valZ (a.take i) * valZ b + BZ ^ i * (a.getD i 0 * valZ (b.take k))
  l : N.length = a.length + b.length + 1
  d : digZ N
  c1 : c < BZ
  k1 : k ≤ b.length + 1
  z : ∀ j, i + max k b.length ≤ j → N.getD j 0 = 0
  e : k = b.length + 1 → c = 0
theorem MulO.zero (a b : List Nat) : MulO a b 0 (List.replicate (a.length + b.length + 1) 0) := by
  refine ⟨by rw [valZ_zeros, List.take_zero, valZ, Nat.zero_mul], by simp, fun x hx => by rw [List.eq_of_mem_replicate hx]; decide, fun j _ => ?_⟩
  rw [List.getD_eq_getElem?_getD, List.getElem?_replicate]
  split <;> rfl
theorem MulO.row {a b : List Nat} {i : Nat} {N : List Nat} (h : MulO a b i N) : MulI a b i 0 0 N :=
  ⟨by rw [h.v, List.take_zero, valZ, Nat.mul_zero, Nat.mul_zero, Nat.mul_zero], h.l, h.d, by decide, by omega, fun j hj => h.z j (by omega), fun _ => rfl⟩
theorem MulI.step {a b : List Nat} {i k c s : Nat} {N : List Nat} (ha : digZ a) (hb : digZ b) (h : MulI a b i k c N) (hk : k < b.length) (hi : i < a.length) (hs : s = N.getD (i + k) 0 + c + a.getD i 0 * b.getD k 0) : MulI a b i (k + 1) (s / 10000) (N.set (i + k) (s % 10000)) ∧ s < 100000000 := by
  have h1 := digZ_get ha i
  have h2 := digZ_get hb k
  have h3 := digZ_get h.d (i + k)
  have h4 := h.c1
  have hB : BZ = 10000 := rfl
  rw [hB] at h1 h2 h3 h4
  have h5 : a.getD i 0 * b.getD k 0 ≤ 9999 * 9999 := Nat.mul_le_mul (by omega) (by omega)
  have hs2 : s < 100000000 := by omega
  refine ⟨⟨?_, by rw [List.length_set]; exact h.l, digZ_set h.d _ (Nat.mod_lt _ (by decide)), by rw [hB]; omega, by omega, fun j hj => ?_, fun q => by omega⟩, hs2⟩
  · have e1 := valZ_set N (i + k) (s % 10000) (by have := h.l; omega)
    have e2 := h.v
    have e3 := Nat.mod_add_div s 10000
    have e4 : BZ ^ (i + (k + 1)) * (s / 10000) = BZ ^ (i + k) * (10000 * (s / 10000)) := by rw [← Nat.add_assoc, Nat.pow_succ, Nat.mul_assoc, hB]
    have e5 : BZ ^ (i + k) * (s % 10000) + BZ ^ (i + k) * (10000 * (s / 10000)) = BZ ^ (i + k) * N.getD (i + k) 0 + BZ ^ (i + k) * c + BZ ^ (i + k) * (a.getD i 0 * b.getD k 0) := by
      rw [← Nat.mul_add, e3, hs, Nat.mul_add, Nat.mul_add]
    have e6 : BZ ^ i * (a.getD i 0 * valZ (b.take (k + 1))) = BZ ^ i * (a.getD i 0 * valZ (b.take k)) + BZ ^ (i + k) * (a.getD i 0 * b.getD k 0) := by
      rw [valZ_take', Nat.mul_add, Nat.mul_add, Nat.pow_add, Nat.mul_assoc (BZ ^ i)]
      congr 2
      rw [Nat.mul_left_comm]
    rw [e4, e6]
    omega
  · rw [getZ_set _ _ _ _ (by have := h.l; omega), if_neg (by omega)]
    exact h.z j (by omega)
theorem MulI.last {a b : List Nat} {i c : Nat} {N : List Nat} (h : MulI a b i b.length c N) (hi : i < a.length) : N.getD (i + b.length) 0 = 0 ∧ MulI a b i (b.length + 1) 0 (N.set (i + b.length) c) := by
  have h0 := h.z (i + b.length) (by omega)
  refine ⟨h0, ?_, by rw [List.length_set]; exact h.l, digZ_set h.d _ h.c1, by decide, by omega, fun j hj => ?_, fun _ => rfl⟩
  · have e1 := valZ_set N (i + b.length) c (by have := h.l; omega)
    have e2 := h.v
    rw [h0, Nat.mul_zero, Nat.add_zero] at e1
    rw [Nat.mul_zero, Nat.add_zero, e1, e2, List.take_of_length_le (Nat.le_succ _), List.take_length]
  · rw [getZ_set _ _ _ _ (by have := h.l; omega), if_neg (by omega)]
    exact h.z j (by omega)
theorem MulI.done {a b : List Nat} {i k c : Nat} {N : List Nat} (h : MulI a b i k c N) (hk : ¬ k < b.length) (hc : ¬ 0 < c) : MulO a b (i + 1) N := by
  refine ⟨?_, h.l, h.d, fun j hj => h.z j (by have := h.k1; omega)⟩
  have e := h.v
  rw [show c = 0 by omega, Nat.mul_zero, Nat.add_zero, List.take_of_length_le (l := b) (i := k) (by omega)] at e
  rw [e, valZ_take', Nat.add_mul, Nat.mul_assoc]
theorem MulO.done {a b : List Nat} {i : Nat} {N : List Nat} (h : MulO a b i N) (hi : ¬ i < a.length) : valZ N = valZ a * valZ b := by
  rw [h.v, List.take_of_length_le (by omega)]
end Go.Proofs.YtfcgofffalmdfaaGreatDoor.PA
