/- What the program's functions of this chapter answer, over numbers and lists. No condition. -/
import Derived.Test.YtfcgofffalmdfaaDoorPAx0
import Derived.Test.YtfcgofffalmdfaaDoorEngC
import Derived.Test.YtfcgofffalmdfaaDoorLits
import Derived.Test.YtfcgofffalmdfaaDoorSrt
section
namespace Go.Proofs.YtfcgofffalmdfaaDoor.PA
/-- Parentheses and points from a position on: what is open, the pairs so far, how deep. -/
def scanL : List UInt8 → Nat → List Nat → List (Nat × Nat) → Nat → Option (List Nat × List (Nat × Nat) × Nat)
  | [], _, op, out, d => some (op, out, d)
  | b :: r, i, op, out, d =>
    if b = 40 then scanL r (i + 1) (op ++ [i]) out (max d (op.length + 1))
    else if b = 41 then match op.getLast? with
      | none => none
      | some a => scanL r (i + 1) op.dropLast (out ++ [(a, i)]) d
    else if b = 46 then scanL r (i + 1) op out d
    else none
def castP (p : Nat × Nat) : Int × Int := (p.1, p.2)
end Go.Proofs.YtfcgofffalmdfaaDoor.PA
end
section
set_option linter.unusedSimpArgs false
set_option linter.unusedVariables false
namespace Go.Proofs.YtfcgofffalmdfaaDoor.PA
open Go Go.Eng
def natA (n : Nat) : AV := .int .i64 (n : Int)
def pairA (l : List (Nat × Nat)) : List AV := encPairs (l.map castP)
/-- What the loop keeps. -/
structure LI (H0 : AHeap) (b r : List UInt8) (i : Nat) (op : List Nat) (out : List (Nat × Nat)) (d : Nat) (s : St) : Prop where
  rest : b.drop i = r
  le : i + r.length = b.length
  opl : op.length ≤ i
  outl : out.length ≤ i
  t0 : s.tm.get 0 = some (.str b)
  t10 : s.tm.get 10 = some (natA b.length)
  t11 : s.tm.get 11 = some (natA i)
  t7 : s.tm.get 7 = some (natA d)
  rows : ∃ v5 v6, s.tm.get 5 = some v5 ∧ s.tm.get 6 = some v6 ∧ Row 2 s.H v5 out.length (pairA out) ∧ Row 1 s.H v6 op.length (op.map natA) ∧
    (∀ j, v5.own = some j → v6.own ≠ some j ∧ H0.next ≤ j) ∧ (∀ j, v6.own = some j → H0.next ≤ j)
  nx : H0.next ≤ s.H.next
  fr : ∀ j, j < H0.next → s.H.get j = H0.get j
def body21 : XCode := match L21.code with
  | .seq _ (.seq _ (.seq _ (.seq _ (.seq (.seq _ (.block _ (.loop c))) _)))) => c
  | _ => .skip
theorem body21_ok {cf : CF} {fuel : Nat} {H0 : AHeap} {b : List UInt8} (hb : b.length ≤ 1000) (r : List UInt8) (i : Nat) (op : List Nat) (out : List (Nat × Nat)) (d : Nat) (s : St) (h : LI H0 b r i op out d s) :
    W cf fuel body21 s fun e s' => (e = .normal → ∃ x r' i' op' out' d', r = x :: r' ∧ scanL r i op out d = scanL r' i' op' out' d' ∧ LI H0 b r' i' op' out' d' s') ∧
      (e ≠ .normal → (e = .exit 0 ∧ r = [] ∧ LI H0 b r i op out d s') ∨ (e = .ret ∧ scanL r i op out d = none ∧ s'.tm.get 2 = some .nils ∧ s'.tm.get 3 = some (natA 0) ∧ s'.tm.get 4 = some (.bool false) ∧ H0.next ≤ s'.H.next ∧ ∀ j, j < H0.next → s'.H.get j = H0.get j)) := by
  obtain ⟨hrest, hle, hopl, houtl, t0, t10, t11, t7, ⟨v5, v6, t5, t6, R5, R6, hd5, hd6⟩, nx, fr⟩ := h
  obtain ⟨tm, H⟩ := s
  simp only at t0 t10 t11 t7 t5 t6 R5 R6 nx fr
  unfold body21 L21
  dsimp only
  refine W.seqN ?_
  refine W.rg 1 rfl (fun H1 hg1 hn1 => ?_)
  refine WO.op (by simp only [xval, xop, AR.ofV, St.ev, Tr.get_set, get_bump, next_bump, next_set, next_add, AHeap.get_set, reduceIte, Nat.reduceEqDiff, evL, evParts, fillA, AV.cells, natA, binA, intCmpA, unA, minA, maxA, t11, t10]; rfl) ?_
  refine WO.nil ⟨rfl, ?_⟩
  cases r with
  | nil =>
    have hil : decide ((i : Int) < (b.length : Int)) = false := by simp only [List.length_nil] at hle; simp; omega
    refine W.seq (W.condF (by simp only [St.ev, Tr.get_set, get_bump, next_bump, next_set, next_add, AHeap.get_set, reduceIte, Nat.reduceEqDiff, hil]) ?_)
    refine W.exit ⟨fun q => (by cases q), fun _ => ⟨fun q => (by cases q), fun _ => .inl ⟨rfl, rfl, ?_⟩⟩⟩
    refine ⟨hrest, hle, hopl, houtl, ?_, ?_, ?_, ?_, ⟨v5, v6, ?_, ?_, R5.frame (by show H.next ≤ H1.next; omega) (fun j _ => hg1 j), R6.frame (by show H.next ≤ H1.next; omega) (fun j _ => hg1 j), hd5, hd6⟩, by simp only; omega, fun j hj => (hg1 j).trans (fr j hj)⟩
    all_goals (simp only [Tr.get_set, get_bump, next_bump, next_set, next_add, AHeap.get_set, reduceIte, Nat.reduceEqDiff]; assumption)
  | cons x r =>
    simp only [List.length_cons] at hle
    have hil : decide ((i : Int) < (b.length : Int)) = true := by simp; omega
    have hi : i < b.length := by omega
    have hbx : b[i]? = some x := by
      have : (b.drop i)[0]? = some x := by rw [hrest]; rfl
      rwa [List.getElem?_drop, Nat.add_zero] at this
    have hrest' : b.drop (i + 1) = r := by
      have : (b.drop i).drop 1 = r := by rw [hrest]; rfl
      rwa [List.drop_drop] at this
    have hw : wrapA .i64 ((i : Int) + Int.ofNat 1) = ((i + 1 : Nat) : Int) := by
      show wrapA .i64 ((i : Int) + 1) = _
      rw [wrapI _ (by omega) (by omega)]; omega
    refine W.seqN (W.condT (by simp only [St.ev, Tr.get_set, get_bump, next_bump, next_set, next_add, AHeap.get_set, reduceIte, Nat.reduceEqDiff, hil]) (W.skip ⟨rfl, ?_⟩))
    refine W.seq (W.block (W.seqN ?_))
    refine W.rg 2 rfl (fun H2 hg2 hn2 => ?_)
    refine WO.op (by simp only [xval, xop, AR.ofV, St.ev, Tr.get_set, get_bump, next_bump, next_set, next_add, AHeap.get_set, reduceIte, Nat.reduceEqDiff, evL, evParts, fillA, AV.cells, natA, binA, intCmpA, unA, minA, maxA, t11, t10]; rfl) ?_
    refine WO.op (by simp only [xval, xop, AR.ofV, St.ev, Tr.get_set, get_bump, next_bump, next_set, next_add, AHeap.get_set, reduceIte, Nat.reduceEqDiff, evL, evParts, fillA, AV.cells, natA, binA, intCmpA, unA, minA, maxA, t11, t10]; rfl) ?_
    refine WO.nil ⟨rfl, W.seqN ?_⟩
    refine W.rg 3 rfl (fun H3 hg3 hn3 => ?_)
    refine WO.op (by simp only [xval, xop, AR.ofV, St.ev, Tr.get_set, get_bump, next_bump, next_set, next_add, AHeap.get_set, reduceIte, Nat.reduceEqDiff, evL, evParts, fillA, AV.cells, natA, binA, intCmpA, unA, minA, maxA, t11, t10, t0, idxOk_lt hi, Int.toNat_natCast, hbx, Option.map_some, if_true]; rfl) ?_
    refine WO.op (by simp only [xval, xop, AR.ofV, St.ev, Tr.get_set, get_bump, next_bump, next_set, next_add, AHeap.get_set, reduceIte, Nat.reduceEqDiff, evL, evParts, fillA, AV.cells, natA, binA, intCmpA, unA, minA, maxA, t11, t10, t0, idxOk_lt hi, Int.toNat_natCast, hbx, Option.map_some, if_true]; rfl) ?_
    refine WO.op (by simp only [xval, xop, AR.ofV, St.ev, Tr.get_set, get_bump, next_bump, next_set, next_add, AHeap.get_set, reduceIte, Nat.reduceEqDiff, evL, evParts, fillA, AV.cells, natA, binA, intCmpA, unA, minA, maxA, t11, t10, t0, idxOk_lt hi, Int.toNat_natCast, hbx, Option.map_some, if_true]; rfl) ?_
    refine WO.nil ⟨rfl, W.block (W.seqN ?_)⟩
    refine W.rg 2 rfl (fun H4 hg4 hn4 => ?_)
    refine WO.op (by simp only [xval, xop, AR.ofV, St.ev, Tr.get_set, get_bump, next_bump, next_set, next_add, AHeap.get_set, reduceIte, Nat.reduceEqDiff, evL, evParts, fillA, AV.cells, natA, binA, intCmpA, unA, minA, maxA]; rfl) ?_
    refine WO.op (by simp only [xval, xop, AR.ofV, St.ev, Tr.get_set, get_bump, next_bump, next_set, next_add, AHeap.get_set, reduceIte, Nat.reduceEqDiff, evL, evParts, fillA, AV.cells, natA, binA, intCmpA, unA, minA, maxA]; rfl) ?_
    refine WO.nil ⟨rfl, ?_⟩
    by_cases h40 : x = 40
    · subst h40
      refine W.condT (by simp only [St.ev, Tr.get_set, get_bump, next_bump, next_set, next_add, AHeap.get_set, reduceIte, Nat.reduceEqDiff]; rfl) (W.seqN ?_)
      -- open = append(open, i)
      refine W.rg 5 rfl (fun H5 hg5 hn5 => ?_)
      refine WO.op (by simp only [xval, xop, AR.ofV, St.ev, Tr.get_set, get_bump, next_bump, next_set, next_add, AHeap.get_set, reduceIte, Nat.reduceEqDiff, evL, evParts, fillA, AV.cells, natA, binA, intCmpA, unA, minA, maxA, t6]; rfl) ?_
      refine WO.op (by simp only [xval, xop, AR.ofV, St.ev, Tr.get_set, get_bump, next_bump, next_set, next_add, AHeap.get_set, reduceIte, Nat.reduceEqDiff, evL, evParts, fillA, AV.cells, natA, binA, intCmpA, unA, minA, maxA, t6]; rfl) ?_
      refine WO.append1 (n := H4.next + 1 + 1) (l := op.length) (cs := op.map natA) (new := [natA i]) (v := v6) (R6.frame (by omega) (fun j _ => by rw [hg5, hg4, hg3, hg2, hg1])) (by simp only [St.ev, Tr.get_set, get_bump, next_bump, next_set, next_add, AHeap.get_set, reduceIte, Nat.reduceEqDiff, t6]) (by simp only [xval, xop, AR.ofV, St.ev, Tr.get_set, get_bump, next_bump, next_set, next_add, AHeap.get_set, reduceIte, Nat.reduceEqDiff, evL, evParts, fillA, AV.cells, natA, binA, intCmpA, unA, minA, maxA]; rfl) (by omega) (by omega) (by omega) rfl rfl (by omega) (fun q => by have := R6.own_lt q; omega) (fun v6' H6 R6' hn6 hg6 ho6 => ?_)
      refine WO.op (by simp only [xval, xop, AR.ofV, St.ev, Tr.get_set, get_bump, next_bump, next_set, next_add, AHeap.get_set, reduceIte, Nat.reduceEqDiff, evL, evParts, fillA, AV.cells, natA, binA, intCmpA, unA, minA, maxA]; rfl) ?_
      have hmax : (if ((op.length + 1 : Nat) : Int) > (d : Int) then ((op.length + 1 : Nat) : Int) else (d : Int)) = ((max d (op.length + 1) : Nat) : Int) := by split <;> omega
      refine WO.nil ⟨rfl, ?_⟩
      refine W.rg 5 rfl (fun H7 hg7 hn7 => ?_)
      refine WO.op (by simp only [xval, xop, AR.ofV, St.ev, Tr.get_set, get_bump, next_bump, next_set, next_add, AHeap.get_set, reduceIte, Nat.reduceEqDiff, evL, evParts, fillA, AV.cells, natA, binA, intCmpA, unA, minA, maxA, t7]; rfl) ?_
      refine WO.op (by simp only [xval, xop, AR.ofV, St.ev, Tr.get_set, get_bump, next_bump, next_set, next_add, AHeap.get_set, reduceIte, Nat.reduceEqDiff, evL, evParts, fillA, AV.cells, natA, binA, intCmpA, unA, minA, maxA, t7]; rfl) ?_
      refine WO.op (op_len (R6'.frame (by omega) (fun j _ => hg7 j)) (by simp only [St.ev, Tr.get_set, get_bump, next_bump, next_set, next_add, AHeap.get_set, reduceIte, Nat.reduceEqDiff])) ?_
      refine WO.op (by simp only [xval, xop, AR.ofV, St.ev, Tr.get_set, get_bump, next_bump, next_set, next_add, AHeap.get_set, reduceIte, Nat.reduceEqDiff, evL, evParts, fillA, AV.cells, natA, binA, intCmpA, unA, minA, maxA, List.foldlM, Option.bind_some, hmax]; rfl) ?_
      refine WO.op (by simp only [xval, xop, AR.ofV, St.ev, Tr.get_set, get_bump, next_bump, next_set, next_add, AHeap.get_set, reduceIte, Nat.reduceEqDiff, evL, evParts, fillA, AV.cells, natA, binA, intCmpA, unA, minA, maxA]; rfl) ?_
      refine WO.nil (bN (bN (pN ?_)))
      refine W.rg 2 rfl (fun H9 hg9 hn9 => ?_)
      refine WO.op (by simp only [xval, xop, AR.ofV, St.ev, Tr.get_set, get_bump, next_bump, next_set, next_add, AHeap.get_set, reduceIte, Nat.reduceEqDiff, evL, evParts, fillA, AV.cells, natA, binA, intCmpA, unA, minA, maxA, t11, hw]; rfl) ?_
      refine WO.op (by simp only [xval, xop, AR.ofV, St.ev, Tr.get_set, get_bump, next_bump, next_set, next_add, AHeap.get_set, reduceIte, Nat.reduceEqDiff, evL, evParts, fillA, AV.cells, natA, binA, intCmpA, unA, minA, maxA, t11, hw]; rfl) ?_
      refine WO.nil (pN ⟨40, r, i + 1, op ++ [i], out, max d (op.length + 1), rfl, rfl, ?_⟩)
      have e6 : (op ++ [i]).map natA = op.map natA ++ [natA i] := by simp
      have R5' : Row 2 H9 v5 out.length (pairA out) := R5.frame (by omega) (fun j hj => by rw [hg9, hg7, hg6 j (by have := R5.own_lt hj; omega) (by have := R5.own_lt hj; omega) (hd5 j hj).1, hg5, hg4, hg3, hg2, hg1])
      refine ⟨hrest', by omega, by simp; omega, by omega, ?_, ?_, ?_, ?_, ⟨v5, v6', ?_, ?_, R5', by rw [e6, List.length_append]; exact R6'.frame (by show H6.next ≤ H9.next; omega) (fun j _ => by show H9.get j = _; rw [hg9, hg7]), fun j hj => ⟨fun q => ?_, (hd5 j hj).2⟩, fun j hj => ?_⟩, by show H0.next ≤ H9.next; omega, fun j hj => ?_⟩
      · simp only [Tr.get_set, get_bump, next_bump, next_set, next_add, AHeap.get_set, reduceIte, Nat.reduceEqDiff]; exact t0
      · simp only [Tr.get_set, get_bump, next_bump, next_set, next_add, AHeap.get_set, reduceIte, Nat.reduceEqDiff]; exact t10
      · simp only [Tr.get_set, get_bump, next_bump, next_set, next_add, AHeap.get_set, reduceIte, Nat.reduceEqDiff]; rfl
      · simp only [Tr.get_set, get_bump, next_bump, next_set, next_add, AHeap.get_set, reduceIte, Nat.reduceEqDiff, hmax]; rfl
      · simp only [Tr.get_set, get_bump, next_bump, next_set, next_add, AHeap.get_set, reduceIte, Nat.reduceEqDiff]; exact t5
      · simp only [Tr.get_set, get_bump, next_bump, next_set, next_add, AHeap.get_set, reduceIte, Nat.reduceEqDiff]
      · rcases ho6 j q with q1 | q1
        · exact (hd5 j hj).1 q1
        · have := R5.own_lt hj; omega
      · rcases ho6 j hj with q1 | q1
        · exact hd6 j q1
        · omega
      · show H9.get j = _
        rw [hg9, hg7, hg6 j (by omega) (by omega) (fun q => by have := hd6 j q; omega), hg5, hg4, hg3, hg2, hg1, fr j hj]
    · have hx40 : ((x.toNat : Int) == Int.ofNat 40) = false := by
        rw [Int.ofNat_eq_natCast, beq_eq_false_iff_ne]
        intro q
        exact h40 (UInt8.toNat_inj.1 (by show x.toNat = 40; omega))
      refine W.condF (by simp only [St.ev, Tr.get_set, get_bump, next_bump, next_set, next_add, AHeap.get_set, reduceIte, Nat.reduceEqDiff, hx40]) (W.seqN ?_)
      refine W.rg 2 rfl (fun HA hgA hnA => ?_)
      refine WO.op (by simp only [xval, xop, AR.ofV, St.ev, Tr.get_set, get_bump, next_bump, next_set, next_add, AHeap.get_set, reduceIte, Nat.reduceEqDiff, evL, evParts, fillA, AV.cells, natA, binA, intCmpA, unA, minA, maxA]; rfl) ?_
      refine WO.op (by simp only [xval, xop, AR.ofV, St.ev, Tr.get_set, get_bump, next_bump, next_set, next_add, AHeap.get_set, reduceIte, Nat.reduceEqDiff, evL, evParts, fillA, AV.cells, natA, binA, intCmpA, unA, minA, maxA]; rfl) ?_
      refine WO.nil ⟨rfl, ?_⟩
      by_cases h41 : x = 41
      · subst h41
        refine W.condT (by simp only [St.ev, Tr.get_set, get_bump, next_bump, next_set, next_add, AHeap.get_set, reduceIte, Nat.reduceEqDiff]; rfl) (W.seq (W.seqN ?_))
        refine W.rg 3 rfl (fun HB hgB hnB => ?_)
        refine WO.op (by simp only [xval, xop, AR.ofV, St.ev, Tr.get_set, get_bump, next_bump, next_set, next_add, AHeap.get_set, reduceIte, Nat.reduceEqDiff, evL, evParts, fillA, AV.cells, natA, binA, intCmpA, unA, minA, maxA, t6]; rfl) ?_
        refine WO.op (op_len (R6.frame (by omega) (fun j _ => by rw [hgB, hgA, hg4, hg3, hg2, hg1])) (by simp only [St.ev, Tr.get_set, get_bump, next_bump, next_set, next_add, AHeap.get_set, reduceIte, Nat.reduceEqDiff, t6])) ?_
        refine WO.op (by simp only [xval, xop, AR.ofV, St.ev, Tr.get_set, get_bump, next_bump, next_set, next_add, AHeap.get_set, reduceIte, Nat.reduceEqDiff, evL, evParts, fillA, AV.cells, natA, binA, intCmpA, unA, minA, maxA]; rfl) ?_
        refine WO.nil ⟨rfl, ?_⟩
        by_cases hop0 : op.length = 0
        · have hz : ((op.length : Int) == Int.ofNat 0) = true := by rw [hop0]; rfl
          refine W.condT (by simp only [St.ev, Tr.get_set, get_bump, next_bump, next_set, next_add, AHeap.get_set, reduceIte, Nat.reduceEqDiff, hz]) (W.seqN ?_)
          refine W.rg 3 rfl (fun HC hgC hnC => ?_)
          refine WO.op (by simp only [xval, xop, AR.ofV, St.ev, Tr.get_set, get_bump, next_bump, next_set, next_add, AHeap.get_set, reduceIte, Nat.reduceEqDiff, evL, evParts, fillA, AV.cells, natA, binA, intCmpA, unA, minA, maxA]; rfl) ?_
          refine WO.op (by simp only [xval, xop, AR.ofV, St.ev, Tr.get_set, get_bump, next_bump, next_set, next_add, AHeap.get_set, reduceIte, Nat.reduceEqDiff, evL, evParts, fillA, AV.cells, natA, binA, intCmpA, unA, minA, maxA]; rfl) ?_
          refine WO.op (by simp only [xval, xop, AR.ofV, St.ev, Tr.get_set, get_bump, next_bump, next_set, next_add, AHeap.get_set, reduceIte, Nat.reduceEqDiff, evL, evParts, fillA, AV.cells, natA, binA, intCmpA, unA, minA, maxA]; rfl) ?_
          refine WO.nil ⟨rfl, W.ret (pR (bR (bR (pR ⟨fun q => (by cases q), fun _ => .inr ⟨rfl, ?_, ?_, ?_, ?_, ?_, ?_⟩⟩))))⟩
          · have : op = [] := List.eq_nil_of_length_eq_zero hop0
            subst this; rfl
          · simp only [Tr.get_set, get_bump, next_bump, next_set, next_add, AHeap.get_set, reduceIte, Nat.reduceEqDiff]
          · simp only [Tr.get_set, get_bump, next_bump, next_set, next_add, AHeap.get_set, reduceIte, Nat.reduceEqDiff]; rfl
          · simp only [Tr.get_set, get_bump, next_bump, next_set, next_add, AHeap.get_set, reduceIte, Nat.reduceEqDiff]
          · show H0.next ≤ HC.next; omega
          · intro j hj; show HC.get j = _; rw [hgC, hgB, hgA, hg4, hg3, hg2, hg1, fr j hj]
        · have hz : ((op.length : Int) == Int.ofNat 0) = false := by rw [Int.ofNat_eq_natCast, beq_eq_false_iff_ne]; omega
          have hpred : wrapA .i64 ((op.length : Int) - Int.ofNat 1) = ((op.length - 1 : Nat) : Int) := by
            show wrapA .i64 ((op.length : Int) - 1) = _
            rw [wrapI _ (by omega) (by omega)]; omega
          obtain ⟨a, ha⟩ : ∃ a, op[op.length - 1]? = some a := ⟨_, List.getElem?_eq_getElem (by omega)⟩
          have hgl : op.getLast? = some a := by rw [List.getLast?_eq_getElem?, ha]
          refine W.condF (by simp only [St.ev, Tr.get_set, get_bump, next_bump, next_set, next_add, AHeap.get_set, reduceIte, Nat.reduceEqDiff, hz]) (W.skip (pN (W.seqN ?_)))
          refine W.rg 12 rfl (fun HC hgC hnC => ?_)
          refine WO.op (by simp only [xval, xop, AR.ofV, St.ev, Tr.get_set, get_bump, next_bump, next_set, next_add, AHeap.get_set, reduceIte, Nat.reduceEqDiff, evL, evParts, fillA, AV.cells, natA, binA, intCmpA, unA, minA, maxA, t5]; rfl) ?_
          refine WO.op (by simp only [xval, xop, AR.ofV, St.ev, Tr.get_set, get_bump, next_bump, next_set, next_add, AHeap.get_set, reduceIte, Nat.reduceEqDiff, evL, evParts, fillA, AV.cells, natA, binA, intCmpA, unA, minA, maxA, t6]; rfl) ?_
          refine WO.op (by simp only [xval, xop, AR.ofV, St.ev, Tr.get_set, get_bump, next_bump, next_set, next_add, AHeap.get_set, reduceIte, Nat.reduceEqDiff, evL, evParts, fillA, AV.cells, natA, binA, intCmpA, unA, minA, maxA, t6]; rfl) ?_
          have R6c : Row 1 HC v6 op.length (op.map natA) := R6.frame (by omega) (fun j _ => by rw [hgC, hgB, hgA, hg4, hg3, hg2, hg1])
          have R5c : Row 2 HC v5 out.length (pairA out) := R5.frame (by omega) (fun j _ => by rw [hgC, hgB, hgA, hg4, hg3, hg2, hg1])
          refine WO.op (op_len R6c (by simp only [St.ev, Tr.get_set, get_bump, next_bump, next_set, next_add, AHeap.get_set, reduceIte, Nat.reduceEqDiff])) ?_
          refine WO.op (v := natA (op.length - 1)) (H1 := HC) (by simp only [xval, xop, AR.ofV, St.ev, Tr.get_set, get_bump, next_bump, next_set, next_add, AHeap.get_set, reduceIte, Nat.reduceEqDiff, evL, evParts, fillA, AV.cells, natA, binA, intCmpA, unA, minA, maxA, hpred]; rfl) ?_
          refine WO.cell1 (j := op.length - 1) (c := natA a) R6c (by simp only [St.ev, Tr.get_set, get_bump, next_bump, next_set, next_add, AHeap.get_set, reduceIte, Nat.reduceEqDiff]) (by simp only [St.ev, Tr.get_set, get_bump, next_bump, next_set, next_add, AHeap.get_set, reduceIte, Nat.reduceEqDiff]; rfl) (by omega) (by rw [List.getElem?_map, ha]; rfl) (fun o6 ho6 => ?_)
          refine WO.op (by simp only [xval, xop, AR.ofV, St.ev, Tr.get_set, get_bump, next_bump, next_set, next_add, AHeap.get_set, reduceIte, Nat.reduceEqDiff, evL, evParts, fillA, AV.cells, natA, binA, intCmpA, unA, minA, maxA, t11]; rfl) ?_
          refine WO.op (by simp only [xval, xop, AR.ofV, St.ev, Tr.get_set, get_bump, next_bump, next_set, next_add, AHeap.get_set, reduceIte, Nat.reduceEqDiff, evL, evParts, fillA, AV.cells, natA, binA, intCmpA, unA, minA, maxA, t11]; rfl) ?_
          refine WO.append1 (n := HB.next + 1 + 1 + 1 + 1 + 1 + 1 + 1 + 1 + 1) (l := out.length) (cs := pairA out) (new := [natA a, natA i]) (v := v5) R5c (by simp only [St.ev, Tr.get_set, get_bump, next_bump, next_set, next_add, AHeap.get_set, reduceIte, Nat.reduceEqDiff]) (by simp only [xval, xop, AR.ofV, St.ev, Tr.get_set, get_bump, next_bump, next_set, next_add, AHeap.get_set, reduceIte, Nat.reduceEqDiff, evL, evParts, fillA, AV.cells, natA, binA, intCmpA, unA, minA, maxA]; rfl) (by omega) (by omega) (by omega) rfl rfl (by omega) (fun q => by have := R5.own_lt q; omega) (fun v5' HD R5' hnD hgD ho5 => ?_)
          refine WO.op (by simp only [xval, xop, AR.ofV, St.ev, Tr.get_set, get_bump, next_bump, next_set, next_add, AHeap.get_set, reduceIte, Nat.reduceEqDiff, evL, evParts, fillA, AV.cells, natA, binA, intCmpA, unA, minA, maxA]; rfl) ?_
          refine WO.nil ⟨rfl, ?_⟩
          have R6d : Row 1 HD v6 op.length (op.map natA) := R6c.frame (by omega) (fun j hj => hgD j (by have := R6.own_lt hj; omega) (by have := R6.own_lt hj; omega) (fun q => (hd5 j q).1 hj))
          refine W.rg 6 rfl (fun HE hgE hnE => ?_)
          have R6e : Row 1 HE v6 op.length (op.map natA) := R6d.frame (by omega) (fun j _ => hgE j)
          refine WO.op (by simp only [xval, xop, AR.ofV, St.ev, Tr.get_set, get_bump, next_bump, next_set, next_add, AHeap.get_set, reduceIte, Nat.reduceEqDiff, evL, evParts, fillA, AV.cells, natA, binA, intCmpA, unA, minA, maxA, t6]; rfl) ?_
          refine WO.op (by simp only [xval, xop, AR.ofV, St.ev, Tr.get_set, get_bump, next_bump, next_set, next_add, AHeap.get_set, reduceIte, Nat.reduceEqDiff, evL, evParts, fillA, AV.cells, natA, binA, intCmpA, unA, minA, maxA, t6]; rfl) ?_
          refine WO.op (op_len R6e (by simp only [St.ev, Tr.get_set, get_bump, next_bump, next_set, next_add, AHeap.get_set, reduceIte, Nat.reduceEqDiff])) ?_
          refine WO.op (v := natA (op.length - 1)) (H1 := HE) (by simp only [xval, xop, AR.ofV, St.ev, Tr.get_set, get_bump, next_bump, next_set, next_add, AHeap.get_set, reduceIte, Nat.reduceEqDiff, evL, evParts, fillA, AV.cells, natA, binA, intCmpA, unA, minA, maxA, hpred]; rfl) ?_
          refine WO.front (m := op.length - 1) R6e (by simp only [St.ev, Tr.get_set, get_bump, next_bump, next_set, next_add, AHeap.get_set, reduceIte, Nat.reduceEqDiff]) (by simp only [St.ev, Tr.get_set, get_bump, next_bump, next_set, next_add, AHeap.get_set, reduceIte, Nat.reduceEqDiff]; rfl) (by omega) (by omega) (fun v6' R6f hof => ?_)
          refine WO.op (by simp only [xval, xop, AR.ofV, St.ev, Tr.get_set, get_bump, next_bump, next_set, next_add, AHeap.get_set, reduceIte, Nat.reduceEqDiff, evL, evParts, fillA, AV.cells, natA, binA, intCmpA, unA, minA, maxA]; rfl) ?_
          refine WO.nil (bN (bN (pN ?_)))
          refine W.rg 2 rfl (fun HF hgF hnF => ?_)
          refine WO.op (by simp only [xval, xop, AR.ofV, St.ev, Tr.get_set, get_bump, next_bump, next_set, next_add, AHeap.get_set, reduceIte, Nat.reduceEqDiff, evL, evParts, fillA, AV.cells, natA, binA, intCmpA, unA, minA, maxA, t11, hw]; rfl) ?_
          refine WO.op (by simp only [xval, xop, AR.ofV, St.ev, Tr.get_set, get_bump, next_bump, next_set, next_add, AHeap.get_set, reduceIte, Nat.reduceEqDiff, evL, evParts, fillA, AV.cells, natA, binA, intCmpA, unA, minA, maxA, t11, hw]; rfl) ?_
          refine WO.nil (pN ⟨41, r, i + 1, op.dropLast, out ++ [(a, i)], d, rfl, ?_, ?_⟩)
          · show (match op.getLast? with | none => none | some a => scanL r (i + 1) op.dropLast (out ++ [(a, i)]) d) = _
            rw [hgl]
          have e5 : pairA (out ++ [(a, i)]) = pairA out ++ [natA a, natA i] := by simp [pairA, encPairs, castP, natA]
          have e6 : op.dropLast.map natA = (op.map natA).take ((op.length - 1) * 1) := by rw [Nat.mul_one, List.dropLast_eq_take, List.map_take]
          have e7 : op.dropLast.length = op.length - 1 := List.length_dropLast
          refine ⟨hrest', by omega, by omega, by rw [List.length_append]; simp; omega, ?_, ?_, ?_, ?_, ⟨v5', v6', ?_, ?_, by rw [e5, List.length_append]; exact R5'.frame (by show HD.next ≤ HF.next; omega) (fun j _ => by show HF.get j = _; rw [hgF, hgE]), by rw [e6, e7]; exact R6f.frame (by show HE.next ≤ HF.next; omega) (fun j _ => hgF j), fun j hj => ⟨fun q => ?_, ?_⟩, fun j hj => hd6 j (hof ▸ hj)⟩, by show H0.next ≤ HF.next; omega, fun j hj => ?_⟩
          · simp only [Tr.get_set, get_bump, next_bump, next_set, next_add, AHeap.get_set, reduceIte, Nat.reduceEqDiff]; exact t0
          · simp only [Tr.get_set, get_bump, next_bump, next_set, next_add, AHeap.get_set, reduceIte, Nat.reduceEqDiff]; exact t10
          · simp only [Tr.get_set, get_bump, next_bump, next_set, next_add, AHeap.get_set, reduceIte, Nat.reduceEqDiff]; rfl
          · simp only [Tr.get_set, get_bump, next_bump, next_set, next_add, AHeap.get_set, reduceIte, Nat.reduceEqDiff]; exact t7
          · simp only [Tr.get_set, get_bump, next_bump, next_set, next_add, AHeap.get_set, reduceIte, Nat.reduceEqDiff]
          · simp only [Tr.get_set, get_bump, next_bump, next_set, next_add, AHeap.get_set, reduceIte, Nat.reduceEqDiff]
          · rw [hof] at q
            rcases ho5 j hj with q1 | q1
            · exact (hd5 j q1).1 q
            · have := R6.own_lt q; omega
          · rcases ho5 j hj with q1 | q1
            · exact (hd5 j q1).2
            · omega
          · show HF.get j = _
            rw [hgF, hgE, hgD j (by omega) (by omega) (fun q => by have := (hd5 j q).2; omega), hgC, hgB, hgA, hg4, hg3, hg2, hg1, fr j hj]
      · have hx41 : ((x.toNat : Int) == Int.ofNat 41) = false := by
          rw [Int.ofNat_eq_natCast, beq_eq_false_iff_ne]
          intro q
          exact h41 (UInt8.toNat_inj.1 (by show x.toNat = 41; omega))
        refine W.condF (by simp only [St.ev, Tr.get_set, get_bump, next_bump, next_set, next_add, AHeap.get_set, reduceIte, Nat.reduceEqDiff, hx41]) (W.seqN ?_)
        refine W.rg 2 rfl (fun HG hgG hnG => ?_)
        refine WO.op (by simp only [xval, xop, AR.ofV, St.ev, Tr.get_set, get_bump, next_bump, next_set, next_add, AHeap.get_set, reduceIte, Nat.reduceEqDiff, evL, evParts, fillA, AV.cells, natA, binA, intCmpA, unA, minA, maxA]; rfl) ?_
        refine WO.op (by simp only [xval, xop, AR.ofV, St.ev, Tr.get_set, get_bump, next_bump, next_set, next_add, AHeap.get_set, reduceIte, Nat.reduceEqDiff, evL, evParts, fillA, AV.cells, natA, binA, intCmpA, unA, minA, maxA]; rfl) ?_
        refine WO.nil ⟨rfl, ?_⟩
        by_cases h46 : x = 46
        · subst h46
          refine W.condT (by simp only [St.ev, Tr.get_set, get_bump, next_bump, next_set, next_add, AHeap.get_set, reduceIte, Nat.reduceEqDiff]; rfl) (W.skip (bN (bN (pN ?_))))
          refine W.rg 2 rfl (fun HH hgH hnH => ?_)
          refine WO.op (by simp only [xval, xop, AR.ofV, St.ev, Tr.get_set, get_bump, next_bump, next_set, next_add, AHeap.get_set, reduceIte, Nat.reduceEqDiff, evL, evParts, fillA, AV.cells, natA, binA, intCmpA, unA, minA, maxA, t11, hw]; rfl) ?_
          refine WO.op (by simp only [xval, xop, AR.ofV, St.ev, Tr.get_set, get_bump, next_bump, next_set, next_add, AHeap.get_set, reduceIte, Nat.reduceEqDiff, evL, evParts, fillA, AV.cells, natA, binA, intCmpA, unA, minA, maxA, t11, hw]; rfl) ?_
          refine WO.nil (pN ⟨46, r, i + 1, op, out, d, rfl, rfl, ?_⟩)
          refine ⟨hrest', by omega, by omega, by omega, ?_, ?_, ?_, ?_, ⟨v5, v6, ?_, ?_, R5.frame (by show H.next ≤ HH.next; omega) (fun j _ => by show HH.get j = _; rw [hgH, hgG, hgA, hg4, hg3, hg2, hg1]), R6.frame (by show H.next ≤ HH.next; omega) (fun j _ => by show HH.get j = _; rw [hgH, hgG, hgA, hg4, hg3, hg2, hg1]), hd5, hd6⟩, by show H0.next ≤ HH.next; omega, fun j hj => ?_⟩
          · simp only [Tr.get_set, get_bump, next_bump, next_set, next_add, AHeap.get_set, reduceIte, Nat.reduceEqDiff]; exact t0
          · simp only [Tr.get_set, get_bump, next_bump, next_set, next_add, AHeap.get_set, reduceIte, Nat.reduceEqDiff]; exact t10
          · simp only [Tr.get_set, get_bump, next_bump, next_set, next_add, AHeap.get_set, reduceIte, Nat.reduceEqDiff]; rfl
          · simp only [Tr.get_set, get_bump, next_bump, next_set, next_add, AHeap.get_set, reduceIte, Nat.reduceEqDiff]; exact t7
          · simp only [Tr.get_set, get_bump, next_bump, next_set, next_add, AHeap.get_set, reduceIte, Nat.reduceEqDiff]; exact t5
          · simp only [Tr.get_set, get_bump, next_bump, next_set, next_add, AHeap.get_set, reduceIte, Nat.reduceEqDiff]; exact t6
          · show HH.get j = _
            rw [hgH, hgG, hgA, hg4, hg3, hg2, hg1, fr j hj]
        · have hx46 : ((x.toNat : Int) == Int.ofNat 46) = false := by
            rw [Int.ofNat_eq_natCast, beq_eq_false_iff_ne]
            intro q
            exact h46 (UInt8.toNat_inj.1 (by show x.toNat = 46; omega))
          refine W.condF (by simp only [St.ev, Tr.get_set, get_bump, next_bump, next_set, next_add, AHeap.get_set, reduceIte, Nat.reduceEqDiff, hx46]) (W.seqN ?_)
          refine W.rg 3 rfl (fun HI hgI hnI => ?_)
          refine WO.op (by simp only [xval, xop, AR.ofV, St.ev, Tr.get_set, get_bump, next_bump, next_set, next_add, AHeap.get_set, reduceIte, Nat.reduceEqDiff, evL, evParts, fillA, AV.cells, natA, binA, intCmpA, unA, minA, maxA]; rfl) ?_
          refine WO.op (by simp only [xval, xop, AR.ofV, St.ev, Tr.get_set, get_bump, next_bump, next_set, next_add, AHeap.get_set, reduceIte, Nat.reduceEqDiff, evL, evParts, fillA, AV.cells, natA, binA, intCmpA, unA, minA, maxA]; rfl) ?_
          refine WO.op (by simp only [xval, xop, AR.ofV, St.ev, Tr.get_set, get_bump, next_bump, next_set, next_add, AHeap.get_set, reduceIte, Nat.reduceEqDiff, evL, evParts, fillA, AV.cells, natA, binA, intCmpA, unA, minA, maxA]; rfl) ?_
          refine WO.nil ⟨rfl, W.ret (bR (bR (pR ⟨fun q => (by cases q), fun _ => .inr ⟨rfl, ?_, ?_, ?_, ?_, ?_, ?_⟩⟩)))⟩
          · unfold scanL
            rw [if_neg h40, if_neg h41, if_neg h46]
          · simp only [Tr.get_set, get_bump, next_bump, next_set, next_add, AHeap.get_set, reduceIte, Nat.reduceEqDiff]
          · simp only [Tr.get_set, get_bump, next_bump, next_set, next_add, AHeap.get_set, reduceIte, Nat.reduceEqDiff]; rfl
          · simp only [Tr.get_set, get_bump, next_bump, next_set, next_add, AHeap.get_set, reduceIte, Nat.reduceEqDiff]
          · show H0.next ≤ HI.next; omega
          · intro j hj; show HI.get j = _; rw [hgI, hgG, hgA, hg4, hg3, hg2, hg1, fr j hj]
end Go.Proofs.YtfcgofffalmdfaaDoor.PA
end
section
set_option linter.unusedSimpArgs false
set_option linter.unusedVariables false
namespace Go.Proofs.YtfcgofffalmdfaaDoor.PA
open Go Go.Eng
/-- What is open, and what pairs begin with, differ, and lie ahead. -/
theorem scanL_inv : ∀ (r : List UInt8) (i : Nat) (op : List Nat) (out : List (Nat × Nat)) (d : Nat) (op' : List Nat) (out' : List (Nat × Nat)) (d' : Nat), scanL r i op out d = some (op', out', d') →
    (∀ a ∈ op, a < i) → (∀ p ∈ out, p.1 < i) → (op ++ out.map (·.1)).Nodup → (out'.map (·.1)).Nodup ∧ (∀ p ∈ out', p.1 < i + r.length)
  | [], i, op, out, d, op', out', d', h, h1, h2, h3 => by
    simp only [scanL, Option.some.injEq, Prod.mk.injEq] at h
    obtain ⟨rfl, rfl, rfl⟩ := h
    exact ⟨(List.nodup_append.1 h3).2.1, fun p hp => by have := h2 p hp; omega⟩
  | b :: r, i, op, out, d, op', out', d', h, h1, h2, h3 => by
    simp only [scanL] at h
    simp only [List.length_cons]
    split at h
    · have := scanL_inv r (i + 1) _ _ _ _ _ _ h (fun a ha => by
        rcases List.mem_append.1 ha with q | q
        · have := h1 a q; omega
        · simp only [List.mem_singleton] at q; omega) (fun p hp => by have := h2 p hp; omega) (by
        rw [List.append_assoc]
        show (op ++ (i :: out.map (·.1))).Nodup
        rw [List.perm_middle.nodup_iff, List.nodup_cons]
        refine ⟨fun q => ?_, h3⟩
        rcases List.mem_append.1 q with q | q
        · have := h1 i q; omega
        · obtain ⟨p, q1, q2⟩ := List.mem_map.1 q
          have := h2 p q1; omega)
      exact ⟨this.1, fun p hp => by have := this.2 p hp; omega⟩
    · split at h
      · split at h
        · cases h
        · rename_i a ha
          have hop : op.dropLast ++ [a] = op := by
            have hne : op ≠ [] := fun e => by rw [e] at ha; cases ha
            rw [List.getLast?_eq_some_getLast hne] at ha
            cases ha
            exact List.dropLast_concat_getLast hne
          have := scanL_inv r (i + 1) _ _ _ _ _ _ h (fun x hx => by have := h1 x (List.dropLast_subset op hx); omega) (fun p hp => by
            rcases List.mem_append.1 hp with q | q
            · have := h2 p q; omega
            · simp only [List.mem_singleton] at q
              have := h1 a (by rw [← hop]; simp)
              rw [q]; show a < i + 1; omega) (by
            rw [List.map_append]
            show (op.dropLast ++ (out.map (·.1) ++ [a])).Nodup
            have : (op.dropLast ++ (out.map (·.1) ++ [a])).Perm (op.dropLast ++ ([a] ++ out.map (·.1))) := List.Perm.append_left _ List.perm_append_comm
            rw [this.nodup_iff, ← List.append_assoc, hop]
            exact h3)
          exact ⟨this.1, fun p hp => by have := this.2 p hp; omega⟩
      · split at h
        · have := scanL_inv r (i + 1) _ _ _ _ _ _ h (fun a ha => by have := h1 a ha; omega) (fun p hp => by have := h2 p hp; omega) h3
          exact ⟨this.1, fun p hp => by have := this.2 p hp; omega⟩
        · cases h
theorem apartP_of : ∀ (l : List (Nat × Nat)), (l.map (·.1)).Nodup → apartP (l.map castP) = true
  | [], _ => rfl
  | p :: l, h => by
    rw [List.map_cons, List.nodup_cons] at h
    simp only [List.map_cons, apartP, Bool.and_eq_true, List.all_eq_true, bne_iff_ne]
    refine ⟨fun q hq => ?_, apartP_of l h.2⟩
    obtain ⟨x, hx, rfl⟩ := List.mem_map.1 hq
    simp only [castP]
    intro e
    exact h.1 (List.mem_map.2 ⟨x, hx, by omega⟩)
abbrev K0 : CF := sortK 33 34
theorem sortNil (H : AHeap) : xcallK K0 F 2000 40 33 [.nils, .fn 34 []] H = some (.tup [], H.bump 47) := by kernel_rfl
/-- The sort, at the pairs of a string. -/
theorem sort_call {H : AHeap} {v : AV} {out : List (Nat × Nat)} (hR : Row 2 H v out.length (pairA out)) (hn : (out.map (·.1)).Nodup) (hl : ∀ p ∈ out, p.1 < 2000) (hlen : out.length < 2000) :
    ∃ H', xcallK K0 F 2000 40 33 [v, .fn 34 []] H = some (.tup [], H') ∧ Row 2 H' v out.length (encPairs (sortP (out.map castP))) ∧ H.next ≤ H'.next ∧ (∀ j, v.own ≠ some j → H'.get j = H.get j) := by
  obtain ⟨hcl, ⟨rfl, h0⟩ | ⟨i, full, rfl, hg, hf, hfl, hi⟩⟩ := hR
  · have : out = [] := List.eq_nil_of_length_eq_zero h0
    subst this
    have hs0 : sortP (List.map castP []) = [] := by simp [sortP]
    rw [hs0]
    exact ⟨_, sortNil H, Row.nil _ _, Nat.le_add_right _ _, fun j _ => rfl⟩
  · by_cases h0 : out.length = 0
    · have : out = [] := List.eq_nil_of_length_eq_zero h0
      subst this
      have hs : xcallK K0 F 2000 40 33 [.sl i 0 0 openCap, .fn 34 []] H = some (.tup [], H.bump 47) := by kernel_rfl
      have hs0 : sortP (List.map castP []) = [] := by simp [sortP]
      rw [hs0]
      exact ⟨_, hs, ⟨rfl, .inr ⟨i, full, rfl, hg, by simp [encPairs], by simp, by rw [next_bump]; omega⟩⟩, Nat.le_add_right _ _, fun j _ => rfl⟩
    · have hs : sortK 33 34 33 [.sl i 0 out.length openCap, .fn 34 []] H = some (.tup [], H.set i (some (.cells (overA full 0 (encPairs (sortP (out.map castP)))) (some 2)))) := by
        have hdec : decPairs ((full.drop 0).take (out.length * 2)) = some (out.map castP) := by
          rw [List.drop_zero, hf]
          exact decPairs_enc _
        have hall : (out.map castP).all okP = true := by
          rw [List.all_eq_true]
          intro x hx
          obtain ⟨p, hp, rfl⟩ := List.mem_map.1 hx
          have := hl p hp
          show (decide (0 ≤ (p.1 : Int)) && decide ((p.1 : Int) < 4611686018427387904)) = true
          rw [Bool.and_eq_true, decide_eq_true_eq, decide_eq_true_eq]
          omega
        simp only [sortK, if_true]
        rw [if_pos ⟨trivial, by omega, by omega⟩]
        simp only [hg, hdec]
        rw [if_pos ⟨by simp, hall, apartP_of out hn⟩]
      refine ⟨H.set i (some (.cells (overA full 0 (encPairs (sortP (out.map castP)))) (some 2))), by rw [show (40 : Nat) = 39 + 1 from rfl]; unfold xcallK; rw [show K0 = sortK 33 34 from rfl, hs], ⟨by rw [encPairs_length, (sortP_perm _).length_eq, List.length_map], .inr ⟨i, _, rfl, by rw [AHeap.get_set, if_pos rfl], ?_, ?_, hi⟩⟩, Nat.le_refl _, fun j hj => by rw [AHeap.get_set, if_neg (fun e => hj (by simp [AV.own, e]))]⟩
      · have e : (encPairs (sortP (out.map castP))).length = out.length * 2 := by rw [encPairs_length, (sortP_perm _).length_eq, List.length_map]
        simp only [overA, List.take_zero, List.nil_append, Nat.zero_add]
        rw [← e, List.take_left']
        rfl
      · have e : (encPairs (sortP (out.map castP))).length = out.length * 2 := by rw [encPairs_length, (sortP_perm _).length_eq, List.length_map]
        simp only [overA, List.take_zero, List.nil_append, Nat.zero_add, List.length_append, List.length_drop, e]
        omega
/-- What rope.loops answers. -/
def LoopsQ (H0 : AHeap) (b : List UInt8) (v : AV) (H' : AHeap) : Prop :=
  (H0.next ≤ H'.next ∧ ∀ j, j < H0.next → H'.get j = H0.get j) ∧
  match scanL b 0 [] [] 0 with
  | none => v = .tup [.nils, natA 0, .bool false]
  | some (op, out, d) => ∃ v5, v = .tup [v5, natA d, .bool (op.length == 0)] ∧ Row 2 H' v5 out.length (encPairs (sortP (out.map castP))) ∧ ∀ j, v5.own = some j → H0.next ≤ j
theorem loops_ok {H0 : AHeap} {b : List UInt8} (hb : b.length ≤ 1000) : ∃ v H', xfunc (xcallK K0 F 2000 40) 2000 L21 [.str b] H0 = some (v, H') ∧ LoopsQ H0 b v H' := by
  refine xfunc_of rfl (by show 1 ≤ 58; omega) ?_
  have hbody := fun r i op out d s h => body21_ok (cf := xcallK K0 F 2000 40) (fuel := 2000) (H0 := H0) (b := b) hb r i op out d s h
  generalize hB : body21 = B at hbody
  have hc : L21.code = (XCode.reg [XOper.mk (some 2) (XOp.mv (XO.k AV.nils)) none, XOper.mk (some 3) (XOp.mv (XO.k (AV.int IntKind.i64 (Int.ofNat 0)))) none, XOper.mk (some 4) (XOp.mv (XO.k (AV.bool false))) none]).seq ((XCode.reg [XOper.mk (some 5) (XOp.mv (XO.k AV.nils)) none]).seq ((XCode.reg [XOper.mk (some 6) (XOp.mv (XO.k AV.nils)) none]).seq ((XCode.reg [XOper.mk (some 7) (XOp.mv (XO.k (AV.int IntKind.i64 (Int.ofNat 0)))) none]).seq (((XCode.reg [XOper.mk (some 9) (XOp.mv (XO.t 0)) none, XOper.mk (some 10) (XOp.slen (XO.t 9)) none, XOper.mk (some 11) (XOp.mv (XO.k (AV.int IntKind.i64 (Int.ofNat 0)))) none]).seq (XCode.block 0 (XCode.loop B))).seq ((XCode.reg [XOper.mk (some 51) (XOp.mv (XO.t 5)) none, XOper.mk (some 52) (XOp.call (XO.k (AV.fn 33 [])) [XO.t 51, XO.k (AV.fn 34 [])]) none]).seq ((XCode.reg [XOper.mk (some 53) (XOp.mv (XO.t 5)) none, XOper.mk (some 54) (XOp.mv (XO.t 7)) none, XOper.mk (some 55) (XOp.mv (XO.t 6)) none, XOper.mk (some 56) (XOp.len (XO.t 55)) none, XOper.mk (some 57) (XOp.bin BinOp.eql (XO.t 56) (XO.k (AV.int IntKind.i64 (Int.ofNat 0)))) none, XOper.mk (some 2) (XOp.mv (XO.t 53)) none, XOper.mk (some 3) (XOp.mv (XO.t 54)) none, XOper.mk (some 4) (XOp.mv (XO.t 57)) none]).seq XCode.ret)))))) := by
    rw [← hB]; rfl
  rw [hc]
  have hr : L21.res = [XRes.t 2, XRes.t 3, XRes.t 4] := rfl
  rw [hr]
  clear hc hr
  refine W.seqN ?_
  refine W.rg 3 rfl (fun H1 hg1 hn1 => ?_)
  refine WO.op (by simp only [xval, xop, AR.ofV, St.ev, Tr.get_set, get_bump, next_bump, next_set, next_add, AHeap.get_set, reduceIte, Nat.reduceEqDiff, evL, evParts, fillA, AV.cells, natA, binA, intCmpA, unA, minA, maxA]; rfl) ?_
  refine WO.op (by simp only [xval, xop, AR.ofV, St.ev, Tr.get_set, get_bump, next_bump, next_set, next_add, AHeap.get_set, reduceIte, Nat.reduceEqDiff, evL, evParts, fillA, AV.cells, natA, binA, intCmpA, unA, minA, maxA]; rfl) ?_
  refine WO.op (by simp only [xval, xop, AR.ofV, St.ev, Tr.get_set, get_bump, next_bump, next_set, next_add, AHeap.get_set, reduceIte, Nat.reduceEqDiff, evL, evParts, fillA, AV.cells, natA, binA, intCmpA, unA, minA, maxA]; rfl) ?_
  refine WO.nil ⟨rfl, W.seqN ?_⟩
  refine W.rg 1 rfl (fun H2 hg2 hn2 => ?_)
  refine WO.op (by simp only [xval, xop, AR.ofV, St.ev, Tr.get_set, get_bump, next_bump, next_set, next_add, AHeap.get_set, reduceIte, Nat.reduceEqDiff, evL, evParts, fillA, AV.cells, natA, binA, intCmpA, unA, minA, maxA]; rfl) ?_
  refine WO.nil ⟨rfl, W.seqN ?_⟩
  refine W.rg 1 rfl (fun H3 hg3 hn3 => ?_)
  refine WO.op (by simp only [xval, xop, AR.ofV, St.ev, Tr.get_set, get_bump, next_bump, next_set, next_add, AHeap.get_set, reduceIte, Nat.reduceEqDiff, evL, evParts, fillA, AV.cells, natA, binA, intCmpA, unA, minA, maxA]; rfl) ?_
  refine WO.nil ⟨rfl, W.seqN ?_⟩
  refine W.rg 1 rfl (fun H4 hg4 hn4 => ?_)
  refine WO.op (by simp only [xval, xop, AR.ofV, St.ev, Tr.get_set, get_bump, next_bump, next_set, next_add, AHeap.get_set, reduceIte, Nat.reduceEqDiff, evL, evParts, fillA, AV.cells, natA, binA, intCmpA, unA, minA, maxA]; rfl) ?_
  refine WO.nil ⟨rfl, W.seq (W.seqN ?_)⟩
  have a0 : (argsT [AV.str b] 0 .e).get 0 = some (.str b) := rfl
  refine W.rg 3 rfl (fun H5 hg5 hn5 => ?_)
  refine WO.op (by simp only [xval, xop, AR.ofV, St.ev, Tr.get_set, get_bump, next_bump, next_set, next_add, AHeap.get_set, reduceIte, Nat.reduceEqDiff, evL, evParts, fillA, AV.cells, natA, binA, intCmpA, unA, minA, maxA, a0]; rfl) ?_
  refine WO.op (by simp only [xval, xop, AR.ofV, St.ev, Tr.get_set, get_bump, next_bump, next_set, next_add, AHeap.get_set, reduceIte, Nat.reduceEqDiff, evL, evParts, fillA, AV.cells, natA, binA, intCmpA, unA, minA, maxA, a0]; rfl) ?_
  refine WO.op (by simp only [xval, xop, AR.ofV, St.ev, Tr.get_set, get_bump, next_bump, next_set, next_add, AHeap.get_set, reduceIte, Nat.reduceEqDiff, evL, evParts, fillA, AV.cells, natA, binA, intCmpA, unA, minA, maxA, a0]; rfl) ?_
  refine WO.nil ⟨rfl, W.block (W.loop (α := List UInt8 × Nat × List Nat × List (Nat × Nat) × Nat) (fun x s => LI H0 b x.1 x.2.1 x.2.2.1 x.2.2.2.1 x.2.2.2.2 s ∧ scanL x.1 x.2.1 x.2.2.1 x.2.2.2.1 x.2.2.2.2 = scanL b 0 [] [] 0) (fun x => x.1.length) (b, 0, [], [], 0) ⟨?_, rfl⟩ (by show b.length < 2000; omega) ?_)⟩
  · refine ⟨rfl, by simp, Nat.le_refl _, Nat.le_refl _, ?_, ?_, ?_, ?_, ⟨.nils, .nils, ?_, ?_, Row.nil _ _, Row.nil _ _, fun j hj => (by cases hj), fun j hj => (by cases hj)⟩, by show H0.next ≤ H5.next; omega, fun j hj => by show H5.get j = _; rw [hg5, hg4, hg3, hg2, hg1]⟩
    · simp only [Tr.get_set, get_bump, next_bump, next_set, next_add, AHeap.get_set, reduceIte, Nat.reduceEqDiff]; exact a0
    · simp only [Tr.get_set, get_bump, next_bump, next_set, next_add, AHeap.get_set, reduceIte, Nat.reduceEqDiff]; rfl
    · simp only [Tr.get_set, get_bump, next_bump, next_set, next_add, AHeap.get_set, reduceIte, Nat.reduceEqDiff]; rfl
    · simp only [Tr.get_set, get_bump, next_bump, next_set, next_add, AHeap.get_set, reduceIte, Nat.reduceEqDiff]; rfl
    · simp only [Tr.get_set, get_bump, next_bump, next_set, next_add, AHeap.get_set, reduceIte, Nat.reduceEqDiff]
    · simp only [Tr.get_set, get_bump, next_bump, next_set, next_add, AHeap.get_set, reduceIte, Nat.reduceEqDiff]
  · rintro ⟨r, i, op, out, d⟩ s ⟨hI, hsc⟩
    refine (hbody r i op out d s hI).mono ?_
    rintro e s' ⟨q1, q2⟩
    refine ⟨fun he => ?_, fun he => ?_⟩
    · obtain ⟨x, r', i', op', out', d', e1, e2, e3⟩ := q1 he
      exact ⟨(r', i', op', out', d'), ⟨e3, e2.symm.trans hsc⟩, by show r'.length < r.length; rw [e1]; simp⟩
    · rcases q2 he with ⟨rfl, rfl, hI'⟩ | ⟨rfl, hnone, z2, z3, z4, z5, z6⟩
      · refine bX (pN ?_)
        obtain ⟨hrest, hle, hopl, houtl, t0, t10, t11, t7, ⟨v5, v6, t5, t6, R5, R6, hd5, hd6⟩, nx, fr⟩ := hI'
        obtain ⟨tm, H⟩ := s'
        simp only at t0 t10 t11 t7 t5 t6 R5 R6 nx fr hsc
        have hscan : scanL b 0 [] [] 0 = some (op, out, d) := hsc.symm
        obtain ⟨hnd, hbd⟩ := scanL_inv b 0 [] [] 0 op out d hscan (fun a ha => by cases ha) (fun p hp => by cases hp) (by simp)
        have hle' : i = b.length := by simpa using hle
        refine W.seqN ?_
        refine W.rg 2 rfl (fun H6 hg6 hn6 => ?_)
        refine WO.op (by simp only [xval, xop, AR.ofV, St.ev, Tr.get_set, get_bump, next_bump, next_set, next_add, AHeap.get_set, reduceIte, Nat.reduceEqDiff, evL, evParts, fillA, AV.cells, natA, binA, intCmpA, unA, minA, maxA, t5]; rfl) ?_
        obtain ⟨H7, hcall, R7, hn7, hg7⟩ := sort_call (R5.frame (H' := H6) (by omega) (fun j _ => hg6 j)) hnd (fun p hp => by have := hbd p hp; omega) (by omega)
        refine WO.op (op_call (v := .tup []) (H1 := H7) (by simp only [St.ev, ↓Tr.get_set, ↓reduceIte, Nat.reduceEqDiff]) (l := [v5, .fn 34 []]) (by simp only [evL, St.ev, Tr.get_set, get_bump, next_bump, next_set, next_add, AHeap.get_set, reduceIte, Nat.reduceEqDiff]; rfl) hcall) ?_
        refine WO.nil ⟨rfl, W.seqN ?_⟩
        refine W.rg 8 rfl (fun H8 hg8 hn8 => ?_)
        refine WO.op (by simp only [xval, xop, AR.ofV, St.ev, Tr.get_set, get_bump, next_bump, next_set, next_add, AHeap.get_set, reduceIte, Nat.reduceEqDiff, evL, evParts, fillA, AV.cells, natA, binA, intCmpA, unA, minA, maxA, t5, t6, t7]; rfl) ?_
        refine WO.op (by simp only [xval, xop, AR.ofV, St.ev, Tr.get_set, get_bump, next_bump, next_set, next_add, AHeap.get_set, reduceIte, Nat.reduceEqDiff, evL, evParts, fillA, AV.cells, natA, binA, intCmpA, unA, minA, maxA, t5, t6, t7]; rfl) ?_
        refine WO.op (by simp only [xval, xop, AR.ofV, St.ev, Tr.get_set, get_bump, next_bump, next_set, next_add, AHeap.get_set, reduceIte, Nat.reduceEqDiff, evL, evParts, fillA, AV.cells, natA, binA, intCmpA, unA, minA, maxA, t5, t6, t7]; rfl) ?_
        have R6' : Row 1 H8 v6 op.length (op.map natA) := R6.frame (by omega) (fun j hj => by rw [hg8, hg7 j (fun q => (hd5 j q).1 hj), hg6])
        refine WO.op (op_len R6' (by simp only [St.ev, ↓Tr.get_set, ↓reduceIte, Nat.reduceEqDiff, t6])) ?_
        refine WO.op (by simp only [xval, xop, AR.ofV, St.ev, Tr.get_set, get_bump, next_bump, next_set, next_add, AHeap.get_set, reduceIte, Nat.reduceEqDiff, evL, evParts, fillA, AV.cells, natA, binA, intCmpA, unA, minA, maxA, Int.ofNat_eq_natCast]; rfl) ?_
        refine WO.op (by simp only [xval, xop, AR.ofV, St.ev, Tr.get_set, get_bump, next_bump, next_set, next_add, AHeap.get_set, reduceIte, Nat.reduceEqDiff, evL, evParts, fillA, AV.cells, natA, binA, intCmpA, unA, minA, maxA, t5]; rfl) ?_
        refine WO.op (by simp only [xval, xop, AR.ofV, St.ev, Tr.get_set, get_bump, next_bump, next_set, next_add, AHeap.get_set, reduceIte, Nat.reduceEqDiff, evL, evParts, fillA, AV.cells, natA, binA, intCmpA, unA, minA, maxA, t7]; rfl) ?_
        refine WO.op (by simp only [xval, xop, AR.ofV, St.ev, Tr.get_set, get_bump, next_bump, next_set, next_add, AHeap.get_set, reduceIte, Nat.reduceEqDiff, evL, evParts, fillA, AV.cells, natA, binA, intCmpA, unA, minA, maxA]; rfl) ?_
        refine WO.nil ⟨rfl, W.ret ⟨fun id q => (by cases q), _, by simp only [resL, resA, Tr.get_set, get_bump, next_bump, next_set, next_add, AHeap.get_set, reduceIte, Nat.reduceEqDiff]; rfl, ⟨by show H0.next ≤ H8.next; omega, fun j hj => ?_⟩, ?_⟩⟩
        · show H8.get j = _
          rw [hg8, hg7 j (fun q => by have := (hd5 j q).2; omega), hg6, fr j hj]
        · rw [hscan]
          refine ⟨v5, ?_, R7.frame (by show H7.next ≤ H8.next; omega) (fun j _ => hg8 j), fun j hj => (hd5 j hj).2⟩
          simp only [wrapL, AV.tup.injEq, List.cons.injEq, and_true, true_and, AV.bool.injEq]
          refine ⟨?_, ?_⟩
          · simp only [natA]
          · rw [Bool.eq_iff_iff, beq_iff_eq, beq_iff_eq]; omega
      · refine bR (pR ⟨fun id q => (by cases q), _, by simp only [resL, resA, z2, z3, z4]; rfl, ⟨z5, z6⟩, ?_⟩)
        rw [← hsc, hnone]
        rfl
end Go.Proofs.YtfcgofffalmdfaaDoor.PA
end
section
set_option linter.unusedSimpArgs false
set_option linter.unusedVariables false
namespace Go.Proofs.YtfcgofffalmdfaaDoor.PA
open Go Go.Eng
theorem loops_call {H0 : AHeap} {b : List UInt8} (hb : b.length ≤ 1000) : ∃ v H', xcallK K0 F 2000 41 21 [.str b] H0 = some (v, H') ∧ LoopsQ H0 b v H' := by
  obtain ⟨v, H', h, q⟩ := loops_ok (H0 := H0) hb
  refine ⟨v, H', ?_, q⟩
  rw [show (41 : Nat) = 40 + 1 from rfl]
  unfold xcallK
  exact h
theorem K0_ok : ∀ k, CFok Tryd.prog (xcallK K0 F 2000 k) := xcallK_sound (by kernel_rfl) Tryd.sortK_ok F_ok 2000
end Go.Proofs.YtfcgofffalmdfaaDoor.PA
end
