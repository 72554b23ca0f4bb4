/- The reference's Done, joined; the reading of pairs. No condition. -/
import Derived.Test.YtpbighinamljbaaRDone
import Derived.Test.YtpbighinamljbaaInput
set_option linter.unusedSimpArgs false
set_option linter.unusedVariables false
namespace Go.Proofs.Ytpbighinamljbaa.PA
open Go Go.Eng Go.Proofs
theorem x30 {cf : CF} {fuel p : Nat} {H : AHeap} {x : AV} {l : Prs} (h1 : 1 ≤ p) (hp : p ≤ 6) (hl : l.length ≤ 60) (hv : Vld p l) (hx : RowE 2 H x l.length (prsC l))
    (h39 : ∀ (m : Prs) y H, m.length ≤ 60 → Vld p m → RowE 2 H y m.length (prsC m) → ∃ v H', cf 39 [natA p, y] H = some (v, H') ∧ Row 1 H' v p (((runM (begM p) m).take p).map natA) ∧ H.next ≤ H'.next ∧ ∀ j, j < H.next → H'.get j = H.get j)
    (h56 : ∀ (K : List Nat) v H, K.length = 6 → Row 1 H v p ((K.take p).map natA) → ∃ H', cf 56 [v] H = some (.bool (compl p K), H') ∧ H.next ≤ H'.next ∧ ∀ j, H'.get j = H.get j) (hf : 62 < fuel) :
    ∃ v H', xfunc cf fuel L30 [natA p, x] H = some (v, H') ∧ (∃ r, v = .int .i64 r ∧ RDoneR p l r) ∧ H.next ≤ H'.next ∧ ∀ j, j < H.next → H'.get j = H.get j := by
  refine xfunc_of rfl (by show 2 ≤ 19; omega) ?_
  have a0 : (argsT [natA p, x] 0 .e).get 0 = some (natA p) := rfl
  have a1 : (argsT [natA p, x] 0 .e).get 1 = some x := rfl
  generalize argsT [natA p, x] 0 .e = tm at a0 a1
  unfold L30
  dsimp only
  refine W.seqN ?_
  refine W.rg 1 rfl (fun H1 hg1 hn1 => ?_)
  refine WO.op (by simp only [xval, xop, AR.ofV, St.ev, Tr.get_set, get_bump, next_bump, next_set, next_add, AHeap.get_set, reduceIte, Nat.reduceEqDiff, evL, evParts, fillA, AV.cells, natA, binA, intCmpA, unA, minA, maxA]; rfl) ?_
  refine WO.nil ⟨rfl, W.seq (W.seqN ?_)⟩
  refine W.rg 1 rfl (fun H2 hg2 hn2 => ?_)
  refine WO.op (by simp only [xval, xop, AR.ofV, St.ev, Tr.get_set, get_bump, next_bump, next_set, next_add, AHeap.get_set, reduceIte, Nat.reduceEqDiff, evL, evParts, fillA, AV.cells, natA, binA, intCmpA, unA, minA, maxA]; rfl) ?_
  refine WO.nil ⟨rfl, W.block ?_⟩
  refine W.mono (W.loop (TI H p x l) (fun j => l.length + 1 - j) 0 (Q := fun e s' => (e = .exit 0 ∧ RDoneR p l (-1) ∧ H.next ≤ s'.H.next ∧ ∀ j, j < H.next → s'.H.get j = H.get j) ∨ (e = .ret ∧ (∃ r, s'.tm.get 4 = some (.int .i64 r) ∧ RDoneR p l r) ∧ H.next ≤ s'.H.next ∧ ∀ j, j < H.next → s'.H.get j = H.get j)) ⟨by omega, ?_, ?_, ?_, fun j hj => by omega, by show H.next ≤ H2.next; omega, fun j hj => ?_⟩ (by omega) (fun j s h => body30_ok h1 hp hl hv hx h39 h56 j s h)) (fun e s' q => ?_)
  · simp only [Tr.get_set, get_bump, next_bump, next_set, next_add, AHeap.get_set, reduceIte, Nat.reduceEqDiff] <;> assumption
  · simp only [Tr.get_set, get_bump, next_bump, next_set, next_add, AHeap.get_set, reduceIte, Nat.reduceEqDiff] <;> assumption
  · simp only [Tr.get_set, get_bump, next_bump, next_set, next_add, AHeap.get_set, reduceIte, Nat.reduceEqDiff] <;> rfl
  · show H2.get j = _
    rw [hg2, hg1]
  obtain ⟨tm', H'⟩ := s'
  rcases q with ⟨he, hr, nx, fr⟩ | ⟨he, ⟨r, h4, hr⟩, nx, fr⟩
  · subst he
    simp only at nx fr
    refine bX (pN ?_)
    repeat (first | refine W.seq ?_ | refine W.block ?_ | refine W.skip ?_ | refine W.ret ?_ | refine W.exit ?_ | (apply W.reg; · (simp only [List.length_cons, List.length_nil, Nat.reduceAdd]; rfl)) | (apply W.regd0; · (simp only [List.length_cons, List.length_nil, Nat.reduceAdd]; rfl)) | refine WO.nil ?_ | (apply WO.op; · first | exact op_mv (by simp only [St.ev, ↓Tr.get_set, ↓reduceIte, Nat.reduceEqDiff, natA]; rfl) | exact op_bin (by simp only [St.ev, ↓Tr.get_set, ↓reduceIte, Nat.reduceEqDiff, natA]; rfl) (by simp only [St.ev, ↓Tr.get_set, ↓reduceIte, Nat.reduceEqDiff, natA]; rfl) (by simp only [binA, intCmpA, strA, natA]; rfl) | exact op_slen (by simp only [St.ev, ↓Tr.get_set, ↓reduceIte, Nat.reduceEqDiff, natA]; rfl) | exact op_faddr (by simp only [St.ev, ↓Tr.get_set, ↓reduceIte, Nat.reduceEqDiff, natA]; rfl) | exact op_nilc (by simp only [St.ev, ↓Tr.get_set, ↓reduceIte, Nat.reduceEqDiff, natA]; rfl) | exact op_ext (by simp only [St.ev, ↓Tr.get_set, ↓reduceIte, Nat.reduceEqDiff, natA]; rfl) (by rfl) | exact op_pick (by simp only [St.ev, ↓Tr.get_set, ↓reduceIte, Nat.reduceEqDiff, natA]; rfl) (by first | exact .inl ⟨rfl, (by simp only [St.ev, ↓Tr.get_set, ↓reduceIte, Nat.reduceEqDiff, natA]; rfl)⟩ | exact .inr ⟨rfl, (by simp only [St.ev, ↓Tr.get_set, ↓reduceIte, Nat.reduceEqDiff, natA]; rfl)⟩) | exact op_un (by simp only [St.ev, ↓Tr.get_set, ↓reduceIte, Nat.reduceEqDiff, natA]; rfl) (by simp only [unA]; rfl) | (simp only [xval, xop, AR.ofV, St.ev, Tr.get_set, get_bump, next_bump, next_set, next_add, AHeap.get_set, reduceIte, Nat.reduceEqDiff, evL, evParts, fillA, AV.cells, natA, binA, intCmpA, unA, minA, maxA, Nat.add_assoc, Nat.reduceAdd, Nat.add_left_cancel_iff, Nat.add_eq_left, Nat.left_eq_add, loadA, cellsAt, storeA, Option.bind_some, iaddrA, aaddrA]; rfl)) | (apply WO.opn; · (simp only [xval, xop, AR.ofV, St.ev, Tr.get_set, get_bump, next_bump, next_set, next_add, AHeap.get_set, reduceIte, Nat.reduceEqDiff, evL, evParts, fillA, AV.cells, natA, binA, intCmpA, unA, minA, maxA, Nat.add_assoc, Nat.reduceAdd, Nat.add_left_cancel_iff, Nat.add_eq_left, Nat.left_eq_add, loadA, cellsAt, storeA, Option.bind_some, iaddrA, aaddrA]; rfl)) | (apply WO.gop'; (· (simp only [St.ev, ↓Tr.get_set, ↓reduceIte, Nat.reduceEqDiff, natA]; rfl)); (· rfl); (· first | exact op_mv (by simp only [St.ev, ↓Tr.get_set, ↓reduceIte, Nat.reduceEqDiff, natA]; rfl) | exact op_bin (by simp only [St.ev, ↓Tr.get_set, ↓reduceIte, Nat.reduceEqDiff, natA]; rfl) (by simp only [St.ev, ↓Tr.get_set, ↓reduceIte, Nat.reduceEqDiff, natA]; rfl) (by simp only [binA, intCmpA, strA, natA]; rfl) | exact op_slen (by simp only [St.ev, ↓Tr.get_set, ↓reduceIte, Nat.reduceEqDiff, natA]; rfl) | exact op_faddr (by simp only [St.ev, ↓Tr.get_set, ↓reduceIte, Nat.reduceEqDiff, natA]; rfl) | exact op_nilc (by simp only [St.ev, ↓Tr.get_set, ↓reduceIte, Nat.reduceEqDiff, natA]; rfl) | exact op_ext (by simp only [St.ev, ↓Tr.get_set, ↓reduceIte, Nat.reduceEqDiff, natA]; rfl) (by rfl) | exact op_pick (by simp only [St.ev, ↓Tr.get_set, ↓reduceIte, Nat.reduceEqDiff, natA]; rfl) (by first | exact .inl ⟨rfl, (by simp only [St.ev, ↓Tr.get_set, ↓reduceIte, Nat.reduceEqDiff, natA]; rfl)⟩ | exact .inr ⟨rfl, (by simp only [St.ev, ↓Tr.get_set, ↓reduceIte, Nat.reduceEqDiff, natA]; rfl)⟩) | exact op_un (by simp only [St.ev, ↓Tr.get_set, ↓reduceIte, Nat.reduceEqDiff, natA]; rfl) (by simp only [unA]; rfl) | (simp only [xval, xop, AR.ofV, St.ev, Tr.get_set, get_bump, next_bump, next_set, next_add, AHeap.get_set, reduceIte, Nat.reduceEqDiff, evL, evParts, fillA, AV.cells, natA, binA, intCmpA, unA, minA, maxA, Nat.add_assoc, Nat.reduceAdd, Nat.add_left_cancel_iff, Nat.add_eq_left, Nat.left_eq_add, loadA, cellsAt, storeA, Option.bind_some, iaddrA, aaddrA]; rfl))) | (apply WO.gno'; (· (simp only [St.ev, ↓Tr.get_set, ↓reduceIte, Nat.reduceEqDiff, natA]; rfl)); (· rfl)) | refine pN ?_ | refine pR ?_ | refine pX ?_ | refine bN ?_ | refine bR ?_ | refine bX ?_ | refine bO (by decide) ?_ | (apply W.condT'; (· (simp only [St.ev, ↓Tr.get_set, ↓reduceIte, Nat.reduceEqDiff, natA]; rfl)); (· rfl)) | (apply W.condF'; (· (simp only [St.ev, ↓Tr.get_set, ↓reduceIte, Nat.reduceEqDiff, natA]; rfl)); (· rfl)))
    exact ⟨fun id q => (by cases q), _, by simp only [resL, resA, Tr.get_set, get_bump, next_bump, next_set, next_add, AHeap.get_set, reduceIte, Nat.reduceEqDiff]; rfl, ⟨_, rfl, hr⟩, by simp only [next_bump]; omega, fr⟩
  · subst he
    simp only at h4 nx fr
    refine bR (pR ?_)
    exact ⟨fun id q => (by cases q), _, by simp only [resL, resA, h4]; rfl, ⟨r, rfl, hr⟩, nx, fr⟩
theorem z_39 {k p : Nat} {H : AHeap} {x : AV} {l : Prs} (h1 : 1 ≤ p) (hp : p ≤ 6) (hl : l.length ≤ 60) (hv : Vld p l) (hx : RowE 2 H x l.length (prsC l)) :
    ∃ v H', cfZ (k + 1) 39 [natA p, x] H = some (v, H') ∧ Row 1 H' v p (((runM (begM p) l).take p).map natA) ∧ H.next ≤ H'.next ∧ ∀ j, j < H.next → H'.get j = H.get j := by
  obtain ⟨v, H', c, r, _, n, f⟩ := x39 (cf := cfZ k) (fuel := 300) h1 hp hl hv hx (by omega)
  exact ⟨v, H', (cfZ_step rfl rfl).trans c, r, n, f⟩
theorem z_56 {k p : Nat} {H : AHeap} {v : AV} {K : List Nat} (hp : p ≤ 6) (hK : K.length = 6) (R : Row 1 H v p ((K.take p).map natA)) : ∃ H', cfZ (k + 1) 56 [v] H = some (.bool (compl p K), H') ∧ H.next ≤ H'.next ∧ ∀ j, H'.get j = H.get j := by
  obtain ⟨r, H', c, rfl, n⟩ := x56 (cf := cfZ k) (fuel := 300) hp hK R (by omega)
  exact ⟨H', (cfZ_step rfl rfl).trans c, n⟩
theorem z_30 {k p : Nat} {H : AHeap} {x : AV} {l : Prs} (h1 : 1 ≤ p) (hp : p ≤ 6) (hl : l.length ≤ 60) (hv : Vld p l) (hx : RowE 2 H x l.length (prsC l)) :
    ∃ r H', cfZ (k + 2) 30 [natA p, x] H = some (.int .i64 r, H') ∧ RDoneR p l r ∧ H.next ≤ H'.next ∧ ∀ j, j < H.next → H'.get j = H.get j := by
  obtain ⟨v, H', c, ⟨r, rfl, hr⟩, n⟩ := x30 (cf := cfZ (k + 1)) (fuel := 300) h1 hp hl hv hx (fun m y H hm hv hy => z_39 h1 hp hm hv hy) (fun K v H hK R => z_56 hp hK R) (by omega)
  exact ⟨r, H', (cfZ_step rfl rfl).trans c, hr, n⟩
end Go.Proofs.Ytpbighinamljbaa.PA
