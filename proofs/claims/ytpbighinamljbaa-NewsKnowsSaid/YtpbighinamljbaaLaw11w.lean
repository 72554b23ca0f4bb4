/- news.KnowsLaw: the list that is wanted, over the abstract machine. No condition. -/
import Derived.Test.YtpbighinamljbaaLaw11
set_option linter.unusedSimpArgs false
set_option linter.unusedVariables false
namespace Go.Proofs.Ytpbighinamljbaa.PA
open Go Go.Eng Go.Proofs
/-- What the loop over the persons keeps. -/
structure WI (e : Nat) (H0 : AHeap) (tm0 : Tr AV) (p : Nat) (kv : AV) (K : List Nat) (i : Nat) (s : St) : Prop where
  le : i ≤ p
  t0 : s.tm.get 0 = some (natA p)
  t11 : s.tm.get 11 = some kv
  t13 : s.tm.get 13 = some (natA i)
  keep : ∀ d, d ∈ [5, 6, 7, 8, 9] → s.tm.get d = tm0.get d
  row : ∃ v vs, s.tm.get 12 = some v ∧ RowE 1 s.H v i vs ∧ (∀ o, v.own = some o → H0.next ≤ o ∨ o = e) ∧
    ∀ j, j < i → ∃ u, vs[j]? = some u ∧ RowE 1 s.H u (memb 6 (K.getD j 0)).length ((memb 6 (K.getD j 0)).map natA) ∧ (∀ o, u.own = some o → H0.next ≤ o ∧ v.own ≠ some o)
  nx : H0.next ≤ s.H.next
  fr : ∀ j, j < H0.next → j ≠ e → s.H.get j = H0.get j
def body11 : XCode := match L11.code with
  | .seq _ (.seq _ (.seq _ (.seq _ (.seq _ (.seq _ (.seq (.seq _ (.block _ (.loop c))) _)))))) => c
  | _ => .skip
theorem rowE_cells {z l : Nat} {H : AHeap} {v : AV} {cs : List AV} (h : RowE z H v l cs) : v.cells = [v] ∧ v.oneCell = true := by
  rcases h with h | ⟨_, _, i, rfl, _⟩
  · exact ⟨row_cells h, row_own1 h⟩
  · exact ⟨rfl, rfl⟩
set_option maxHeartbeats 4000000 in
theorem body11_ok {k fuel p e : Nat} {H0 : AHeap} {tm0 : Tr AV} {kv : AV} {K : List Nat} (hp : p ≤ 6) (hK : K.length = 6) (hlt : ∀ m ∈ K, m < 64) (hkv : Row 1 H0 kv p ((K.take p).map natA)) (hke : ∀ o, kv.own = some o → o ≠ e) (i : Nat) (s : St) (h : WI e H0 tm0 p kv K i s) :
    W (cfZ (k + 1)) fuel body11 s fun x s' => (x = .normal → ∃ j, WI e H0 tm0 p kv K j s' ∧ p - j < p - i) ∧ (x ≠ .normal → x = .exit 0 ∧ WI e H0 tm0 p kv K p s') := by
  obtain ⟨le, t0, t11, t13, keep, ⟨v, vs, t12, Rv, ho, hin⟩, nx, fr⟩ := h
  obtain ⟨tm, H⟩ := s
  simp only at t0 t11 t13 keep t12 Rv hin nx fr
  unfold body11 L11
  dsimp only
  by_cases hi : i < p
  · have hd : decide ((i : Int) < (p : Int)) = true := by simpa using hi
    have hw : wrapA .i64 ((i : Int) + Int.ofNat 1) = ((i + 1 : Nat) : Int) := by
      show wrapA .i64 ((i : Int) + 1) = _
      rw [wrapI _ (by omega) (by omega)]; rfl
    have cell : ((K.take p).map natA)[i]? = some (natA (K.getD i 0)) := by
      rw [List.getElem?_map, List.getElem?_take, if_pos hi, List.getD_eq_getElem?_getD, List.getElem?_eq_getElem (by omega)]
      rfl
    refine W.seqN (W.seqN ?_)
    refine W.rg 3 rfl (fun H1 hg1 hn1 => ?_)
    refine WO.op (by simp only [xval, xop, AR.ofV, St.ev, Tr.get_set, get_bump, next_bump, next_set, next_add, AHeap.get_set, reduceIte, Nat.reduceEqDiff, evL, evParts, fillA, AV.cells, natA, binA, intCmpA, unA, minA, maxA, t13, t0, hd]; rfl) ?_
    refine WO.op (by simp only [xval, xop, AR.ofV, St.ev, Tr.get_set, get_bump, next_bump, next_set, next_add, AHeap.get_set, reduceIte, Nat.reduceEqDiff, evL, evParts, fillA, AV.cells, natA, binA, intCmpA, unA, minA, maxA, t13, t0, hd]; rfl) ?_
    refine WO.op (by simp only [xval, xop, AR.ofV, St.ev, Tr.get_set, get_bump, next_bump, next_set, next_add, AHeap.get_set, reduceIte, Nat.reduceEqDiff, evL, evParts, fillA, AV.cells, natA, binA, intCmpA, unA, minA, maxA, t13, t0, hd]; rfl) ?_
    refine WO.nil ⟨rfl, W.condT (by simp only [St.ev, Tr.get_set, get_bump, next_bump, next_set, next_add, AHeap.get_set, reduceIte, Nat.reduceEqDiff] <;> rfl) (W.skip ⟨rfl, W.seq (W.block ?_)⟩)⟩
    refine W.rg 9 rfl (fun H2 hg2 hn2 => ?_)
    refine WO.op (by simp only [xval, xop, AR.ofV, St.ev, Tr.get_set, get_bump, next_bump, next_set, next_add, AHeap.get_set, reduceIte, Nat.reduceEqDiff, evL, evParts, fillA, AV.cells, natA, binA, intCmpA, unA, minA, maxA, t12, t11, t13]; rfl) ?_
    refine WO.op (by simp only [xval, xop, AR.ofV, St.ev, Tr.get_set, get_bump, next_bump, next_set, next_add, AHeap.get_set, reduceIte, Nat.reduceEqDiff, evL, evParts, fillA, AV.cells, natA, binA, intCmpA, unA, minA, maxA, t12, t11, t13]; rfl) ?_
    refine WO.op (by simp only [xval, xop, AR.ofV, St.ev, Tr.get_set, get_bump, next_bump, next_set, next_add, AHeap.get_set, reduceIte, Nat.reduceEqDiff, evL, evParts, fillA, AV.cells, natA, binA, intCmpA, unA, minA, maxA, t12, t11, t13]; rfl) ?_
    have hk2 : Row 1 H2 kv p ((K.take p).map natA) := hkv.frame (by omega) (fun j q => by rw [hg2, hg1, fr j (hkv.own_lt q) (hke j q)])
    obtain ⟨o, ov, va, lva⟩ := hk2.cellAt hi cell
    refine WO.op (v := .ptr o i) (op_ia (a := kv) (b := natA i) (by simp only [St.ev, Tr.get_set, get_bump, next_bump, next_set, next_add, AHeap.get_set, reduceIte, Nat.reduceEqDiff]) (by simp only [St.ev, Tr.get_set, get_bump, next_bump, next_set, next_add, AHeap.get_set, reduceIte, Nat.reduceEqDiff] <;> rfl) va) ?_
    refine WO.op (v := natA (K.getD i 0)) (op_load (a := .ptr o i) (by simp only [St.ev, Tr.get_set, get_bump, next_bump, next_set, next_add, AHeap.get_set, reduceIte, Nat.reduceEqDiff]) lva) ?_
    obtain ⟨u, H3, c40, Ru, hou, nx3, fr3⟩ := z_40 (k := k) (H := H2) (getD_lt hlt i)
    refine WO.op (v := u) (H1 := H3) (op_call (g := 40) (cs := []) (l := [natA (K.getD i 0)]) rfl (by simp only [evL, St.ev, Tr.get_set, get_bump, next_bump, next_set, next_add, AHeap.get_set, reduceIte, Nat.reduceEqDiff, bind, Option.bind_some]) c40) ?_
    have hown : ∀ o, v.own = some o → o < H.next := fun o q => Rv.own_lt q
    have f3 : ∀ j, j < H.next → H3.get j = H.get j := fun j hj => by rw [fr3 j (by omega), hg2, hg1]
    refine WO.append1E (l := i) (cs := vs) (new := [u]) (v := v) (Rv.frame (by omega) (fun o q => f3 o (hown o q))) (by simp only [St.ev, Tr.get_set, get_bump, next_bump, next_set, next_add, AHeap.get_set, reduceIte, Nat.reduceEqDiff]) (by simp only [evParts, ev_t, Tr.get_set, get_bump, next_bump, next_set, next_add, AHeap.get_set, reduceIte, Nat.reduceEqDiff, bind, Option.bind_some, fillA, (rowE_cells Ru).1, List.length_singleton]; rfl) (by omega) (by omega) (by omega) rfl (by simp only [List.all_cons, List.all_nil, (rowE_cells Ru).2]; rfl) (by omega) (fun q => by have := hown _ q; omega) (fun v' H4 R4 hn4 hg4 ho4 => ?_)
    refine WO.op (by simp only [xval, xop, AR.ofV, St.ev, Tr.get_set, get_bump, next_bump, next_set, next_add, AHeap.get_set, reduceIte, Nat.reduceEqDiff, evL, evParts, fillA, AV.cells, natA, binA, intCmpA, unA, minA, maxA]; rfl) ?_
    refine WO.nil (bN (pN ?_))
    repeat (first | refine W.seq ?_ | refine W.block ?_ | refine W.skip ?_ | refine W.ret ?_ | refine W.exit ?_ | (apply W.reg; · (simp only [List.length_cons, List.length_nil, Nat.reduceAdd]; rfl)) | (apply W.regd0; · (simp only [List.length_cons, List.length_nil, Nat.reduceAdd]; rfl)) | refine WO.nil ?_ | (apply WO.op; · first | exact op_mv (by simp only [St.ev, ↓Tr.get_set, ↓reduceIte, Nat.reduceEqDiff, natA, t13, hw]; rfl) | exact op_bin (by simp only [St.ev, ↓Tr.get_set, ↓reduceIte, Nat.reduceEqDiff, natA, t13, hw]; rfl) (by simp only [St.ev, ↓Tr.get_set, ↓reduceIte, Nat.reduceEqDiff, natA, t13, hw]; rfl) (by simp only [binA, intCmpA, strA, natA, t13, hw]; rfl) | exact op_slen (by simp only [St.ev, ↓Tr.get_set, ↓reduceIte, Nat.reduceEqDiff, natA, t13, hw]; rfl) | exact op_faddr (by simp only [St.ev, ↓Tr.get_set, ↓reduceIte, Nat.reduceEqDiff, natA, t13, hw]; rfl) | exact op_nilc (by simp only [St.ev, ↓Tr.get_set, ↓reduceIte, Nat.reduceEqDiff, natA, t13, hw]; rfl) | exact op_ext (by simp only [St.ev, ↓Tr.get_set, ↓reduceIte, Nat.reduceEqDiff, natA, t13, hw]; rfl) (by rfl) | exact op_pick (by simp only [St.ev, ↓Tr.get_set, ↓reduceIte, Nat.reduceEqDiff, natA, t13, hw]; rfl) (by first | exact .inl ⟨rfl, (by simp only [St.ev, ↓Tr.get_set, ↓reduceIte, Nat.reduceEqDiff, natA, t13, hw]; rfl)⟩ | exact .inr ⟨rfl, (by simp only [St.ev, ↓Tr.get_set, ↓reduceIte, Nat.reduceEqDiff, natA, t13, hw]; rfl)⟩) | exact op_un (by simp only [St.ev, ↓Tr.get_set, ↓reduceIte, Nat.reduceEqDiff, natA, t13, hw]; rfl) (by simp only [unA, t13, hw]; rfl) | (simp only [xval, xop, AR.ofV, St.ev, Tr.get_set, get_bump, next_bump, next_set, next_add, AHeap.get_set, reduceIte, Nat.reduceEqDiff, evL, evParts, fillA, AV.cells, natA, binA, intCmpA, unA, minA, maxA, Nat.add_assoc, Nat.reduceAdd, Nat.add_left_cancel_iff, Nat.add_eq_left, Nat.left_eq_add, loadA, cellsAt, storeA, Option.bind_some, iaddrA, aaddrA, t13, hw]; rfl)) | (apply WO.opn; · (simp only [xval, xop, AR.ofV, St.ev, Tr.get_set, get_bump, next_bump, next_set, next_add, AHeap.get_set, reduceIte, Nat.reduceEqDiff, evL, evParts, fillA, AV.cells, natA, binA, intCmpA, unA, minA, maxA, Nat.add_assoc, Nat.reduceAdd, Nat.add_left_cancel_iff, Nat.add_eq_left, Nat.left_eq_add, loadA, cellsAt, storeA, Option.bind_some, iaddrA, aaddrA, t13, hw]; rfl)) | (apply WO.gop'; (· (simp only [St.ev, ↓Tr.get_set, ↓reduceIte, Nat.reduceEqDiff, natA, t13, hw]; rfl)); (· rfl); (· first | exact op_mv (by simp only [St.ev, ↓Tr.get_set, ↓reduceIte, Nat.reduceEqDiff, natA, t13, hw]; rfl) | exact op_bin (by simp only [St.ev, ↓Tr.get_set, ↓reduceIte, Nat.reduceEqDiff, natA, t13, hw]; rfl) (by simp only [St.ev, ↓Tr.get_set, ↓reduceIte, Nat.reduceEqDiff, natA, t13, hw]; rfl) (by simp only [binA, intCmpA, strA, natA, t13, hw]; rfl) | exact op_slen (by simp only [St.ev, ↓Tr.get_set, ↓reduceIte, Nat.reduceEqDiff, natA, t13, hw]; rfl) | exact op_faddr (by simp only [St.ev, ↓Tr.get_set, ↓reduceIte, Nat.reduceEqDiff, natA, t13, hw]; rfl) | exact op_nilc (by simp only [St.ev, ↓Tr.get_set, ↓reduceIte, Nat.reduceEqDiff, natA, t13, hw]; rfl) | exact op_ext (by simp only [St.ev, ↓Tr.get_set, ↓reduceIte, Nat.reduceEqDiff, natA, t13, hw]; rfl) (by rfl) | exact op_pick (by simp only [St.ev, ↓Tr.get_set, ↓reduceIte, Nat.reduceEqDiff, natA, t13, hw]; rfl) (by first | exact .inl ⟨rfl, (by simp only [St.ev, ↓Tr.get_set, ↓reduceIte, Nat.reduceEqDiff, natA, t13, hw]; rfl)⟩ | exact .inr ⟨rfl, (by simp only [St.ev, ↓Tr.get_set, ↓reduceIte, Nat.reduceEqDiff, natA, t13, hw]; rfl)⟩) | exact op_un (by simp only [St.ev, ↓Tr.get_set, ↓reduceIte, Nat.reduceEqDiff, natA, t13, hw]; rfl) (by simp only [unA, t13, hw]; rfl) | (simp only [xval, xop, AR.ofV, St.ev, Tr.get_set, get_bump, next_bump, next_set, next_add, AHeap.get_set, reduceIte, Nat.reduceEqDiff, evL, evParts, fillA, AV.cells, natA, binA, intCmpA, unA, minA, maxA, Nat.add_assoc, Nat.reduceAdd, Nat.add_left_cancel_iff, Nat.add_eq_left, Nat.left_eq_add, loadA, cellsAt, storeA, Option.bind_some, iaddrA, aaddrA, t13, hw]; rfl))) | (apply WO.gno'; (· (simp only [St.ev, ↓Tr.get_set, ↓reduceIte, Nat.reduceEqDiff, natA, t13, hw]; rfl)); (· rfl)) | refine pN ?_ | refine pR ?_ | refine pX ?_ | refine bN ?_ | refine bR ?_ | refine bX ?_ | refine bO (by decide) ?_ | (apply W.condT'; (· (simp only [St.ev, ↓Tr.get_set, ↓reduceIte, Nat.reduceEqDiff, natA, t13, hw]; rfl)); (· rfl)) | (apply W.condF'; (· (simp only [St.ev, ↓Tr.get_set, ↓reduceIte, Nat.reduceEqDiff, natA, t13, hw]; rfl)); (· rfl)))
    have hul : ∀ o, u.own = some o → o < H3.next := fun o q => Ru.own_lt q
    have h4 : ∀ o, o < H.next → v.own ≠ some o → H4.get o = H.get o := fun o q1 q2 => by rw [hg4 o (by omega) (by omega) q2, f3 o q1]
    refine ⟨i + 1, ⟨by omega, ?_, ?_, ?_, fun d hd => ?_, ⟨v', vs ++ [u], ?_, .inl (R4.frame (by simp only [next_bump]; omega) (fun _ _ => rfl)), fun o q => ?_, fun j hj => ?_⟩, by simp only [next_bump]; omega, fun j hj hje => ?_⟩, by omega⟩
    · simp only [Tr.get_set, get_bump, next_bump, next_set, next_add, AHeap.get_set, reduceIte, Nat.reduceEqDiff] <;> assumption
    · simp only [Tr.get_set, get_bump, next_bump, next_set, next_add, AHeap.get_set, reduceIte, Nat.reduceEqDiff] <;> assumption
    · simp only [Tr.get_set, get_bump, next_bump, next_set, next_add, AHeap.get_set, reduceIte, Nat.reduceEqDiff] <;> rfl
    · have hd' := keep d hd
      simp only [List.mem_cons, List.not_mem_nil, or_false] at hd
      rcases hd with rfl | rfl | rfl | rfl | rfl <;> (simp only [Tr.get_set, get_bump, next_bump, next_set, next_add, AHeap.get_set, reduceIte, Nat.reduceEqDiff] <;> exact hd')
    · simp only [Tr.get_set, get_bump, next_bump, next_set, next_add, AHeap.get_set, reduceIte, Nat.reduceEqDiff]
    · rcases ho4 o q with q | q
      · exact ho o q
      · omega
    · have hvl : vs.length = i := by have := Rv.csl; omega
      by_cases hji : j < i
      · obtain ⟨w, w1, w2, w3⟩ := hin j hji
        have wl : ∀ o, w.own = some o → o < H.next := fun o q => w2.own_lt q
        refine ⟨w, by rw [List.getElem?_append_left (by omega)]; exact w1, w2.frame (by simp only [next_bump]; omega) (fun o q => h4 o (wl o q) (w3 o q).2), fun o q => ⟨(w3 o q).1, fun q' => ?_⟩⟩
        rcases ho4 o q' with q' | q'
        · exact (w3 o q).2 q'
        · have := wl o q; omega
      · have hji' : j = i := by omega
        subst hji'
        refine ⟨u, by rw [List.getElem?_append_right (by omega), hvl, Nat.sub_self]; rfl, Ru.frame (by simp only [next_bump]; omega) (fun o q => ?_), fun o q => ⟨by have := hou o q; omega, fun q' => ?_⟩⟩
        · show H4.get o = _
          have := hou o q
          exact hg4 o (hul o q) (by omega) (fun q' => by have := hown o q'; omega)
        · have h1 := hou o q
          have h2 := hul o q
          rcases ho4 o q' with q' | q'
          · have := hown o q'; omega
          · omega
    · show H4.get j = _
      rw [h4 j (by omega) (fun q => by have := ho j q; omega)]
      exact fr j hj hje
  · have hil : i = p := by omega
    have hd : decide ((i : Int) < (p : Int)) = false := by simp; omega
    repeat (first | refine W.seq ?_ | refine W.block ?_ | refine W.skip ?_ | refine W.ret ?_ | refine W.exit ?_ | (apply W.reg; · (simp only [List.length_cons, List.length_nil, Nat.reduceAdd]; rfl)) | (apply W.regd0; · (simp only [List.length_cons, List.length_nil, Nat.reduceAdd]; rfl)) | refine WO.nil ?_ | (apply WO.op; · first | exact op_mv (by simp only [St.ev, ↓Tr.get_set, ↓reduceIte, Nat.reduceEqDiff, natA, t13, t0, hd]; rfl) | exact op_bin (by simp only [St.ev, ↓Tr.get_set, ↓reduceIte, Nat.reduceEqDiff, natA, t13, t0, hd]; rfl) (by simp only [St.ev, ↓Tr.get_set, ↓reduceIte, Nat.reduceEqDiff, natA, t13, t0, hd]; rfl) (by simp only [binA, intCmpA, strA, natA, t13, t0, hd]; rfl) | exact op_slen (by simp only [St.ev, ↓Tr.get_set, ↓reduceIte, Nat.reduceEqDiff, natA, t13, t0, hd]; rfl) | exact op_faddr (by simp only [St.ev, ↓Tr.get_set, ↓reduceIte, Nat.reduceEqDiff, natA, t13, t0, hd]; rfl) | exact op_nilc (by simp only [St.ev, ↓Tr.get_set, ↓reduceIte, Nat.reduceEqDiff, natA, t13, t0, hd]; rfl) | exact op_ext (by simp only [St.ev, ↓Tr.get_set, ↓reduceIte, Nat.reduceEqDiff, natA, t13, t0, hd]; rfl) (by rfl) | exact op_pick (by simp only [St.ev, ↓Tr.get_set, ↓reduceIte, Nat.reduceEqDiff, natA, t13, t0, hd]; rfl) (by first | exact .inl ⟨rfl, (by simp only [St.ev, ↓Tr.get_set, ↓reduceIte, Nat.reduceEqDiff, natA, t13, t0, hd]; rfl)⟩ | exact .inr ⟨rfl, (by simp only [St.ev, ↓Tr.get_set, ↓reduceIte, Nat.reduceEqDiff, natA, t13, t0, hd]; rfl)⟩) | exact op_un (by simp only [St.ev, ↓Tr.get_set, ↓reduceIte, Nat.reduceEqDiff, natA, t13, t0, hd]; rfl) (by simp only [unA, t13, t0, hd]; rfl) | (simp only [xval, xop, AR.ofV, St.ev, Tr.get_set, get_bump, next_bump, next_set, next_add, AHeap.get_set, reduceIte, Nat.reduceEqDiff, evL, evParts, fillA, AV.cells, natA, binA, intCmpA, unA, minA, maxA, Nat.add_assoc, Nat.reduceAdd, Nat.add_left_cancel_iff, Nat.add_eq_left, Nat.left_eq_add, loadA, cellsAt, storeA, Option.bind_some, iaddrA, aaddrA, t13, t0, hd]; rfl)) | (apply WO.opn; · (simp only [xval, xop, AR.ofV, St.ev, Tr.get_set, get_bump, next_bump, next_set, next_add, AHeap.get_set, reduceIte, Nat.reduceEqDiff, evL, evParts, fillA, AV.cells, natA, binA, intCmpA, unA, minA, maxA, Nat.add_assoc, Nat.reduceAdd, Nat.add_left_cancel_iff, Nat.add_eq_left, Nat.left_eq_add, loadA, cellsAt, storeA, Option.bind_some, iaddrA, aaddrA, t13, t0, hd]; rfl)) | (apply WO.gop'; (· (simp only [St.ev, ↓Tr.get_set, ↓reduceIte, Nat.reduceEqDiff, natA, t13, t0, hd]; rfl)); (· rfl); (· first | exact op_mv (by simp only [St.ev, ↓Tr.get_set, ↓reduceIte, Nat.reduceEqDiff, natA, t13, t0, hd]; rfl) | exact op_bin (by simp only [St.ev, ↓Tr.get_set, ↓reduceIte, Nat.reduceEqDiff, natA, t13, t0, hd]; rfl) (by simp only [St.ev, ↓Tr.get_set, ↓reduceIte, Nat.reduceEqDiff, natA, t13, t0, hd]; rfl) (by simp only [binA, intCmpA, strA, natA, t13, t0, hd]; rfl) | exact op_slen (by simp only [St.ev, ↓Tr.get_set, ↓reduceIte, Nat.reduceEqDiff, natA, t13, t0, hd]; rfl) | exact op_faddr (by simp only [St.ev, ↓Tr.get_set, ↓reduceIte, Nat.reduceEqDiff, natA, t13, t0, hd]; rfl) | exact op_nilc (by simp only [St.ev, ↓Tr.get_set, ↓reduceIte, Nat.reduceEqDiff, natA, t13, t0, hd]; rfl) | exact op_ext (by simp only [St.ev, ↓Tr.get_set, ↓reduceIte, Nat.reduceEqDiff, natA, t13, t0, hd]; rfl) (by rfl) | exact op_pick (by simp only [St.ev, ↓Tr.get_set, ↓reduceIte, Nat.reduceEqDiff, natA, t13, t0, hd]; rfl) (by first | exact .inl ⟨rfl, (by simp only [St.ev, ↓Tr.get_set, ↓reduceIte, Nat.reduceEqDiff, natA, t13, t0, hd]; rfl)⟩ | exact .inr ⟨rfl, (by simp only [St.ev, ↓Tr.get_set, ↓reduceIte, Nat.reduceEqDiff, natA, t13, t0, hd]; rfl)⟩) | exact op_un (by simp only [St.ev, ↓Tr.get_set, ↓reduceIte, Nat.reduceEqDiff, natA, t13, t0, hd]; rfl) (by simp only [unA, t13, t0, hd]; rfl) | (simp only [xval, xop, AR.ofV, St.ev, Tr.get_set, get_bump, next_bump, next_set, next_add, AHeap.get_set, reduceIte, Nat.reduceEqDiff, evL, evParts, fillA, AV.cells, natA, binA, intCmpA, unA, minA, maxA, Nat.add_assoc, Nat.reduceAdd, Nat.add_left_cancel_iff, Nat.add_eq_left, Nat.left_eq_add, loadA, cellsAt, storeA, Option.bind_some, iaddrA, aaddrA, t13, t0, hd]; rfl))) | (apply WO.gno'; (· (simp only [St.ev, ↓Tr.get_set, ↓reduceIte, Nat.reduceEqDiff, natA, t13, t0, hd]; rfl)); (· rfl)) | refine pN ?_ | refine pR ?_ | refine pX ?_ | refine bN ?_ | refine bR ?_ | refine bX ?_ | refine bO (by decide) ?_ | (apply W.condT'; (· (simp only [St.ev, ↓Tr.get_set, ↓reduceIte, Nat.reduceEqDiff, natA, t13, t0, hd]; rfl)); (· rfl)) | (apply W.condF'; (· (simp only [St.ev, ↓Tr.get_set, ↓reduceIte, Nat.reduceEqDiff, natA, t13, t0, hd]; rfl)); (· rfl)))
    subst hil
    refine ⟨rfl, ⟨Nat.le_refl _, ?_, ?_, ?_, fun d hd => ?_, ⟨v, vs, ?_, Rv.frame (by simp only [next_bump]; omega) (fun _ _ => rfl), ho, fun j hj => ?_⟩, by simp only [next_bump]; omega, fr⟩⟩
    · simp only [Tr.get_set, get_bump, next_bump, next_set, next_add, AHeap.get_set, reduceIte, Nat.reduceEqDiff] <;> assumption
    · simp only [Tr.get_set, get_bump, next_bump, next_set, next_add, AHeap.get_set, reduceIte, Nat.reduceEqDiff] <;> assumption
    · simp only [Tr.get_set, get_bump, next_bump, next_set, next_add, AHeap.get_set, reduceIte, Nat.reduceEqDiff] <;> assumption
    · have hd' := keep d hd
      simp only [List.mem_cons, List.not_mem_nil, or_false] at hd
      rcases hd with rfl | rfl | rfl | rfl | rfl <;> (simp only [Tr.get_set, get_bump, next_bump, next_set, next_add, AHeap.get_set, reduceIte, Nat.reduceEqDiff] <;> exact hd')
    · simp only [Tr.get_set, get_bump, next_bump, next_set, next_add, AHeap.get_set, reduceIte, Nat.reduceEqDiff] <;> assumption
    · obtain ⟨u, u1, u2, u3⟩ := hin j hj
      exact ⟨u, u1, u2.frame (by simp only [next_bump]; omega) (fun _ _ => rfl), u3⟩
end Go.Proofs.Ytpbighinamljbaa.PA
