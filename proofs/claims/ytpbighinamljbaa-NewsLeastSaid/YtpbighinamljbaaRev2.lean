/- news.ReversedLaw, over the abstract machine: the comparison. No condition. -/
import Derived.Test.YtpbighinamljbaaRev1
set_option linter.unusedSimpArgs false
set_option linter.unusedVariables false
namespace Go.Proofs.Ytpbighinamljbaa.PA
open Go Go.Eng Go.Proofs

theorem tabBitN : ((List.range 64).all fun m => (List.range 6).all fun i => (match binA .shr (natA m) (natA i) with
    | some y => AV.beq y (natA (m >>> i)) && (match binA .and y (.int .i64 (.ofNat 1)) with
      | some z => AV.beq z (natA (if m.testBit i then 1 else 0))
      | none => false)
    | none => false)) = true := by kernel_rfl
theorem bitN_ops {m i : Nat} (hm : m < 64) (hi : i < 6) : binA .shr (natA m) (natA i) = some (natA (m >>> i)) ∧ binA .and (natA (m >>> i)) (.int .i64 (.ofNat 1)) = some (natA (if m.testBit i then 1 else 0)) := by
  have h := tabBitN
  rw [List.all_eq_true] at h
  have h1 := h m (List.mem_range.2 hm)
  rw [List.all_eq_true] at h1
  have h2 := h1 i (List.mem_range.2 hi)
  split at h2
  · rename_i y hy
    rw [Bool.and_eq_true] at h2
    have e1 := AV.beq_sound h2.1
    subst e1
    have h3 := h2.2
    split at h3
    · rename_i z hz
      have e2 := AV.beq_sound h3
      subst e2
      exact ⟨hy, hz⟩
    · cases h3
  · cases h2

theorem Kn.at {H : AHeap} {n : Nat} {K : List Nat} {v : AV} (h : Kn H n K v) {i : Nat} (hi : i < n) :
    ∃ o u, iaddrA 1 v (.int .i64 (i : Int)) = some (.ptr o i) ∧ loadA H none (.ptr o i) = some u ∧ Row 1 H u (memb n (K.getD i 0)).length ((memb n (K.getD i 0)).map natA) := by
  obtain ⟨vs, h1, h2⟩ := h
  obtain ⟨u, u1, u2, _⟩ := h2 i hi
  obtain ⟨o, _, q2, q3⟩ := h1.cellAt hi u1
  exact ⟨o, u, q2, q3, u2⟩

/-- What the comparison's inner loop keeps. -/
structure JI (H0 : AHeap) (n : Nat) (v1 v2 : AV) (i j : Nat) (s : St) : Prop where
  le : j ≤ n
  t5 : s.tm.get 5 = some (natA n)
  t9 : s.tm.get 9 = some v1
  t11 : s.tm.get 11 = some v2
  t13 : s.tm.get 13 = some (natA i)
  t14 : s.tm.get 14 = some (natA j)
  nx : H0.next ≤ s.H.next
  fr : ∀ j, j < H0.next → s.H.get j = H0.get j

def obody13 : XCode := match L13.code with
  | .seq _ (.seq _ (.seq _ (.seq _ (.seq _ (.seq _ (.seq _ (.seq (.seq _ (.block _ (.loop c))) _))))))) => c
  | _ => .skip
def ibody13 : XCode := match obody13 with
  | .seq _ (.seq (.block _ (.seq _ (.block _ (.loop c)))) _) => c
  | _ => .skip

set_option maxHeartbeats 4000000 in
theorem ibody13_ok {k fuel n : Nat} {H0 : AHeap} {v1 v2 : AV} {K1 K2 : List Nat} {i : Nat} (hn : n ≤ 6) (h1 : Kn H0 n K1 v1) (h2 : Kn H0 n K2 v2) (l1 : ∀ m ∈ K1, m < 2 ^ n) (l2 : ∀ m ∈ K2, m < 2 ^ n) (hi : i < n)
    (hp : ∀ j, j < n → (K1.getD i 0).testBit j = (K2.getD j 0).testBit i) (j : Nat) (s : St) (h : JI H0 n v1 v2 i j s) :
    W (cfL k) fuel ibody13 s fun e s' => (e = .normal → ∃ m, JI H0 n v1 v2 i m s' ∧ n - m < n - j) ∧ (e ≠ .normal → e = .exit 4 ∧ JI H0 n v1 v2 i n s') := by
  obtain ⟨le, t5, t9, t11, t13, t14, nx, fr⟩ := h
  obtain ⟨tm, H⟩ := s
  simp only at t5 t9 t11 t13 t14 nx fr
  unfold ibody13 obody13 L13
  dsimp only
  by_cases hj : j < n
  · have hd : decide ((j : Int) < (n : Int)) = true := by simpa using hj
    have hw : wrapA .i64 ((j : Int) + Int.ofNat 1) = ((j + 1 : Nat) : Int) := by
      show wrapA .i64 ((j : Int) + 1) = _
      rw [wrapI _ (by omega) (by omega)]; rfl
    refine W.seqN (W.seqN ?_)
    refine W.rg 3 rfl (fun H1 hg1 hn1 => ?_)
    refine WO.op (by simp only [xval, xop, AR.ofV, St.ev, Tr.get_set, get_bump, next_bump, next_set, next_add, AHeap.get_set, reduceIte, Nat.reduceEqDiff, evL, evParts, fillA, AV.cells, natA, binA, intCmpA, unA, minA, maxA, t14, t5, hd]; rfl) ?_
    refine WO.op (by simp only [xval, xop, AR.ofV, St.ev, Tr.get_set, get_bump, next_bump, next_set, next_add, AHeap.get_set, reduceIte, Nat.reduceEqDiff, evL, evParts, fillA, AV.cells, natA, binA, intCmpA, unA, minA, maxA, t14, t5, hd]; rfl) ?_
    refine WO.op (by simp only [xval, xop, AR.ofV, St.ev, Tr.get_set, get_bump, next_bump, next_set, next_add, AHeap.get_set, reduceIte, Nat.reduceEqDiff, evL, evParts, fillA, AV.cells, natA, binA, intCmpA, unA, minA, maxA, t14, t5, hd]; rfl) ?_
    refine WO.nil ⟨rfl, W.condT (by simp only [St.ev, Tr.get_set, get_bump, next_bump, next_set, next_add, AHeap.get_set, reduceIte, Nat.reduceEqDiff] <;> rfl) (W.skip ⟨rfl, W.seq (W.block (W.seqN ?_))⟩)⟩
    refine W.regC 35 rfl (by decide) (fun H2 hg2 hn2 => ?_)
    have lt1 : K1.getD i 0 < 2 ^ n := by
      rw [List.getD_eq_getElem?_getD]
      cases h : K1[i]? with
      | none => simp; exact Nat.two_pow_pos n
      | some m => exact l1 m (List.mem_of_getElem? h)
    have lt2 : K2.getD j 0 < 2 ^ n := by
      rw [List.getD_eq_getElem?_getD]
      cases h : K2[j]? with
      | none => simp; exact Nat.two_pow_pos n
      | some m => exact l2 m (List.mem_of_getElem? h)
    have fr2 : ∀ j, j < H0.next → H2.get j = H0.get j := fun j hj => by rw [hg2, hg1, fr j hj]
    have k1 : Kn H2 n K1 v1 := h1.frame (by omega) fr2
    have k2 : Kn H2 n K2 v2 := h2.frame (by omega) fr2
    obtain ⟨o1, u1, a1, a2, a3⟩ := k1.at hi
    obtain ⟨o2, u2, b1, b2, b3⟩ := k2.at hj
    have c1 := cf_24 (k := k) hn lt1 a3
    have c2 := cf_25 (k := k) hn lt1 a3
    have c3 := cf_24 (k := k) hn lt2 b3
    have c4 := cf_25 (k := k) hn lt2 b3
    have p26 : 2 ^ n ≤ 64 := Nat.le_trans (Nat.pow_le_pow_right (by omega) hn) (by decide)
    obtain ⟨e1, e2⟩ := bitN_ops (m := K1.getD i 0) (i := j) (by omega) (by omega)
    obtain ⟨e3, e4⟩ := bitN_ops (m := K2.getD j 0) (i := i) (by omega) (by omega)
    rw [← hp j hj] at e4
    generalize K1.getD i 0 = m1 at *
    generalize K2.getD j 0 = m2 at *
    simp only [natA] at e1 e2 e3 e4
    generalize hbb : (if m1.testBit j = true then 1 else 0) = bb at *
    have e5 : binA .neq (.int .i64 ((bb : Nat) : Int)) (.int .i64 (bb : Int)) = some (.bool false) := by
      simp [binA, intCmpA]
    repeat (first | refine WC.nil ?_ | (apply WC.op; · first | exact op_mv (by simp only [St.ev, ↓Tr.get_set, ↓reduceIte, Nat.reduceEqDiff, natA, t5, t9, t11, t13, t14]; rfl) | exact op_bin (by simp only [St.ev, ↓Tr.get_set, ↓reduceIte, Nat.reduceEqDiff, natA, t5, t9, t11, t13, t14]; rfl) (by simp only [St.ev, ↓Tr.get_set, ↓reduceIte, Nat.reduceEqDiff, natA, t5, t9, t11, t13, t14]; rfl) (by first | exact a1 | exact a2 | exact b1 | exact b2 | exact c1 | exact c2 | exact c3 | exact c4 | exact e1 | exact e2 | exact e3 | exact e4 | exact e5) | exact op_bin (by simp only [St.ev, ↓Tr.get_set, ↓reduceIte, Nat.reduceEqDiff, natA, t5, t9, t11, t13, t14]; rfl) (by simp only [St.ev, ↓Tr.get_set, ↓reduceIte, Nat.reduceEqDiff, natA, t5, t9, t11, t13, t14]; rfl) (by simp only [binA, intCmpA, strA, natA, t5, t9, t11, t13, t14]; rfl) | exact op_ia (by simp only [St.ev, ↓Tr.get_set, ↓reduceIte, Nat.reduceEqDiff, natA, t5, t9, t11, t13, t14]; rfl) (by simp only [St.ev, ↓Tr.get_set, ↓reduceIte, Nat.reduceEqDiff, natA, t5, t9, t11, t13, t14]; rfl) (by first | exact a1 | exact a2 | exact b1 | exact b2 | exact c1 | exact c2 | exact c3 | exact c4 | exact e1 | exact e2 | exact e3 | exact e4 | exact e5) | exact op_load (by simp only [St.ev, ↓Tr.get_set, ↓reduceIte, Nat.reduceEqDiff, natA, t5, t9, t11, t13, t14]; rfl) (by first | exact a1 | exact a2 | exact b1 | exact b2 | exact c1 | exact c2 | exact c3 | exact c4 | exact e1 | exact e2 | exact e3 | exact e4 | exact e5) | exact op_lenL (by simp only [St.ev, ↓Tr.get_set, ↓reduceIte, Nat.reduceEqDiff, natA, t5, t9, t11, t13, t14]; rfl) (by first | exact a1 | exact a2 | exact b1 | exact b2 | exact c1 | exact c2 | exact c3 | exact c4 | exact e1 | exact e2 | exact e3 | exact e4 | exact e5) | exact op_ext (by simp only [St.ev, ↓Tr.get_set, ↓reduceIte, Nat.reduceEqDiff, natA, t5, t9, t11, t13, t14]; rfl) (by rfl) | exact op_call rfl (by simp only [evL, St.ev, ↓Tr.get_set, ↓reduceIte, Nat.reduceEqDiff, bind, Option.bind_some, natA, t5, t9, t11, t13, t14]; rfl) (by first | exact a1 | exact a2 | exact b1 | exact b2 | exact c1 | exact c2 | exact c3 | exact c4 | exact e1 | exact e2 | exact e3 | exact e4 | exact e5) | exact op_pick (by simp only [St.ev, ↓Tr.get_set, ↓reduceIte, Nat.reduceEqDiff, natA, t5, t9, t11, t13, t14]; rfl) (by first | exact .inl ⟨rfl, (by simp only [St.ev, ↓Tr.get_set, ↓reduceIte, Nat.reduceEqDiff, natA, t5, t9, t11, t13, t14]; rfl)⟩ | exact .inr ⟨rfl, (by simp only [St.ev, ↓Tr.get_set, ↓reduceIte, Nat.reduceEqDiff, natA, t5, t9, t11, t13, t14]; rfl)⟩) | exact op_un (by simp only [St.ev, ↓Tr.get_set, ↓reduceIte, Nat.reduceEqDiff, natA, t5, t9, t11, t13, t14]; rfl) (by simp only [unA, t5, t9, t11, t13, t14]; rfl)) | (apply WC.gop'; (· (simp only [St.ev, ↓Tr.get_set, ↓reduceIte, Nat.reduceEqDiff, natA, t5, t9, t11, t13, t14]; rfl)); (· rfl); (· first | exact op_mv (by simp only [St.ev, ↓Tr.get_set, ↓reduceIte, Nat.reduceEqDiff, natA, t5, t9, t11, t13, t14]; rfl) | exact op_bin (by simp only [St.ev, ↓Tr.get_set, ↓reduceIte, Nat.reduceEqDiff, natA, t5, t9, t11, t13, t14]; rfl) (by simp only [St.ev, ↓Tr.get_set, ↓reduceIte, Nat.reduceEqDiff, natA, t5, t9, t11, t13, t14]; rfl) (by first | exact a1 | exact a2 | exact b1 | exact b2 | exact c1 | exact c2 | exact c3 | exact c4 | exact e1 | exact e2 | exact e3 | exact e4 | exact e5) | exact op_bin (by simp only [St.ev, ↓Tr.get_set, ↓reduceIte, Nat.reduceEqDiff, natA, t5, t9, t11, t13, t14]; rfl) (by simp only [St.ev, ↓Tr.get_set, ↓reduceIte, Nat.reduceEqDiff, natA, t5, t9, t11, t13, t14]; rfl) (by simp only [binA, intCmpA, strA, natA, t5, t9, t11, t13, t14]; rfl) | exact op_ia (by simp only [St.ev, ↓Tr.get_set, ↓reduceIte, Nat.reduceEqDiff, natA, t5, t9, t11, t13, t14]; rfl) (by simp only [St.ev, ↓Tr.get_set, ↓reduceIte, Nat.reduceEqDiff, natA, t5, t9, t11, t13, t14]; rfl) (by first | exact a1 | exact a2 | exact b1 | exact b2 | exact c1 | exact c2 | exact c3 | exact c4 | exact e1 | exact e2 | exact e3 | exact e4 | exact e5) | exact op_load (by simp only [St.ev, ↓Tr.get_set, ↓reduceIte, Nat.reduceEqDiff, natA, t5, t9, t11, t13, t14]; rfl) (by first | exact a1 | exact a2 | exact b1 | exact b2 | exact c1 | exact c2 | exact c3 | exact c4 | exact e1 | exact e2 | exact e3 | exact e4 | exact e5) | exact op_lenL (by simp only [St.ev, ↓Tr.get_set, ↓reduceIte, Nat.reduceEqDiff, natA, t5, t9, t11, t13, t14]; rfl) (by first | exact a1 | exact a2 | exact b1 | exact b2 | exact c1 | exact c2 | exact c3 | exact c4 | exact e1 | exact e2 | exact e3 | exact e4 | exact e5) | exact op_ext (by simp only [St.ev, ↓Tr.get_set, ↓reduceIte, Nat.reduceEqDiff, natA, t5, t9, t11, t13, t14]; rfl) (by rfl) | exact op_call rfl (by simp only [evL, St.ev, ↓Tr.get_set, ↓reduceIte, Nat.reduceEqDiff, bind, Option.bind_some, natA, t5, t9, t11, t13, t14]; rfl) (by first | exact a1 | exact a2 | exact b1 | exact b2 | exact c1 | exact c2 | exact c3 | exact c4 | exact e1 | exact e2 | exact e3 | exact e4 | exact e5) | exact op_pick (by simp only [St.ev, ↓Tr.get_set, ↓reduceIte, Nat.reduceEqDiff, natA, t5, t9, t11, t13, t14]; rfl) (by first | exact .inl ⟨rfl, (by simp only [St.ev, ↓Tr.get_set, ↓reduceIte, Nat.reduceEqDiff, natA, t5, t9, t11, t13, t14]; rfl)⟩ | exact .inr ⟨rfl, (by simp only [St.ev, ↓Tr.get_set, ↓reduceIte, Nat.reduceEqDiff, natA, t5, t9, t11, t13, t14]; rfl)⟩) | exact op_un (by simp only [St.ev, ↓Tr.get_set, ↓reduceIte, Nat.reduceEqDiff, natA, t5, t9, t11, t13, t14]; rfl) (by simp only [unA, t5, t9, t11, t13, t14]; rfl))) | (apply WC.gno'; (· (simp only [St.ev, ↓Tr.get_set, ↓reduceIte, Nat.reduceEqDiff, natA, t5, t9, t11, t13, t14]; rfl)); (· rfl)))
    refine ⟨rfl, W.condF' (by simp only [St.ev, Tr.get_set, get_bump, next_bump, next_set, next_add, AHeap.get_set, reduceIte, Nat.reduceEqDiff] <;> rfl) rfl (W.skip (bN (pN ?_)))⟩
    repeat (first | refine W.seq ?_ | refine W.block ?_ | refine W.skip ?_ | refine W.ret ?_ | refine W.exit ?_ | (apply W.reg; · (simp only [List.length_cons, List.length_nil, Nat.reduceAdd]; rfl)) | (apply W.regd0; · (simp only [List.length_cons, List.length_nil, Nat.reduceAdd]; rfl)) | refine WO.nil ?_ | (apply WO.op; · first | exact op_mv (by simp only [St.ev, ↓Tr.get_set, ↓reduceIte, Nat.reduceEqDiff, natA, t14, hw]; rfl) | exact op_bin (by simp only [St.ev, ↓Tr.get_set, ↓reduceIte, Nat.reduceEqDiff, natA, t14, hw]; rfl) (by simp only [St.ev, ↓Tr.get_set, ↓reduceIte, Nat.reduceEqDiff, natA, t14, hw]; rfl) (by simp only [binA, intCmpA, strA, natA, t14, hw]; rfl) | exact op_slen (by simp only [St.ev, ↓Tr.get_set, ↓reduceIte, Nat.reduceEqDiff, natA, t14, hw]; rfl) | exact op_faddr (by simp only [St.ev, ↓Tr.get_set, ↓reduceIte, Nat.reduceEqDiff, natA, t14, hw]; rfl) | exact op_nilc (by simp only [St.ev, ↓Tr.get_set, ↓reduceIte, Nat.reduceEqDiff, natA, t14, hw]; rfl) | exact op_ext (by simp only [St.ev, ↓Tr.get_set, ↓reduceIte, Nat.reduceEqDiff, natA, t14, hw]; rfl) (by rfl) | exact op_pick (by simp only [St.ev, ↓Tr.get_set, ↓reduceIte, Nat.reduceEqDiff, natA, t14, hw]; rfl) (by first | exact .inl ⟨rfl, (by simp only [St.ev, ↓Tr.get_set, ↓reduceIte, Nat.reduceEqDiff, natA, t14, hw]; rfl)⟩ | exact .inr ⟨rfl, (by simp only [St.ev, ↓Tr.get_set, ↓reduceIte, Nat.reduceEqDiff, natA, t14, hw]; rfl)⟩) | exact op_un (by simp only [St.ev, ↓Tr.get_set, ↓reduceIte, Nat.reduceEqDiff, natA, t14, hw]; rfl) (by simp only [unA, t14, hw]; rfl) | (simp only [xval, xop, AR.ofV, St.ev, Tr.get_set, get_bump, next_bump, next_set, next_add, AHeap.get_set, reduceIte, Nat.reduceEqDiff, evL, evParts, fillA, AV.cells, natA, binA, intCmpA, unA, minA, maxA, Nat.add_assoc, Nat.reduceAdd, Nat.add_left_cancel_iff, Nat.add_eq_left, Nat.left_eq_add, loadA, cellsAt, storeA, Option.bind_some, iaddrA, aaddrA, t14, hw]; rfl)) | (apply WO.opn; · (simp only [xval, xop, AR.ofV, St.ev, Tr.get_set, get_bump, next_bump, next_set, next_add, AHeap.get_set, reduceIte, Nat.reduceEqDiff, evL, evParts, fillA, AV.cells, natA, binA, intCmpA, unA, minA, maxA, Nat.add_assoc, Nat.reduceAdd, Nat.add_left_cancel_iff, Nat.add_eq_left, Nat.left_eq_add, loadA, cellsAt, storeA, Option.bind_some, iaddrA, aaddrA, t14, hw]; rfl)) | (apply WO.gop'; (· (simp only [St.ev, ↓Tr.get_set, ↓reduceIte, Nat.reduceEqDiff, natA, t14, hw]; rfl)); (· rfl); (· first | exact op_mv (by simp only [St.ev, ↓Tr.get_set, ↓reduceIte, Nat.reduceEqDiff, natA, t14, hw]; rfl) | exact op_bin (by simp only [St.ev, ↓Tr.get_set, ↓reduceIte, Nat.reduceEqDiff, natA, t14, hw]; rfl) (by simp only [St.ev, ↓Tr.get_set, ↓reduceIte, Nat.reduceEqDiff, natA, t14, hw]; rfl) (by simp only [binA, intCmpA, strA, natA, t14, hw]; rfl) | exact op_slen (by simp only [St.ev, ↓Tr.get_set, ↓reduceIte, Nat.reduceEqDiff, natA, t14, hw]; rfl) | exact op_faddr (by simp only [St.ev, ↓Tr.get_set, ↓reduceIte, Nat.reduceEqDiff, natA, t14, hw]; rfl) | exact op_nilc (by simp only [St.ev, ↓Tr.get_set, ↓reduceIte, Nat.reduceEqDiff, natA, t14, hw]; rfl) | exact op_ext (by simp only [St.ev, ↓Tr.get_set, ↓reduceIte, Nat.reduceEqDiff, natA, t14, hw]; rfl) (by rfl) | exact op_pick (by simp only [St.ev, ↓Tr.get_set, ↓reduceIte, Nat.reduceEqDiff, natA, t14, hw]; rfl) (by first | exact .inl ⟨rfl, (by simp only [St.ev, ↓Tr.get_set, ↓reduceIte, Nat.reduceEqDiff, natA, t14, hw]; rfl)⟩ | exact .inr ⟨rfl, (by simp only [St.ev, ↓Tr.get_set, ↓reduceIte, Nat.reduceEqDiff, natA, t14, hw]; rfl)⟩) | exact op_un (by simp only [St.ev, ↓Tr.get_set, ↓reduceIte, Nat.reduceEqDiff, natA, t14, hw]; rfl) (by simp only [unA, t14, hw]; rfl) | (simp only [xval, xop, AR.ofV, St.ev, Tr.get_set, get_bump, next_bump, next_set, next_add, AHeap.get_set, reduceIte, Nat.reduceEqDiff, evL, evParts, fillA, AV.cells, natA, binA, intCmpA, unA, minA, maxA, Nat.add_assoc, Nat.reduceAdd, Nat.add_left_cancel_iff, Nat.add_eq_left, Nat.left_eq_add, loadA, cellsAt, storeA, Option.bind_some, iaddrA, aaddrA, t14, hw]; rfl))) | (apply WO.gno'; (· (simp only [St.ev, ↓Tr.get_set, ↓reduceIte, Nat.reduceEqDiff, natA, t14, hw]; rfl)); (· rfl)) | refine pN ?_ | refine pR ?_ | refine pX ?_ | refine bN ?_ | refine bR ?_ | refine bX ?_ | refine bO (by decide) ?_ | (apply W.condT'; (· (simp only [St.ev, ↓Tr.get_set, ↓reduceIte, Nat.reduceEqDiff, natA, t14, hw]; rfl)); (· rfl)) | (apply W.condF'; (· (simp only [St.ev, ↓Tr.get_set, ↓reduceIte, Nat.reduceEqDiff, natA, t14, hw]; rfl)); (· rfl)))
    refine ⟨j + 1, ⟨by omega, ?_, ?_, ?_, ?_, ?_, by simp only [next_bump]; omega, fun o q => ?_⟩, by omega⟩
    · simp only [Tr.get_set, get_bump, next_bump, next_set, next_add, AHeap.get_set, reduceIte, Nat.reduceEqDiff] <;> assumption
    · simp only [Tr.get_set, get_bump, next_bump, next_set, next_add, AHeap.get_set, reduceIte, Nat.reduceEqDiff] <;> assumption
    · simp only [Tr.get_set, get_bump, next_bump, next_set, next_add, AHeap.get_set, reduceIte, Nat.reduceEqDiff] <;> assumption
    · simp only [Tr.get_set, get_bump, next_bump, next_set, next_add, AHeap.get_set, reduceIte, Nat.reduceEqDiff] <;> assumption
    · simp only [Tr.get_set, get_bump, next_bump, next_set, next_add, AHeap.get_set, reduceIte, Nat.reduceEqDiff] <;> rfl
    · show H2.get o = _
      exact fr2 o q
  · have hjl : j = n := by omega
    have hd : decide ((j : Int) < (n : Int)) = false := by simp; omega
    repeat (first | refine W.seq ?_ | refine W.block ?_ | refine W.skip ?_ | refine W.ret ?_ | refine W.exit ?_ | (apply W.reg; · (simp only [List.length_cons, List.length_nil, Nat.reduceAdd]; rfl)) | (apply W.regd0; · (simp only [List.length_cons, List.length_nil, Nat.reduceAdd]; rfl)) | refine WO.nil ?_ | (apply WO.op; · first | exact op_mv (by simp only [St.ev, ↓Tr.get_set, ↓reduceIte, Nat.reduceEqDiff, natA, t14, t5, hd]; rfl) | exact op_bin (by simp only [St.ev, ↓Tr.get_set, ↓reduceIte, Nat.reduceEqDiff, natA, t14, t5, hd]; rfl) (by simp only [St.ev, ↓Tr.get_set, ↓reduceIte, Nat.reduceEqDiff, natA, t14, t5, hd]; rfl) (by simp only [binA, intCmpA, strA, natA, t14, t5, hd]; rfl) | exact op_slen (by simp only [St.ev, ↓Tr.get_set, ↓reduceIte, Nat.reduceEqDiff, natA, t14, t5, hd]; rfl) | exact op_faddr (by simp only [St.ev, ↓Tr.get_set, ↓reduceIte, Nat.reduceEqDiff, natA, t14, t5, hd]; rfl) | exact op_nilc (by simp only [St.ev, ↓Tr.get_set, ↓reduceIte, Nat.reduceEqDiff, natA, t14, t5, hd]; rfl) | exact op_ext (by simp only [St.ev, ↓Tr.get_set, ↓reduceIte, Nat.reduceEqDiff, natA, t14, t5, hd]; rfl) (by rfl) | exact op_pick (by simp only [St.ev, ↓Tr.get_set, ↓reduceIte, Nat.reduceEqDiff, natA, t14, t5, hd]; rfl) (by first | exact .inl ⟨rfl, (by simp only [St.ev, ↓Tr.get_set, ↓reduceIte, Nat.reduceEqDiff, natA, t14, t5, hd]; rfl)⟩ | exact .inr ⟨rfl, (by simp only [St.ev, ↓Tr.get_set, ↓reduceIte, Nat.reduceEqDiff, natA, t14, t5, hd]; rfl)⟩) | exact op_un (by simp only [St.ev, ↓Tr.get_set, ↓reduceIte, Nat.reduceEqDiff, natA, t14, t5, hd]; rfl) (by simp only [unA, t14, t5, hd]; rfl) | (simp only [xval, xop, AR.ofV, St.ev, Tr.get_set, get_bump, next_bump, next_set, next_add, AHeap.get_set, reduceIte, Nat.reduceEqDiff, evL, evParts, fillA, AV.cells, natA, binA, intCmpA, unA, minA, maxA, Nat.add_assoc, Nat.reduceAdd, Nat.add_left_cancel_iff, Nat.add_eq_left, Nat.left_eq_add, loadA, cellsAt, storeA, Option.bind_some, iaddrA, aaddrA, t14, t5, hd]; rfl)) | (apply WO.opn; · (simp only [xval, xop, AR.ofV, St.ev, Tr.get_set, get_bump, next_bump, next_set, next_add, AHeap.get_set, reduceIte, Nat.reduceEqDiff, evL, evParts, fillA, AV.cells, natA, binA, intCmpA, unA, minA, maxA, Nat.add_assoc, Nat.reduceAdd, Nat.add_left_cancel_iff, Nat.add_eq_left, Nat.left_eq_add, loadA, cellsAt, storeA, Option.bind_some, iaddrA, aaddrA, t14, t5, hd]; rfl)) | (apply WO.gop'; (· (simp only [St.ev, ↓Tr.get_set, ↓reduceIte, Nat.reduceEqDiff, natA, t14, t5, hd]; rfl)); (· rfl); (· first | exact op_mv (by simp only [St.ev, ↓Tr.get_set, ↓reduceIte, Nat.reduceEqDiff, natA, t14, t5, hd]; rfl) | exact op_bin (by simp only [St.ev, ↓Tr.get_set, ↓reduceIte, Nat.reduceEqDiff, natA, t14, t5, hd]; rfl) (by simp only [St.ev, ↓Tr.get_set, ↓reduceIte, Nat.reduceEqDiff, natA, t14, t5, hd]; rfl) (by simp only [binA, intCmpA, strA, natA, t14, t5, hd]; rfl) | exact op_slen (by simp only [St.ev, ↓Tr.get_set, ↓reduceIte, Nat.reduceEqDiff, natA, t14, t5, hd]; rfl) | exact op_faddr (by simp only [St.ev, ↓Tr.get_set, ↓reduceIte, Nat.reduceEqDiff, natA, t14, t5, hd]; rfl) | exact op_nilc (by simp only [St.ev, ↓Tr.get_set, ↓reduceIte, Nat.reduceEqDiff, natA, t14, t5, hd]; rfl) | exact op_ext (by simp only [St.ev, ↓Tr.get_set, ↓reduceIte, Nat.reduceEqDiff, natA, t14, t5, hd]; rfl) (by rfl) | exact op_pick (by simp only [St.ev, ↓Tr.get_set, ↓reduceIte, Nat.reduceEqDiff, natA, t14, t5, hd]; rfl) (by first | exact .inl ⟨rfl, (by simp only [St.ev, ↓Tr.get_set, ↓reduceIte, Nat.reduceEqDiff, natA, t14, t5, hd]; rfl)⟩ | exact .inr ⟨rfl, (by simp only [St.ev, ↓Tr.get_set, ↓reduceIte, Nat.reduceEqDiff, natA, t14, t5, hd]; rfl)⟩) | exact op_un (by simp only [St.ev, ↓Tr.get_set, ↓reduceIte, Nat.reduceEqDiff, natA, t14, t5, hd]; rfl) (by simp only [unA, t14, t5, hd]; rfl) | (simp only [xval, xop, AR.ofV, St.ev, Tr.get_set, get_bump, next_bump, next_set, next_add, AHeap.get_set, reduceIte, Nat.reduceEqDiff, evL, evParts, fillA, AV.cells, natA, binA, intCmpA, unA, minA, maxA, Nat.add_assoc, Nat.reduceAdd, Nat.add_left_cancel_iff, Nat.add_eq_left, Nat.left_eq_add, loadA, cellsAt, storeA, Option.bind_some, iaddrA, aaddrA, t14, t5, hd]; rfl))) | (apply WO.gno'; (· (simp only [St.ev, ↓Tr.get_set, ↓reduceIte, Nat.reduceEqDiff, natA, t14, t5, hd]; rfl)); (· rfl)) | refine pN ?_ | refine pR ?_ | refine pX ?_ | refine bN ?_ | refine bR ?_ | refine bX ?_ | refine bO (by decide) ?_ | (apply W.condT'; (· (simp only [St.ev, ↓Tr.get_set, ↓reduceIte, Nat.reduceEqDiff, natA, t14, t5, hd]; rfl)); (· rfl)) | (apply W.condF'; (· (simp only [St.ev, ↓Tr.get_set, ↓reduceIte, Nat.reduceEqDiff, natA, t14, t5, hd]; rfl)); (· rfl)))
    subst hjl
    refine ⟨rfl, ⟨Nat.le_refl _, ?_, ?_, ?_, ?_, ?_, by simp only [next_bump]; omega, fr⟩⟩
    all_goals (simp only [Tr.get_set, get_bump, next_bump, next_set, next_add, AHeap.get_set, reduceIte, Nat.reduceEqDiff] <;> assumption)
end Go.Proofs.Ytpbighinamljbaa.PA
