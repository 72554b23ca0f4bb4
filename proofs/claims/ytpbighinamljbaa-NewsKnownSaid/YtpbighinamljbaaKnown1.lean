/- news.KnownLaw, over the abstract machine: the comparison. No condition. -/
import Derived.Test.YtpbighinamljbaaRev3
import Derived.Test.YtpbighinamljbaaClean
import Derived.Test.YtpbighinamljbaaPure
set_option linter.unusedSimpArgs false
set_option linter.unusedVariables false
namespace Go.Proofs.Ytpbighinamljbaa.PA
open Go Go.Eng Go.Proofs

theorem cfL_clean (k : Nat) : CleanCF (cfL k) := xcallK_clean (fun f args H v H' h => by cases KL_same h; exact .refl _) k

theorem tabNot : ((List.range 64).all fun m => (List.range 64).all fun q => !((m ||| q) == q) || (match binA .andNot (natA m) (natA q) with
    | some y => AV.beq y (natA 0)
    | none => false)) = true := by kernel_rfl
theorem not_ops {m q : Nat} (hm : m < 64) (hq : q < 64) (h : m ||| q = q) : binA .andNot (natA m) (natA q) = some (natA 0) := by
  have h0 := tabNot
  rw [List.all_eq_true] at h0
  have h1 := h0 m (List.mem_range.2 hm)
  rw [List.all_eq_true] at h1
  have h2 := h1 q (List.mem_range.2 hq)
  rw [h] at h2
  simp only [beq_self_eq_true, Bool.not_true, Bool.false_or] at h2
  split at h2
  · rename_i y hy
    have e := AV.beq_sound h2
    subst e
    exact hy
  · cases h2

theorem KL_21 {x y : AV} {H : AHeap} : KL 21 [x, y] H = (cellsA H 1 x).bind fun c => (cellsA H 1 y).bind fun d => (natsOf c.2).bind fun l => (natsOf d.2).bind fun l' => (maskOf l).bind fun m => if l' = l ∧ l.length = c.1 ∧ l.length = d.1 then some (.bool true, H) else none := rfl
theorem cf_21 {k n m : Nat} {H : AHeap} {x y : AV} (hn : n ≤ 6) (hm : m < 2 ^ n) (h : Row 1 H x (memb n m).length ((memb n m).map natA)) (h' : Row 1 H y (memb n m).length ((memb n m).map natA)) : cfL k 21 [x, y] H = some (.bool true, H) := by
  have hm6 : m < 64 := Nat.lt_of_lt_of_le hm (Nat.pow_le_pow_right (by omega) hn)
  apply cfL_KL
  rw [KL_21]
  rw [cellsA_row (.inl h), Option.bind_some, cellsA_row (.inl h'), Option.bind_some]
  dsimp only
  rw [natsOf_map, Option.bind_some, Option.bind_some, memb_six hn hm, maskOf_memb hm6, Option.bind_some, if_pos ⟨rfl, rfl, rfl⟩]

/-- What the comparison's loop keeps. -/
structure LI (H0 : AHeap) (n R : Nat) (v1 v2 : AV) (i : Nat) (s : St) : Prop where
  le : i ≤ n
  t7 : s.tm.get 7 = some (natA n)
  t10 : s.tm.get 10 = some (.ptr R 0)
  t11 : s.tm.get 11 = some v1
  t13 : s.tm.get 13 = some v2
  t15 : s.tm.get 15 = some (natA i)
  nx : H0.next ≤ s.H.next
  fr : ∀ j, j < H0.next → s.H.get j = H0.get j

def kbody12 : XCode := match L12.code with
  | .seq _ (.seq _ (.seq _ (.seq _ (.seq _ (.seq _ (.seq _ (.seq (.seq _ (.block _ (.loop c))) _))))))) => c
  | _ => .skip

set_option maxHeartbeats 4000000 in
theorem kbody12_ok {k fuel n R : Nat} {H0 : AHeap} {v1 v2 : AV} {K1 K2 : List Nat} (hn : n ≤ 6) (h1 : Kn H0 n K1 v1) (h2 : Kn H0 n K2 v2) (l1 : ∀ m ∈ K1, m < 2 ^ n) (l2 : ∀ m ∈ K2, m < 2 ^ n)
    (hb : ∀ i, i < n → (K1.getD i 0).testBit i = true) (hs : ∀ i, i < n → K1.getD i 0 ||| K2.getD i 0 = K2.getD i 0) (i : Nat) (s : St) (h : LI H0 n R v1 v2 i s) :
    W (cfL k) fuel kbody12 s fun e s' => (e = .normal → ∃ m, LI H0 n R v1 v2 m s' ∧ n - m < n - i) ∧ (e ≠ .normal → e = .exit 0 ∧ LI H0 n R v1 v2 n s') := by
  obtain ⟨le, t7, t10, t11, t13, t15, nx, fr⟩ := h
  obtain ⟨tm, H⟩ := s
  simp only at t7 t10 t11 t13 t15 nx fr
  unfold kbody12 L12
  dsimp only
  by_cases hi : i < n
  · have hd : decide ((i : Int) < (n : Int)) = true := by simpa using hi
    have hw : wrapA .i64 ((i : Int) + Int.ofNat 1) = ((i + 1 : Nat) : Int) := by
      show wrapA .i64 ((i : Int) + 1) = _
      rw [wrapI _ (by omega) (by omega)]; rfl
    refine W.seqN (W.seqN ?_)
    refine W.rg 3 rfl (fun H1 hg1 hn1 => ?_)
    refine WO.op (by simp only [xval, xop, AR.ofV, St.ev, Tr.get_set, get_bump, next_bump, next_set, next_add, AHeap.get_set, reduceIte, Nat.reduceEqDiff, evL, evParts, fillA, AV.cells, natA, binA, intCmpA, unA, minA, maxA, t15, t7, hd]; rfl) ?_
    refine WO.op (by simp only [xval, xop, AR.ofV, St.ev, Tr.get_set, get_bump, next_bump, next_set, next_add, AHeap.get_set, reduceIte, Nat.reduceEqDiff, evL, evParts, fillA, AV.cells, natA, binA, intCmpA, unA, minA, maxA, t15, t7, hd]; rfl) ?_
    refine WO.op (by simp only [xval, xop, AR.ofV, St.ev, Tr.get_set, get_bump, next_bump, next_set, next_add, AHeap.get_set, reduceIte, Nat.reduceEqDiff, evL, evParts, fillA, AV.cells, natA, binA, intCmpA, unA, minA, maxA, t15, t7, hd]; rfl) ?_
    refine WO.nil ⟨rfl, W.condT (by simp only [St.ev, Tr.get_set, get_bump, next_bump, next_set, next_add, AHeap.get_set, reduceIte, Nat.reduceEqDiff] <;> rfl) (W.skip ⟨rfl, W.seq (W.block (W.seqN ?_))⟩)⟩
    refine W.regC 41 rfl (by decide) (fun H2 hg2 hn2 => ?_)
    have lt1 : K1.getD i 0 < 2 ^ n := by
      rw [List.getD_eq_getElem?_getD]
      cases h : K1[i]? with
      | none => simp; exact Nat.two_pow_pos n
      | some m => exact l1 m (List.mem_of_getElem? h)
    have lt2 : K2.getD i 0 < 2 ^ n := by
      rw [List.getD_eq_getElem?_getD]
      cases h : K2[i]? with
      | none => simp; exact Nat.two_pow_pos n
      | some m => exact l2 m (List.mem_of_getElem? h)
    have fr2 : ∀ j, j < H0.next → H2.get j = H0.get j := fun j hj => by rw [hg2, hg1, fr j hj]
    have k1 : Kn H2 n K1 v1 := h1.frame (by omega) fr2
    have k2 : Kn H2 n K2 v2 := h2.frame (by omega) fr2
    obtain ⟨o1, u1, a1, a2, a3⟩ := k1.at hi
    obtain ⟨o2, u2, b1, b2, b3⟩ := k2.at hi
    have c1 := cf_24 (k := k) hn lt1 a3
    have c2 := cf_25 (k := k) hn lt1 a3
    have c3 := cf_24 (k := k) hn lt2 b3
    have c4 := cf_25 (k := k) hn lt2 b3
    have p26 : 2 ^ n ≤ 64 := Nat.le_trans (Nat.pow_le_pow_right (by omega) hn) (by decide)
    obtain ⟨e1, e2⟩ := bitN_ops (m := K1.getD i 0) (i := i) (by omega) (by omega)
    have e3 := not_ops (m := K1.getD i 0) (q := K2.getD i 0) (by omega) (by omega) (hs i hi)
    rw [hb i hi, if_pos rfl] at e2
    generalize K1.getD i 0 = m1 at *
    generalize K2.getD i 0 = m2 at *
    simp only [natA] at e1 e2 e3
    have e5 : binA .eql (.int .i64 ((1 : Nat) : Int)) (.int .i64 (.ofNat 0)) = some (.bool false) := rfl
    have e6 : binA .neq (.int .i64 ((0 : Nat) : Int)) (.int .i64 (.ofNat 0)) = some (.bool false) := rfl
    repeat (first | refine WC.nil ?_ | (apply WC.op; · first | exact op_mv (by simp only [St.ev, ↓Tr.get_set, ↓reduceIte, Nat.reduceEqDiff, natA, t7, t11, t13, t15]; rfl) | exact op_bin (by simp only [St.ev, ↓Tr.get_set, ↓reduceIte, Nat.reduceEqDiff, natA, t7, t11, t13, t15]; rfl) (by simp only [St.ev, ↓Tr.get_set, ↓reduceIte, Nat.reduceEqDiff, natA, t7, t11, t13, t15]; rfl) (by first | exact a1 | exact a2 | exact b1 | exact b2 | exact c1 | exact c2 | exact c3 | exact c4 | exact e1 | exact e2 | exact e3 | exact e5 | exact e6) | exact op_bin (by simp only [St.ev, ↓Tr.get_set, ↓reduceIte, Nat.reduceEqDiff, natA, t7, t11, t13, t15]; rfl) (by simp only [St.ev, ↓Tr.get_set, ↓reduceIte, Nat.reduceEqDiff, natA, t7, t11, t13, t15]; rfl) (by simp only [binA, intCmpA, strA, natA, t7, t11, t13, t15]; rfl) | exact op_ia (by simp only [St.ev, ↓Tr.get_set, ↓reduceIte, Nat.reduceEqDiff, natA, t7, t11, t13, t15]; rfl) (by simp only [St.ev, ↓Tr.get_set, ↓reduceIte, Nat.reduceEqDiff, natA, t7, t11, t13, t15]; rfl) (by first | exact a1 | exact a2 | exact b1 | exact b2 | exact c1 | exact c2 | exact c3 | exact c4 | exact e1 | exact e2 | exact e3 | exact e5 | exact e6) | exact op_faddr (by simp only [St.ev, ↓Tr.get_set, ↓reduceIte, Nat.reduceEqDiff, natA, t7, t11, t13, t15]; rfl) | exact op_load (by simp only [St.ev, ↓Tr.get_set, ↓reduceIte, Nat.reduceEqDiff, natA, t7, t11, t13, t15]; rfl) (by first | exact a1 | exact a2 | exact b1 | exact b2 | exact c1 | exact c2 | exact c3 | exact c4 | exact e1 | exact e2 | exact e3 | exact e5 | exact e6) | exact op_lenL (by simp only [St.ev, ↓Tr.get_set, ↓reduceIte, Nat.reduceEqDiff, natA, t7, t11, t13, t15]; rfl) (by first | exact a1 | exact a2 | exact b1 | exact b2 | exact c1 | exact c2 | exact c3 | exact c4 | exact e1 | exact e2 | exact e3 | exact e5 | exact e6) | exact op_ext (by simp only [St.ev, ↓Tr.get_set, ↓reduceIte, Nat.reduceEqDiff, natA, t7, t11, t13, t15]; rfl) (by rfl) | exact op_call rfl (by simp only [evL, St.ev, ↓Tr.get_set, ↓reduceIte, Nat.reduceEqDiff, bind, Option.bind_some, natA, t7, t11, t13, t15]; rfl) (by first | exact a1 | exact a2 | exact b1 | exact b2 | exact c1 | exact c2 | exact c3 | exact c4 | exact e1 | exact e2 | exact e3 | exact e5 | exact e6) | exact op_pick (by simp only [St.ev, ↓Tr.get_set, ↓reduceIte, Nat.reduceEqDiff, natA, t7, t11, t13, t15]; rfl) (by first | exact .inl ⟨rfl, (by simp only [St.ev, ↓Tr.get_set, ↓reduceIte, Nat.reduceEqDiff, natA, t7, t11, t13, t15]; rfl)⟩ | exact .inr ⟨rfl, (by simp only [St.ev, ↓Tr.get_set, ↓reduceIte, Nat.reduceEqDiff, natA, t7, t11, t13, t15]; rfl)⟩) | exact op_un (by simp only [St.ev, ↓Tr.get_set, ↓reduceIte, Nat.reduceEqDiff, natA, t7, t11, t13, t15]; rfl) (by simp only [unA, t7, t11, t13, t15]; rfl)) | (apply WC.gop'; (· (simp only [St.ev, ↓Tr.get_set, ↓reduceIte, Nat.reduceEqDiff, natA, t7, t11, t13, t15]; rfl)); (· rfl); (· first | exact op_mv (by simp only [St.ev, ↓Tr.get_set, ↓reduceIte, Nat.reduceEqDiff, natA, t7, t11, t13, t15]; rfl) | exact op_bin (by simp only [St.ev, ↓Tr.get_set, ↓reduceIte, Nat.reduceEqDiff, natA, t7, t11, t13, t15]; rfl) (by simp only [St.ev, ↓Tr.get_set, ↓reduceIte, Nat.reduceEqDiff, natA, t7, t11, t13, t15]; rfl) (by first | exact a1 | exact a2 | exact b1 | exact b2 | exact c1 | exact c2 | exact c3 | exact c4 | exact e1 | exact e2 | exact e3 | exact e5 | exact e6) | exact op_bin (by simp only [St.ev, ↓Tr.get_set, ↓reduceIte, Nat.reduceEqDiff, natA, t7, t11, t13, t15]; rfl) (by simp only [St.ev, ↓Tr.get_set, ↓reduceIte, Nat.reduceEqDiff, natA, t7, t11, t13, t15]; rfl) (by simp only [binA, intCmpA, strA, natA, t7, t11, t13, t15]; rfl) | exact op_ia (by simp only [St.ev, ↓Tr.get_set, ↓reduceIte, Nat.reduceEqDiff, natA, t7, t11, t13, t15]; rfl) (by simp only [St.ev, ↓Tr.get_set, ↓reduceIte, Nat.reduceEqDiff, natA, t7, t11, t13, t15]; rfl) (by first | exact a1 | exact a2 | exact b1 | exact b2 | exact c1 | exact c2 | exact c3 | exact c4 | exact e1 | exact e2 | exact e3 | exact e5 | exact e6) | exact op_faddr (by simp only [St.ev, ↓Tr.get_set, ↓reduceIte, Nat.reduceEqDiff, natA, t7, t11, t13, t15]; rfl) | exact op_load (by simp only [St.ev, ↓Tr.get_set, ↓reduceIte, Nat.reduceEqDiff, natA, t7, t11, t13, t15]; rfl) (by first | exact a1 | exact a2 | exact b1 | exact b2 | exact c1 | exact c2 | exact c3 | exact c4 | exact e1 | exact e2 | exact e3 | exact e5 | exact e6) | exact op_lenL (by simp only [St.ev, ↓Tr.get_set, ↓reduceIte, Nat.reduceEqDiff, natA, t7, t11, t13, t15]; rfl) (by first | exact a1 | exact a2 | exact b1 | exact b2 | exact c1 | exact c2 | exact c3 | exact c4 | exact e1 | exact e2 | exact e3 | exact e5 | exact e6) | exact op_ext (by simp only [St.ev, ↓Tr.get_set, ↓reduceIte, Nat.reduceEqDiff, natA, t7, t11, t13, t15]; rfl) (by rfl) | exact op_call rfl (by simp only [evL, St.ev, ↓Tr.get_set, ↓reduceIte, Nat.reduceEqDiff, bind, Option.bind_some, natA, t7, t11, t13, t15]; rfl) (by first | exact a1 | exact a2 | exact b1 | exact b2 | exact c1 | exact c2 | exact c3 | exact c4 | exact e1 | exact e2 | exact e3 | exact e5 | exact e6) | exact op_pick (by simp only [St.ev, ↓Tr.get_set, ↓reduceIte, Nat.reduceEqDiff, natA, t7, t11, t13, t15]; rfl) (by first | exact .inl ⟨rfl, (by simp only [St.ev, ↓Tr.get_set, ↓reduceIte, Nat.reduceEqDiff, natA, t7, t11, t13, t15]; rfl)⟩ | exact .inr ⟨rfl, (by simp only [St.ev, ↓Tr.get_set, ↓reduceIte, Nat.reduceEqDiff, natA, t7, t11, t13, t15]; rfl)⟩) | exact op_un (by simp only [St.ev, ↓Tr.get_set, ↓reduceIte, Nat.reduceEqDiff, natA, t7, t11, t13, t15]; rfl) (by simp only [unA, t7, t11, t13, t15]; rfl))) | (apply WC.gno'; (· (simp only [St.ev, ↓Tr.get_set, ↓reduceIte, Nat.reduceEqDiff, natA, t7, t11, t13, t15]; rfl)); (· rfl)))
    refine ⟨rfl, W.condF' (by simp only [St.ev, Tr.get_set, get_bump, next_bump, next_set, next_add, AHeap.get_set, reduceIte, Nat.reduceEqDiff] <;> rfl) rfl (W.skip (bN (pN ?_)))⟩
    repeat (first | refine W.seq ?_ | refine W.block ?_ | refine W.skip ?_ | refine W.ret ?_ | refine W.exit ?_ | (apply W.reg; · (simp only [List.length_cons, List.length_nil, Nat.reduceAdd]; rfl)) | (apply W.regd0; · (simp only [List.length_cons, List.length_nil, Nat.reduceAdd]; rfl)) | refine WO.nil ?_ | (apply WO.op; · first | exact op_mv (by simp only [St.ev, ↓Tr.get_set, ↓reduceIte, Nat.reduceEqDiff, natA, t15, hw]; rfl) | exact op_bin (by simp only [St.ev, ↓Tr.get_set, ↓reduceIte, Nat.reduceEqDiff, natA, t15, hw]; rfl) (by simp only [St.ev, ↓Tr.get_set, ↓reduceIte, Nat.reduceEqDiff, natA, t15, hw]; rfl) (by simp only [binA, intCmpA, strA, natA, t15, hw]; rfl) | exact op_slen (by simp only [St.ev, ↓Tr.get_set, ↓reduceIte, Nat.reduceEqDiff, natA, t15, hw]; rfl) | exact op_faddr (by simp only [St.ev, ↓Tr.get_set, ↓reduceIte, Nat.reduceEqDiff, natA, t15, hw]; rfl) | exact op_nilc (by simp only [St.ev, ↓Tr.get_set, ↓reduceIte, Nat.reduceEqDiff, natA, t15, hw]; rfl) | exact op_ext (by simp only [St.ev, ↓Tr.get_set, ↓reduceIte, Nat.reduceEqDiff, natA, t15, hw]; rfl) (by rfl) | exact op_pick (by simp only [St.ev, ↓Tr.get_set, ↓reduceIte, Nat.reduceEqDiff, natA, t15, hw]; rfl) (by first | exact .inl ⟨rfl, (by simp only [St.ev, ↓Tr.get_set, ↓reduceIte, Nat.reduceEqDiff, natA, t15, hw]; rfl)⟩ | exact .inr ⟨rfl, (by simp only [St.ev, ↓Tr.get_set, ↓reduceIte, Nat.reduceEqDiff, natA, t15, hw]; rfl)⟩) | exact op_un (by simp only [St.ev, ↓Tr.get_set, ↓reduceIte, Nat.reduceEqDiff, natA, t15, hw]; rfl) (by simp only [unA, t15, hw]; rfl) | (simp only [xval, xop, AR.ofV, St.ev, Tr.get_set, get_bump, next_bump, next_set, next_add, AHeap.get_set, reduceIte, Nat.reduceEqDiff, evL, evParts, fillA, AV.cells, natA, binA, intCmpA, unA, minA, maxA, Nat.add_assoc, Nat.reduceAdd, Nat.add_left_cancel_iff, Nat.add_eq_left, Nat.left_eq_add, loadA, cellsAt, storeA, Option.bind_some, iaddrA, aaddrA, t15, hw]; rfl)) | (apply WO.opn; · (simp only [xval, xop, AR.ofV, St.ev, Tr.get_set, get_bump, next_bump, next_set, next_add, AHeap.get_set, reduceIte, Nat.reduceEqDiff, evL, evParts, fillA, AV.cells, natA, binA, intCmpA, unA, minA, maxA, Nat.add_assoc, Nat.reduceAdd, Nat.add_left_cancel_iff, Nat.add_eq_left, Nat.left_eq_add, loadA, cellsAt, storeA, Option.bind_some, iaddrA, aaddrA, t15, hw]; rfl)) | (apply WO.gop'; (· (simp only [St.ev, ↓Tr.get_set, ↓reduceIte, Nat.reduceEqDiff, natA, t15, hw]; rfl)); (· rfl); (· first | exact op_mv (by simp only [St.ev, ↓Tr.get_set, ↓reduceIte, Nat.reduceEqDiff, natA, t15, hw]; rfl) | exact op_bin (by simp only [St.ev, ↓Tr.get_set, ↓reduceIte, Nat.reduceEqDiff, natA, t15, hw]; rfl) (by simp only [St.ev, ↓Tr.get_set, ↓reduceIte, Nat.reduceEqDiff, natA, t15, hw]; rfl) (by simp only [binA, intCmpA, strA, natA, t15, hw]; rfl) | exact op_slen (by simp only [St.ev, ↓Tr.get_set, ↓reduceIte, Nat.reduceEqDiff, natA, t15, hw]; rfl) | exact op_faddr (by simp only [St.ev, ↓Tr.get_set, ↓reduceIte, Nat.reduceEqDiff, natA, t15, hw]; rfl) | exact op_nilc (by simp only [St.ev, ↓Tr.get_set, ↓reduceIte, Nat.reduceEqDiff, natA, t15, hw]; rfl) | exact op_ext (by simp only [St.ev, ↓Tr.get_set, ↓reduceIte, Nat.reduceEqDiff, natA, t15, hw]; rfl) (by rfl) | exact op_pick (by simp only [St.ev, ↓Tr.get_set, ↓reduceIte, Nat.reduceEqDiff, natA, t15, hw]; rfl) (by first | exact .inl ⟨rfl, (by simp only [St.ev, ↓Tr.get_set, ↓reduceIte, Nat.reduceEqDiff, natA, t15, hw]; rfl)⟩ | exact .inr ⟨rfl, (by simp only [St.ev, ↓Tr.get_set, ↓reduceIte, Nat.reduceEqDiff, natA, t15, hw]; rfl)⟩) | exact op_un (by simp only [St.ev, ↓Tr.get_set, ↓reduceIte, Nat.reduceEqDiff, natA, t15, hw]; rfl) (by simp only [unA, t15, hw]; rfl) | (simp only [xval, xop, AR.ofV, St.ev, Tr.get_set, get_bump, next_bump, next_set, next_add, AHeap.get_set, reduceIte, Nat.reduceEqDiff, evL, evParts, fillA, AV.cells, natA, binA, intCmpA, unA, minA, maxA, Nat.add_assoc, Nat.reduceAdd, Nat.add_left_cancel_iff, Nat.add_eq_left, Nat.left_eq_add, loadA, cellsAt, storeA, Option.bind_some, iaddrA, aaddrA, t15, hw]; rfl))) | (apply WO.gno'; (· (simp only [St.ev, ↓Tr.get_set, ↓reduceIte, Nat.reduceEqDiff, natA, t15, hw]; rfl)); (· rfl)) | refine pN ?_ | refine pR ?_ | refine pX ?_ | refine bN ?_ | refine bR ?_ | refine bX ?_ | refine bO (by decide) ?_ | (apply W.condT'; (· (simp only [St.ev, ↓Tr.get_set, ↓reduceIte, Nat.reduceEqDiff, natA, t15, hw]; rfl)); (· rfl)) | (apply W.condF'; (· (simp only [St.ev, ↓Tr.get_set, ↓reduceIte, Nat.reduceEqDiff, natA, t15, hw]; rfl)); (· rfl)))
    refine ⟨i + 1, ⟨by omega, ?_, ?_, ?_, ?_, ?_, by simp only [next_bump]; omega, fun o q => ?_⟩, by omega⟩
    · simp only [Tr.get_set, get_bump, next_bump, next_set, next_add, AHeap.get_set, reduceIte, Nat.reduceEqDiff] <;> assumption
    · simp only [Tr.get_set, get_bump, next_bump, next_set, next_add, AHeap.get_set, reduceIte, Nat.reduceEqDiff] <;> assumption
    · simp only [Tr.get_set, get_bump, next_bump, next_set, next_add, AHeap.get_set, reduceIte, Nat.reduceEqDiff] <;> assumption
    · simp only [Tr.get_set, get_bump, next_bump, next_set, next_add, AHeap.get_set, reduceIte, Nat.reduceEqDiff] <;> assumption
    · simp only [Tr.get_set, get_bump, next_bump, next_set, next_add, AHeap.get_set, reduceIte, Nat.reduceEqDiff] <;> rfl
    · show H2.get o = _
      exact fr2 o q
  · have hil : i = n := by omega
    have hd : decide ((i : Int) < (n : Int)) = false := by simp; omega
    repeat (first | refine W.seq ?_ | refine W.block ?_ | refine W.skip ?_ | refine W.ret ?_ | refine W.exit ?_ | (apply W.reg; · (simp only [List.length_cons, List.length_nil, Nat.reduceAdd]; rfl)) | (apply W.regd0; · (simp only [List.length_cons, List.length_nil, Nat.reduceAdd]; rfl)) | refine WO.nil ?_ | (apply WO.op; · first | exact op_mv (by simp only [St.ev, ↓Tr.get_set, ↓reduceIte, Nat.reduceEqDiff, natA, t15, t7, hd]; rfl) | exact op_bin (by simp only [St.ev, ↓Tr.get_set, ↓reduceIte, Nat.reduceEqDiff, natA, t15, t7, hd]; rfl) (by simp only [St.ev, ↓Tr.get_set, ↓reduceIte, Nat.reduceEqDiff, natA, t15, t7, hd]; rfl) (by simp only [binA, intCmpA, strA, natA, t15, t7, hd]; rfl) | exact op_slen (by simp only [St.ev, ↓Tr.get_set, ↓reduceIte, Nat.reduceEqDiff, natA, t15, t7, hd]; rfl) | exact op_faddr (by simp only [St.ev, ↓Tr.get_set, ↓reduceIte, Nat.reduceEqDiff, natA, t15, t7, hd]; rfl) | exact op_nilc (by simp only [St.ev, ↓Tr.get_set, ↓reduceIte, Nat.reduceEqDiff, natA, t15, t7, hd]; rfl) | exact op_ext (by simp only [St.ev, ↓Tr.get_set, ↓reduceIte, Nat.reduceEqDiff, natA, t15, t7, hd]; rfl) (by rfl) | exact op_pick (by simp only [St.ev, ↓Tr.get_set, ↓reduceIte, Nat.reduceEqDiff, natA, t15, t7, hd]; rfl) (by first | exact .inl ⟨rfl, (by simp only [St.ev, ↓Tr.get_set, ↓reduceIte, Nat.reduceEqDiff, natA, t15, t7, hd]; rfl)⟩ | exact .inr ⟨rfl, (by simp only [St.ev, ↓Tr.get_set, ↓reduceIte, Nat.reduceEqDiff, natA, t15, t7, hd]; rfl)⟩) | exact op_un (by simp only [St.ev, ↓Tr.get_set, ↓reduceIte, Nat.reduceEqDiff, natA, t15, t7, hd]; rfl) (by simp only [unA, t15, t7, hd]; rfl) | (simp only [xval, xop, AR.ofV, St.ev, Tr.get_set, get_bump, next_bump, next_set, next_add, AHeap.get_set, reduceIte, Nat.reduceEqDiff, evL, evParts, fillA, AV.cells, natA, binA, intCmpA, unA, minA, maxA, Nat.add_assoc, Nat.reduceAdd, Nat.add_left_cancel_iff, Nat.add_eq_left, Nat.left_eq_add, loadA, cellsAt, storeA, Option.bind_some, iaddrA, aaddrA, t15, t7, hd]; rfl)) | (apply WO.opn; · (simp only [xval, xop, AR.ofV, St.ev, Tr.get_set, get_bump, next_bump, next_set, next_add, AHeap.get_set, reduceIte, Nat.reduceEqDiff, evL, evParts, fillA, AV.cells, natA, binA, intCmpA, unA, minA, maxA, Nat.add_assoc, Nat.reduceAdd, Nat.add_left_cancel_iff, Nat.add_eq_left, Nat.left_eq_add, loadA, cellsAt, storeA, Option.bind_some, iaddrA, aaddrA, t15, t7, hd]; rfl)) | (apply WO.gop'; (· (simp only [St.ev, ↓Tr.get_set, ↓reduceIte, Nat.reduceEqDiff, natA, t15, t7, hd]; rfl)); (· rfl); (· first | exact op_mv (by simp only [St.ev, ↓Tr.get_set, ↓reduceIte, Nat.reduceEqDiff, natA, t15, t7, hd]; rfl) | exact op_bin (by simp only [St.ev, ↓Tr.get_set, ↓reduceIte, Nat.reduceEqDiff, natA, t15, t7, hd]; rfl) (by simp only [St.ev, ↓Tr.get_set, ↓reduceIte, Nat.reduceEqDiff, natA, t15, t7, hd]; rfl) (by simp only [binA, intCmpA, strA, natA, t15, t7, hd]; rfl) | exact op_slen (by simp only [St.ev, ↓Tr.get_set, ↓reduceIte, Nat.reduceEqDiff, natA, t15, t7, hd]; rfl) | exact op_faddr (by simp only [St.ev, ↓Tr.get_set, ↓reduceIte, Nat.reduceEqDiff, natA, t15, t7, hd]; rfl) | exact op_nilc (by simp only [St.ev, ↓Tr.get_set, ↓reduceIte, Nat.reduceEqDiff, natA, t15, t7, hd]; rfl) | exact op_ext (by simp only [St.ev, ↓Tr.get_set, ↓reduceIte, Nat.reduceEqDiff, natA, t15, t7, hd]; rfl) (by rfl) | exact op_pick (by simp only [St.ev, ↓Tr.get_set, ↓reduceIte, Nat.reduceEqDiff, natA, t15, t7, hd]; rfl) (by first | exact .inl ⟨rfl, (by simp only [St.ev, ↓Tr.get_set, ↓reduceIte, Nat.reduceEqDiff, natA, t15, t7, hd]; rfl)⟩ | exact .inr ⟨rfl, (by simp only [St.ev, ↓Tr.get_set, ↓reduceIte, Nat.reduceEqDiff, natA, t15, t7, hd]; rfl)⟩) | exact op_un (by simp only [St.ev, ↓Tr.get_set, ↓reduceIte, Nat.reduceEqDiff, natA, t15, t7, hd]; rfl) (by simp only [unA, t15, t7, hd]; rfl) | (simp only [xval, xop, AR.ofV, St.ev, Tr.get_set, get_bump, next_bump, next_set, next_add, AHeap.get_set, reduceIte, Nat.reduceEqDiff, evL, evParts, fillA, AV.cells, natA, binA, intCmpA, unA, minA, maxA, Nat.add_assoc, Nat.reduceAdd, Nat.add_left_cancel_iff, Nat.add_eq_left, Nat.left_eq_add, loadA, cellsAt, storeA, Option.bind_some, iaddrA, aaddrA, t15, t7, hd]; rfl))) | (apply WO.gno'; (· (simp only [St.ev, ↓Tr.get_set, ↓reduceIte, Nat.reduceEqDiff, natA, t15, t7, hd]; rfl)); (· rfl)) | refine pN ?_ | refine pR ?_ | refine pX ?_ | refine bN ?_ | refine bR ?_ | refine bX ?_ | refine bO (by decide) ?_ | (apply W.condT'; (· (simp only [St.ev, ↓Tr.get_set, ↓reduceIte, Nat.reduceEqDiff, natA, t15, t7, hd]; rfl)); (· rfl)) | (apply W.condF'; (· (simp only [St.ev, ↓Tr.get_set, ↓reduceIte, Nat.reduceEqDiff, natA, t15, t7, hd]; rfl)); (· rfl)))
    subst hil
    refine ⟨rfl, ⟨Nat.le_refl _, ?_, ?_, ?_, ?_, ?_, by simp only [next_bump]; omega, fr⟩⟩
    all_goals (simp only [Tr.get_set, get_bump, next_bump, next_set, next_add, AHeap.get_set, reduceIte, Nat.reduceEqDiff] <;> assumption)

/-! ### the plain law -/
theorem rch_refl : ∀ (l : Prs) (i : Nat), Rch l i i
  | [], i => rfl
  | c :: l, i => ⟨i, rch_refl l i, .inl rfl⟩
theorem known_self {p : Nat} (hp : p ≤ 6) {l : Prs} (hl : ∀ q ∈ l, q.1 < 6 ∧ q.2 < 6) {i : Nat} (hi : i < p) : ((runM (begM p) l).getD i 0).testBit i = true :=
  (runM_beg hp hl hi).2 (rch_refl l i)
theorem runM_app (K : List Nat) (l : Prs) (c : Nat × Nat) : runM K (l ++ [c]) = callM (runM K l) c.1 c.2 := by
  simp [runM, List.foldl_append]
theorem known_more {p : Nat} {l : Prs} {a b : Nat} (ha : a < 6) (hb : b < 6) (i : Nat) : (runM (begM p) l).getD i 0 ||| (runM (begM p) (l ++ [(a, b)])).getD i 0 = (runM (begM p) (l ++ [(a, b)])).getD i 0 := by
  have hlen := (runM_inv l (begM p) (begM_inv p).1 (begM_inv p).2).1
  rw [runM_app, callM_getD (by omega) (by omega)]
  split
  · rename_i h
    rcases h with rfl | rfl
    · rw [← Nat.or_assoc, Nat.or_self]
    · rw [Nat.or_comm (List.getD _ a 0), ← Nat.or_assoc, Nat.or_self]
  · exact Nat.or_self _
theorem known_same {p : Nat} {l : Prs} {a b : Nat} (ha : a < 6) (hb : b < 6) : (runM (begM p) (l ++ [(a, b)])).getD a 0 = (runM (begM p) (l ++ [(a, b)])).getD b 0 := by
  have hlen := (runM_inv l (begM p) (begM_inv p).1 (begM_inv p).2).1
  rw [runM_app, callM_getD (by omega) (by omega), callM_getD (by omega) (by omega), if_pos (.inl rfl), if_pos (.inr rfl)]
end Go.Proofs.Ytpbighinamljbaa.PA
