/- news.Done, over the abstract machine. No condition. -/
import Derived.Test.YtpbighinamljbaaDone2
import Derived.Test.YtpbighinamljbaaKnow3
set_option linter.unusedSimpArgs false
set_option linter.unusedVariables false
namespace Go.Proofs.Ytpbighinamljbaa.PA
open Go Go.Eng Go.Proofs

/-- The known calls, with known.done. -/
def KL2 : CF := fun f args H =>
  match f, args with
  | 58, [.agg k, n] => (u8sOf k).bind fun k => (natOf n).bind fun n => if k.length = 6 ∧ n ≤ 6 ∧ (k.all fun x => decide (0 ≤ x)) = true then some (.bool (compl n (k.map Int.toNat)), H) else none
  | f, args => KL f args H
theorem u8s_nat {k : List Int} (h : (k.all fun x => decide (0 ≤ x)) = true) : (k.map Int.toNat).map u8A = k.map (AV.int .u8) := by
  rw [List.all_eq_true] at h
  rw [List.map_map]
  refine List.map_congr_left fun x hx => ?_
  have := h x hx
  simp only [decide_eq_true_eq] at this
  show AV.int .u8 ((Int.toNat x : Nat) : Int) = _
  rw [Int.toNat_of_nonneg this]
theorem KL2_ok : CFok Try.prog KL2 := by
  intro f args H v H' h
  unfold KL2 at h
  split at h
  · rename_i k n
    simp only [Option.bind_eq_some_iff] at h
    obtain ⟨xs, hk, a, ha, h⟩ := h
    split at h
    · rename_i hh
      cases h
      obtain ⟨c1, c2, c3⟩ := hh
      obtain rfl := u8sOf_eq hk
      obtain rfl := natOf_eq ha
      obtain ⟨H1, h1⟩ := x58 (k := 0) (H := ⟨.e, 0⟩) (K := xs.map Int.toNat) c2 (by simpa using c1)
      rw [u8s_nat c3] at h1
      exact frame0 (xF 4 _ _ _ _ _ h1) rfl (fun E w us hR h => args2 (H := H) h (fun u hu => plain_rel (by simp only [AV.plain]; exact plain_u8s _) hu) (fun u hu => plain_rel rfl hu))
    · cases h
  · exact KL_ok _ _ _ _ _ h
def cfD (k : Nat) : CF := xcallK KL2 F 300 k
theorem cfD_ok (k : Nat) : CFok Try.prog (cfD k) := xcallK_sound mixP KL2_ok F_ok 300 k
theorem cfD_KL2 {k f : Nat} {args : List AV} {H : AHeap} {r : AV × AHeap} (h : KL2 f args H = some r) : cfD k f args H = some r := by
  unfold cfD
  cases k with
  | zero => exact h
  | succ k => unfold xcallK; rw [h]
theorem cfD_step {k f : Nat} {fn : XFunc} {args : List AV} {H : AHeap} (hK : KL2 f args H = none) (hF : F f = some fn) : cfD (k + 1) f args H = xfunc (cfD k) 300 fn args H := by
  unfold cfD
  rw [xcallK, hK, hF]
theorem d_17 {k : Nat} {H : AHeap} : cfD k 17 [] H = some (.bool true, H) := cfD_KL2 rfl
theorem d_54 {k n : Nat} {H : AHeap} (hn : n ≤ 6) : cfD k 54 [natA n] H = some (.agg ((begM n).map u8A), H) := cfD_KL2 (cf_54 (k := 0) hn)
theorem d_57 {k n : Nat} {H : AHeap} {x : AV} {l : Prs} (h1 : 1 ≤ n) (hn : n ≤ 6) (hl : l.length ≤ 60) (hv : Vld n l) (h : RowE 2 H x l.length (prsC l)) : cfD k 57 [natA n, x] H = some (.int .i64 0, H) := cfD_KL2 (cf_57 (k := 0) h1 hn hl hv h)
theorem d_59 {k : Nat} {K : List Nat} (hK : K.length = 6) (hlt : ∀ m ∈ K, m < 64) {a b : Nat} (ha : a < 6) (hb : b < 6) (H : AHeap) :
    cfD k 59 [.agg (K.map u8A), .agg [natA a, natA b]] H = some (.agg ((callM K a b).map u8A), H) :=
  cfD_KL2 (cf59 (cf := cfL 0) (fun k a b H hk ha hb => cf_59 k a b H hk ha hb) hK hlt ha hb H)
theorem KL2_58 {k : List AV} {n : AV} {H : AHeap} : KL2 58 [.agg k, n] H = (u8sOf k).bind fun k => (natOf n).bind fun n => if k.length = 6 ∧ n ≤ 6 ∧ (k.all fun x => decide (0 ≤ x)) = true then some (.bool (compl n (k.map Int.toNat)), H) else none := rfl
theorem d_58 {k n : Nat} {K : List Nat} (hK : K.length = 6) (hn : n ≤ 6) (H : AHeap) : cfD k 58 [.agg (K.map u8A), natA n] H = some (.bool (compl n K), H) := by
  apply cfD_KL2
  rw [KL2_58]
  have e : K.map u8A = (K.map fun m : Nat => (m : Int)).map (AV.int .u8) := by rw [List.map_map]; rfl
  have e2 : (K.map fun m : Nat => (m : Int)).map Int.toNat = K := by
    rw [List.map_map]
    exact (List.map_congr_left fun m _ => rfl).trans (List.map_id K)
  rw [e, u8sOf_map, Option.bind_some, natOf_nat, Option.bind_some, e2, if_pos ⟨by simpa using hK, hn, by rw [List.all_eq_true]; intro x hx; obtain ⟨m, _, rfl⟩ := List.mem_map.1 hx; simp⟩]

/-- What Done's loop keeps. -/
structure EI (H0 : AHeap) (n : Nat) (x : AV) (l : Prs) (R : Nat) (i : Nat) (s : St) : Prop where
  le : i ≤ l.length
  t0 : s.tm.get 0 = some (natA n)
  t1 : s.tm.get 1 = some x
  t7 : s.tm.get 7 = some (.ptr R 0)
  t8 : s.tm.get 8 = some (natA i)
  box : s.H.get R = some (.cells ((runM (begM n) (l.take i)).map u8A) none)
  hR : H0.next ≤ R ∧ R < s.H.next
  nx : H0.next ≤ s.H.next
  fr : ∀ j, j < H0.next → s.H.get j = H0.get j

/-- What Done returns. -/
def DoneR (n : Nat) (l : Prs) (a b : AV) : Prop :=
  (∃ d, d ≤ l.length ∧ compl n (runM (begM n) (l.take d)) = true ∧ (∀ i, i < d → compl n (runM (begM n) (l.take i)) = false) ∧ a = natA d ∧ b = natA 0) ∨ ((∀ i, i ≤ l.length → compl n (runM (begM n) (l.take i)) = false) ∧ a = natA 0 ∧ b = natA 5)

def body34 : XCode := match L34.code with
  | .seq _ (.seq _ (.seq _ (.seq _ (.block _ (.loop c))))) => c
  | _ => .skip

set_option maxHeartbeats 4000000 in
theorem body34_ok {k fuel n R : Nat} {H0 : AHeap} {x : AV} {l : Prs} (hx : RowE 2 H0 x l.length (prsC l)) (hn : n ≤ 6) (hl : l.length ≤ 60) (hv : Vld n l) (i : Nat) (s : St)
    (h : EI H0 n x l R i s ∧ ∀ j, j < i → compl n (runM (begM n) (l.take j)) = false) :
    W (cfD k) fuel body34 s fun e s' => (e = .normal → ∃ j, (EI H0 n x l R j s' ∧ ∀ q, q < j → compl n (runM (begM n) (l.take q)) = false) ∧ l.length - j < l.length - i) ∧
      (e ≠ .normal → e = .ret ∧ (∃ a b, s'.tm.get 4 = some a ∧ s'.tm.get 5 = some b ∧ DoneR n l a b) ∧ H0.next ≤ s'.H.next ∧ ∀ j, j < H0.next → s'.H.get j = H0.get j) := by
  obtain ⟨⟨le, t0, t1, t7, t8, box, hR, nx, fr⟩, hno⟩ := h
  obtain ⟨tm, H⟩ := s
  simp only at t0 t1 t7 t8 box hR nx fr
  unfold body34 L34
  dsimp only
  obtain ⟨k1, k2⟩ := runM_inv (l.take i) (begM n) (begM_inv n).1 (begM_inv n).2
  obtain ⟨K, hK⟩ : ∃ K, runM (begM n) (l.take i) = K := ⟨_, rfl⟩
  rw [hK] at k1 k2 box
  refine W.seq (W.block (W.seq (W.seqN ?_)))
  refine W.rg 3 rfl (fun H1 hg1 hn1 => ?_)
  refine WO.op (v := .agg (K.map u8A)) (op_load (a := .ptr R 0) (by simp only [St.ev, Tr.get_set, get_bump, next_bump, next_set, next_add, AHeap.get_set, reduceIte, Nat.reduceEqDiff, t7]) (by simp only [loadA, cellsAt, hg1, box, List.drop_zero, List.length_map, k1, Nat.le_refl, if_true]; rw [List.take_of_length_le (by simp [k1])])) ?_
  refine WO.op (by simp only [xval, xop, AR.ofV, St.ev, Tr.get_set, get_bump, next_bump, next_set, next_add, AHeap.get_set, reduceIte, Nat.reduceEqDiff, evL, evParts, fillA, AV.cells, natA, binA, intCmpA, unA, minA, maxA, t0]; rfl) ?_
  refine WO.op (v := .bool (compl n K)) (H1 := H1) (op_call (g := 58) (cs := []) (l := [.agg (K.map u8A), natA n]) rfl (by simp only [evL, St.ev, Tr.get_set, get_bump, next_bump, next_set, next_add, AHeap.get_set, reduceIte, Nat.reduceEqDiff, bind, Option.bind_some, natA]) (d_58 k1 hn H1)) ?_
  refine WO.nil ⟨rfl, ?_⟩
  cases hc : compl n K with
  | true =>
    refine W.condT (by simp only [St.ev, Tr.get_set, get_bump, next_bump, next_set, next_add, AHeap.get_set, reduceIte, Nat.reduceEqDiff, hc]) ?_
    repeat (first | refine W.seq ?_ | refine W.block ?_ | refine W.skip ?_ | refine W.ret ?_ | refine W.exit ?_ | (apply W.reg; · (simp only [List.length_cons, List.length_nil, Nat.reduceAdd]; rfl)) | (apply W.regd0; · (simp only [List.length_cons, List.length_nil, Nat.reduceAdd]; rfl)) | refine WO.nil ?_ | (apply WO.op; · first | exact op_mv (by simp only [St.ev, ↓Tr.get_set, ↓reduceIte, Nat.reduceEqDiff, natA, t8]; rfl) | exact op_bin (by simp only [St.ev, ↓Tr.get_set, ↓reduceIte, Nat.reduceEqDiff, natA, t8]; rfl) (by simp only [St.ev, ↓Tr.get_set, ↓reduceIte, Nat.reduceEqDiff, natA, t8]; rfl) (by simp only [binA, intCmpA, strA, natA, t8]; rfl) | exact op_slen (by simp only [St.ev, ↓Tr.get_set, ↓reduceIte, Nat.reduceEqDiff, natA, t8]; rfl) | exact op_faddr (by simp only [St.ev, ↓Tr.get_set, ↓reduceIte, Nat.reduceEqDiff, natA, t8]; rfl) | exact op_nilc (by simp only [St.ev, ↓Tr.get_set, ↓reduceIte, Nat.reduceEqDiff, natA, t8]; rfl) | exact op_ext (by simp only [St.ev, ↓Tr.get_set, ↓reduceIte, Nat.reduceEqDiff, natA, t8]; rfl) (by rfl) | exact op_pick (by simp only [St.ev, ↓Tr.get_set, ↓reduceIte, Nat.reduceEqDiff, natA, t8]; rfl) (by first | exact .inl ⟨rfl, (by simp only [St.ev, ↓Tr.get_set, ↓reduceIte, Nat.reduceEqDiff, natA, t8]; rfl)⟩ | exact .inr ⟨rfl, (by simp only [St.ev, ↓Tr.get_set, ↓reduceIte, Nat.reduceEqDiff, natA, t8]; rfl)⟩) | exact op_un (by simp only [St.ev, ↓Tr.get_set, ↓reduceIte, Nat.reduceEqDiff, natA, t8]; rfl) (by simp only [unA, t8]; rfl) | (simp only [xval, xop, AR.ofV, St.ev, Tr.get_set, get_bump, next_bump, next_set, next_add, AHeap.get_set, reduceIte, Nat.reduceEqDiff, evL, evParts, fillA, AV.cells, natA, binA, intCmpA, unA, minA, maxA, Nat.add_assoc, Nat.reduceAdd, Nat.add_left_cancel_iff, Nat.add_eq_left, Nat.left_eq_add, loadA, cellsAt, storeA, Option.bind_some, iaddrA, aaddrA, t8]; rfl)) | (apply WO.opn; · (simp only [xval, xop, AR.ofV, St.ev, Tr.get_set, get_bump, next_bump, next_set, next_add, AHeap.get_set, reduceIte, Nat.reduceEqDiff, evL, evParts, fillA, AV.cells, natA, binA, intCmpA, unA, minA, maxA, Nat.add_assoc, Nat.reduceAdd, Nat.add_left_cancel_iff, Nat.add_eq_left, Nat.left_eq_add, loadA, cellsAt, storeA, Option.bind_some, iaddrA, aaddrA, t8]; rfl)) | (apply WO.gop'; (· (simp only [St.ev, ↓Tr.get_set, ↓reduceIte, Nat.reduceEqDiff, natA, t8]; rfl)); (· rfl); (· first | exact op_mv (by simp only [St.ev, ↓Tr.get_set, ↓reduceIte, Nat.reduceEqDiff, natA, t8]; rfl) | exact op_bin (by simp only [St.ev, ↓Tr.get_set, ↓reduceIte, Nat.reduceEqDiff, natA, t8]; rfl) (by simp only [St.ev, ↓Tr.get_set, ↓reduceIte, Nat.reduceEqDiff, natA, t8]; rfl) (by simp only [binA, intCmpA, strA, natA, t8]; rfl) | exact op_slen (by simp only [St.ev, ↓Tr.get_set, ↓reduceIte, Nat.reduceEqDiff, natA, t8]; rfl) | exact op_faddr (by simp only [St.ev, ↓Tr.get_set, ↓reduceIte, Nat.reduceEqDiff, natA, t8]; rfl) | exact op_nilc (by simp only [St.ev, ↓Tr.get_set, ↓reduceIte, Nat.reduceEqDiff, natA, t8]; rfl) | exact op_ext (by simp only [St.ev, ↓Tr.get_set, ↓reduceIte, Nat.reduceEqDiff, natA, t8]; rfl) (by rfl) | exact op_pick (by simp only [St.ev, ↓Tr.get_set, ↓reduceIte, Nat.reduceEqDiff, natA, t8]; rfl) (by first | exact .inl ⟨rfl, (by simp only [St.ev, ↓Tr.get_set, ↓reduceIte, Nat.reduceEqDiff, natA, t8]; rfl)⟩ | exact .inr ⟨rfl, (by simp only [St.ev, ↓Tr.get_set, ↓reduceIte, Nat.reduceEqDiff, natA, t8]; rfl)⟩) | exact op_un (by simp only [St.ev, ↓Tr.get_set, ↓reduceIte, Nat.reduceEqDiff, natA, t8]; rfl) (by simp only [unA, t8]; rfl) | (simp only [xval, xop, AR.ofV, St.ev, Tr.get_set, get_bump, next_bump, next_set, next_add, AHeap.get_set, reduceIte, Nat.reduceEqDiff, evL, evParts, fillA, AV.cells, natA, binA, intCmpA, unA, minA, maxA, Nat.add_assoc, Nat.reduceAdd, Nat.add_left_cancel_iff, Nat.add_eq_left, Nat.left_eq_add, loadA, cellsAt, storeA, Option.bind_some, iaddrA, aaddrA, t8]; rfl))) | (apply WO.gno'; (· (simp only [St.ev, ↓Tr.get_set, ↓reduceIte, Nat.reduceEqDiff, natA, t8]; rfl)); (· rfl)) | refine pN ?_ | refine pR ?_ | refine pX ?_ | refine bN ?_ | refine bR ?_ | refine bX ?_ | refine bO (by decide) ?_ | (apply W.condT'; (· (simp only [St.ev, ↓Tr.get_set, ↓reduceIte, Nat.reduceEqDiff, natA, t8]; rfl)); (· rfl)) | (apply W.condF'; (· (simp only [St.ev, ↓Tr.get_set, ↓reduceIte, Nat.reduceEqDiff, natA, t8]; rfl)); (· rfl)))
    refine ⟨rfl, ⟨_, _, by simp only [Tr.get_set, get_bump, next_bump, next_set, next_add, AHeap.get_set, reduceIte, Nat.reduceEqDiff] <;> rfl, by simp only [Tr.get_set, get_bump, next_bump, next_set, next_add, AHeap.get_set, reduceIte, Nat.reduceEqDiff] <;> rfl, .inl ⟨i, le, by rw [hK]; exact hc, hno, rfl, rfl⟩⟩, by simp only [next_bump]; omega, fun j hj => ?_⟩
    show H1.get j = _
    rw [hg1, fr j hj]
  | false =>
    refine W.condF (by simp only [St.ev, Tr.get_set, get_bump, next_bump, next_set, next_add, AHeap.get_set, reduceIte, Nat.reduceEqDiff, hc]) (W.skip (pN (W.seq (W.seqN ?_))))
    have hno' : ∀ q, q < i + 1 → compl n (runM (begM n) (l.take q)) = false := fun q hq => by
      by_cases h : q = i
      · rw [h, hK]; exact hc
      · exact hno q (by omega)
    have hxH : RowE 2 H x l.length (prsC l) := hx.frame nx (fun j hj => fr j (hx.own_lt hj))
    refine W.rg 4 rfl (fun H2 hg2 hn2 => ?_)
    refine WO.op (by simp only [xval, xop, AR.ofV, St.ev, Tr.get_set, get_bump, next_bump, next_set, next_add, AHeap.get_set, reduceIte, Nat.reduceEqDiff, evL, evParts, fillA, AV.cells, natA, binA, intCmpA, unA, minA, maxA, t8, t1]; rfl) ?_
    refine WO.op (by simp only [xval, xop, AR.ofV, St.ev, Tr.get_set, get_bump, next_bump, next_set, next_add, AHeap.get_set, reduceIte, Nat.reduceEqDiff, evL, evParts, fillA, AV.cells, natA, binA, intCmpA, unA, minA, maxA, t8, t1]; rfl) ?_
    refine WO.op (op_lenE (hxH.frame (H' := H2) (by omega) (fun j hj => by rw [hg2, hg1])) (by simp only [St.ev, Tr.get_set, get_bump, next_bump, next_set, next_add, AHeap.get_set, reduceIte, Nat.reduceEqDiff])) ?_
    by_cases hi : i < l.length
    · have hd : ((i : Int) == (l.length : Int)) = false := by rw [beq_eq_false_iff_ne]; omega
      refine WO.op (by simp only [xval, xop, AR.ofV, St.ev, Tr.get_set, get_bump, next_bump, next_set, next_add, AHeap.get_set, reduceIte, Nat.reduceEqDiff, evL, evParts, fillA, AV.cells, natA, binA, intCmpA, unA, minA, maxA, hd]; rfl) ?_
      refine WO.nil ⟨rfl, W.condF (by simp only [St.ev, Tr.get_set, get_bump, next_bump, next_set, next_add, AHeap.get_set, reduceIte, Nat.reduceEqDiff] <;> rfl) (W.skip (pN ?_))⟩
      refine W.regd0 7 rfl ?_
      refine WO.named (fun H3 hH3 => ?_)
      have hg3 : ∀ j, H3.get j = H2.get j := fun j => by rw [hH3]; rfl
      have hn3 : H3.next = H2.next + 7 := by rw [hH3]; rfl
      clear hH3
      obtain ⟨p, hp⟩ : ∃ p, l[i]? = some p := ⟨_, List.getElem?_eq_getElem hi⟩
      obtain ⟨a, b⟩ := p
      obtain ⟨ha, hb, hab⟩ := hv (a, b) (List.mem_of_getElem? hp)
      simp only at ha hb hab
      have hw : wrapA .i64 ((i : Int) + Int.ofNat 1) = ((i + 1 : Nat) : Int) := by
        show wrapA .i64 ((i : Int) + 1) = _
        rw [wrapI _ (by omega) (by omega)]; rfl
      have hnext : callM K a b = runM (begM n) (l.take (i + 1)) := by
        rw [List.take_add_one, hp, ← hK]
        simp [runM]
      have hxR : Row 2 H x l.length (prsC l) := by
        rcases hxH with q | ⟨q, _⟩
        · exact q
        · omega
      have box3 : H3.get R = some (.cells (K.map u8A) none) := by rw [hg3, hg2, hg1]; exact box
      refine WO.op (v := .agg (K.map u8A)) (op_load (a := .ptr R 0) (by simp only [St.ev, Tr.get_set, get_bump, next_bump, next_set, next_add, AHeap.get_set, reduceIte, Nat.reduceEqDiff, t7]) (by simp only [loadA, cellsAt, box3, List.drop_zero, List.length_map, k1, Nat.le_refl, if_true]; rw [List.take_of_length_le (by simp [k1])])) ?_
      refine WO.op (by simp only [xval, xop, AR.ofV, St.ev, Tr.get_set, get_bump, next_bump, next_set, next_add, AHeap.get_set, reduceIte, Nat.reduceEqDiff, evL, evParts, fillA, AV.cells, natA, binA, intCmpA, unA, minA, maxA, t1]; rfl) ?_
      refine WO.op (by simp only [xval, xop, AR.ofV, St.ev, Tr.get_set, get_bump, next_bump, next_set, next_add, AHeap.get_set, reduceIte, Nat.reduceEqDiff, evL, evParts, fillA, AV.cells, natA, binA, intCmpA, unA, minA, maxA, t8]; rfl) ?_
      refine WO.cell2 (j := i) (c0 := natA a) (c1 := natA b) (hxR.frame (by omega) (fun j hj => by rw [hg3, hg2, hg1])) (by simp only [St.ev, Tr.get_set, get_bump, next_bump, next_set, next_add, AHeap.get_set, reduceIte, Nat.reduceEqDiff]) (by simp only [St.ev, Tr.get_set, get_bump, next_bump, next_set, next_add, AHeap.get_set, reduceIte, Nat.reduceEqDiff] <;> rfl) hi (prsC_at hp) (fun ow how => ?_)
      refine WO.op (v := .agg ((callM K a b).map u8A)) (H1 := H3) (op_call (g := 59) (cs := []) (l := [.agg (K.map u8A), .agg [natA a, natA b]]) rfl (by simp only [evL, St.ev, Tr.get_set, get_bump, next_bump, next_set, next_add, AHeap.get_set, reduceIte, Nat.reduceEqDiff, bind, Option.bind_some]) (d_59 k1 k2 (by omega) (by omega) H3)) ?_
      refine WO.store (i := R) (o := 0) (c := K.map u8A) (opn := none) (v := .agg ((callM K a b).map u8A)) (by simp only [St.ev, Tr.get_set, get_bump, next_bump, next_set, next_add, AHeap.get_set, reduceIte, Nat.reduceEqDiff, t7]) (by simp only [St.ev, Tr.get_set, get_bump, next_bump, next_set, next_add, AHeap.get_set, reduceIte, Nat.reduceEqDiff]) box3 (by simp [AV.cells, callM_len, k1]) (u8A_cells _) (by simp [k1]) (fun H6 hg6 ho6 hn6 => ?_)
      refine WO.nil (bN (pN ?_))
      repeat (first | refine W.seq ?_ | refine W.block ?_ | refine W.skip ?_ | refine W.ret ?_ | refine W.exit ?_ | (apply W.reg; · (simp only [List.length_cons, List.length_nil, Nat.reduceAdd]; rfl)) | (apply W.regd0; · (simp only [List.length_cons, List.length_nil, Nat.reduceAdd]; rfl)) | refine WO.nil ?_ | (apply WO.op; · first | exact op_mv (by simp only [St.ev, ↓Tr.get_set, ↓reduceIte, Nat.reduceEqDiff, natA, t8, hw]; rfl) | exact op_bin (by simp only [St.ev, ↓Tr.get_set, ↓reduceIte, Nat.reduceEqDiff, natA, t8, hw]; rfl) (by simp only [St.ev, ↓Tr.get_set, ↓reduceIte, Nat.reduceEqDiff, natA, t8, hw]; rfl) (by simp only [binA, intCmpA, strA, natA, t8, hw]; rfl) | exact op_slen (by simp only [St.ev, ↓Tr.get_set, ↓reduceIte, Nat.reduceEqDiff, natA, t8, hw]; rfl) | exact op_faddr (by simp only [St.ev, ↓Tr.get_set, ↓reduceIte, Nat.reduceEqDiff, natA, t8, hw]; rfl) | exact op_nilc (by simp only [St.ev, ↓Tr.get_set, ↓reduceIte, Nat.reduceEqDiff, natA, t8, hw]; rfl) | exact op_ext (by simp only [St.ev, ↓Tr.get_set, ↓reduceIte, Nat.reduceEqDiff, natA, t8, hw]; rfl) (by rfl) | exact op_pick (by simp only [St.ev, ↓Tr.get_set, ↓reduceIte, Nat.reduceEqDiff, natA, t8, hw]; rfl) (by first | exact .inl ⟨rfl, (by simp only [St.ev, ↓Tr.get_set, ↓reduceIte, Nat.reduceEqDiff, natA, t8, hw]; rfl)⟩ | exact .inr ⟨rfl, (by simp only [St.ev, ↓Tr.get_set, ↓reduceIte, Nat.reduceEqDiff, natA, t8, hw]; rfl)⟩) | exact op_un (by simp only [St.ev, ↓Tr.get_set, ↓reduceIte, Nat.reduceEqDiff, natA, t8, hw]; rfl) (by simp only [unA, t8, hw]; rfl) | (simp only [xval, xop, AR.ofV, St.ev, Tr.get_set, get_bump, next_bump, next_set, next_add, AHeap.get_set, reduceIte, Nat.reduceEqDiff, evL, evParts, fillA, AV.cells, natA, binA, intCmpA, unA, minA, maxA, Nat.add_assoc, Nat.reduceAdd, Nat.add_left_cancel_iff, Nat.add_eq_left, Nat.left_eq_add, loadA, cellsAt, storeA, Option.bind_some, iaddrA, aaddrA, t8, hw]; rfl)) | (apply WO.opn; · (simp only [xval, xop, AR.ofV, St.ev, Tr.get_set, get_bump, next_bump, next_set, next_add, AHeap.get_set, reduceIte, Nat.reduceEqDiff, evL, evParts, fillA, AV.cells, natA, binA, intCmpA, unA, minA, maxA, Nat.add_assoc, Nat.reduceAdd, Nat.add_left_cancel_iff, Nat.add_eq_left, Nat.left_eq_add, loadA, cellsAt, storeA, Option.bind_some, iaddrA, aaddrA, t8, hw]; rfl)) | (apply WO.gop'; (· (simp only [St.ev, ↓Tr.get_set, ↓reduceIte, Nat.reduceEqDiff, natA, t8, hw]; rfl)); (· rfl); (· first | exact op_mv (by simp only [St.ev, ↓Tr.get_set, ↓reduceIte, Nat.reduceEqDiff, natA, t8, hw]; rfl) | exact op_bin (by simp only [St.ev, ↓Tr.get_set, ↓reduceIte, Nat.reduceEqDiff, natA, t8, hw]; rfl) (by simp only [St.ev, ↓Tr.get_set, ↓reduceIte, Nat.reduceEqDiff, natA, t8, hw]; rfl) (by simp only [binA, intCmpA, strA, natA, t8, hw]; rfl) | exact op_slen (by simp only [St.ev, ↓Tr.get_set, ↓reduceIte, Nat.reduceEqDiff, natA, t8, hw]; rfl) | exact op_faddr (by simp only [St.ev, ↓Tr.get_set, ↓reduceIte, Nat.reduceEqDiff, natA, t8, hw]; rfl) | exact op_nilc (by simp only [St.ev, ↓Tr.get_set, ↓reduceIte, Nat.reduceEqDiff, natA, t8, hw]; rfl) | exact op_ext (by simp only [St.ev, ↓Tr.get_set, ↓reduceIte, Nat.reduceEqDiff, natA, t8, hw]; rfl) (by rfl) | exact op_pick (by simp only [St.ev, ↓Tr.get_set, ↓reduceIte, Nat.reduceEqDiff, natA, t8, hw]; rfl) (by first | exact .inl ⟨rfl, (by simp only [St.ev, ↓Tr.get_set, ↓reduceIte, Nat.reduceEqDiff, natA, t8, hw]; rfl)⟩ | exact .inr ⟨rfl, (by simp only [St.ev, ↓Tr.get_set, ↓reduceIte, Nat.reduceEqDiff, natA, t8, hw]; rfl)⟩) | exact op_un (by simp only [St.ev, ↓Tr.get_set, ↓reduceIte, Nat.reduceEqDiff, natA, t8, hw]; rfl) (by simp only [unA, t8, hw]; rfl) | (simp only [xval, xop, AR.ofV, St.ev, Tr.get_set, get_bump, next_bump, next_set, next_add, AHeap.get_set, reduceIte, Nat.reduceEqDiff, evL, evParts, fillA, AV.cells, natA, binA, intCmpA, unA, minA, maxA, Nat.add_assoc, Nat.reduceAdd, Nat.add_left_cancel_iff, Nat.add_eq_left, Nat.left_eq_add, loadA, cellsAt, storeA, Option.bind_some, iaddrA, aaddrA, t8, hw]; rfl))) | (apply WO.gno'; (· (simp only [St.ev, ↓Tr.get_set, ↓reduceIte, Nat.reduceEqDiff, natA, t8, hw]; rfl)); (· rfl)) | refine pN ?_ | refine pR ?_ | refine pX ?_ | refine bN ?_ | refine bR ?_ | refine bX ?_ | refine bO (by decide) ?_ | (apply W.condT'; (· (simp only [St.ev, ↓Tr.get_set, ↓reduceIte, Nat.reduceEqDiff, natA, t8, hw]; rfl)); (· rfl)) | (apply W.condF'; (· (simp only [St.ev, ↓Tr.get_set, ↓reduceIte, Nat.reduceEqDiff, natA, t8, hw]; rfl)); (· rfl)))
      refine ⟨i + 1, ⟨⟨by omega, ?_, ?_, ?_, ?_, ?_, ⟨hR.1, by simp only [next_bump]; omega⟩, by simp only [next_bump]; omega, fun j hj => ?_⟩, hno'⟩, by omega⟩
      · simp only [Tr.get_set, get_bump, next_bump, next_set, next_add, AHeap.get_set, reduceIte, Nat.reduceEqDiff] <;> assumption
      · simp only [Tr.get_set, get_bump, next_bump, next_set, next_add, AHeap.get_set, reduceIte, Nat.reduceEqDiff] <;> assumption
      · simp only [Tr.get_set, get_bump, next_bump, next_set, next_add, AHeap.get_set, reduceIte, Nat.reduceEqDiff] <;> assumption
      · simp only [Tr.get_set, get_bump, next_bump, next_set, next_add, AHeap.get_set, reduceIte, Nat.reduceEqDiff] <;> rfl
      · show H6.get R = _
        rw [hg6, ← hnext]
        simp [overA, AV.cells, callM_len, k1]
      · show H6.get j = _
        rw [ho6 j (by omega), hg3, hg2, hg1]
        exact fr j hj
    · have hil : i = l.length := by omega
      have hd : ((i : Int) == (l.length : Int)) = true := by simp [hil]
      refine WO.op (by simp only [xval, xop, AR.ofV, St.ev, Tr.get_set, get_bump, next_bump, next_set, next_add, AHeap.get_set, reduceIte, Nat.reduceEqDiff, evL, evParts, fillA, AV.cells, natA, binA, intCmpA, unA, minA, maxA, hd]; rfl) ?_
      refine WO.nil ⟨rfl, W.condT (by simp only [St.ev, Tr.get_set, get_bump, next_bump, next_set, next_add, AHeap.get_set, reduceIte, Nat.reduceEqDiff] <;> rfl) ?_⟩
      repeat (first | refine W.seq ?_ | refine W.block ?_ | refine W.skip ?_ | refine W.ret ?_ | refine W.exit ?_ | (apply W.reg; · (simp only [List.length_cons, List.length_nil, Nat.reduceAdd]; rfl)) | (apply W.regd0; · (simp only [List.length_cons, List.length_nil, Nat.reduceAdd]; rfl)) | refine WO.nil ?_ | (apply WO.op; · first | exact op_mv (by simp only [St.ev, ↓Tr.get_set, ↓reduceIte, Nat.reduceEqDiff, natA]; rfl) | exact op_bin (by simp only [St.ev, ↓Tr.get_set, ↓reduceIte, Nat.reduceEqDiff, natA]; rfl) (by simp only [St.ev, ↓Tr.get_set, ↓reduceIte, Nat.reduceEqDiff, natA]; rfl) (by simp only [binA, intCmpA, strA, natA]; rfl) | exact op_slen (by simp only [St.ev, ↓Tr.get_set, ↓reduceIte, Nat.reduceEqDiff, natA]; rfl) | exact op_faddr (by simp only [St.ev, ↓Tr.get_set, ↓reduceIte, Nat.reduceEqDiff, natA]; rfl) | exact op_nilc (by simp only [St.ev, ↓Tr.get_set, ↓reduceIte, Nat.reduceEqDiff, natA]; rfl) | exact op_ext (by simp only [St.ev, ↓Tr.get_set, ↓reduceIte, Nat.reduceEqDiff, natA]; rfl) (by rfl) | exact op_pick (by simp only [St.ev, ↓Tr.get_set, ↓reduceIte, Nat.reduceEqDiff, natA]; rfl) (by first | exact .inl ⟨rfl, (by simp only [St.ev, ↓Tr.get_set, ↓reduceIte, Nat.reduceEqDiff, natA]; rfl)⟩ | exact .inr ⟨rfl, (by simp only [St.ev, ↓Tr.get_set, ↓reduceIte, Nat.reduceEqDiff, natA]; rfl)⟩) | exact op_un (by simp only [St.ev, ↓Tr.get_set, ↓reduceIte, Nat.reduceEqDiff, natA]; rfl) (by simp only [unA]; rfl) | (simp only [xval, xop, AR.ofV, St.ev, Tr.get_set, get_bump, next_bump, next_set, next_add, AHeap.get_set, reduceIte, Nat.reduceEqDiff, evL, evParts, fillA, AV.cells, natA, binA, intCmpA, unA, minA, maxA, Nat.add_assoc, Nat.reduceAdd, Nat.add_left_cancel_iff, Nat.add_eq_left, Nat.left_eq_add, loadA, cellsAt, storeA, Option.bind_some, iaddrA, aaddrA]; rfl)) | (apply WO.opn; · (simp only [xval, xop, AR.ofV, St.ev, Tr.get_set, get_bump, next_bump, next_set, next_add, AHeap.get_set, reduceIte, Nat.reduceEqDiff, evL, evParts, fillA, AV.cells, natA, binA, intCmpA, unA, minA, maxA, Nat.add_assoc, Nat.reduceAdd, Nat.add_left_cancel_iff, Nat.add_eq_left, Nat.left_eq_add, loadA, cellsAt, storeA, Option.bind_some, iaddrA, aaddrA]; rfl)) | (apply WO.gop'; (· (simp only [St.ev, ↓Tr.get_set, ↓reduceIte, Nat.reduceEqDiff, natA]; rfl)); (· rfl); (· first | exact op_mv (by simp only [St.ev, ↓Tr.get_set, ↓reduceIte, Nat.reduceEqDiff, natA]; rfl) | exact op_bin (by simp only [St.ev, ↓Tr.get_set, ↓reduceIte, Nat.reduceEqDiff, natA]; rfl) (by simp only [St.ev, ↓Tr.get_set, ↓reduceIte, Nat.reduceEqDiff, natA]; rfl) (by simp only [binA, intCmpA, strA, natA]; rfl) | exact op_slen (by simp only [St.ev, ↓Tr.get_set, ↓reduceIte, Nat.reduceEqDiff, natA]; rfl) | exact op_faddr (by simp only [St.ev, ↓Tr.get_set, ↓reduceIte, Nat.reduceEqDiff, natA]; rfl) | exact op_nilc (by simp only [St.ev, ↓Tr.get_set, ↓reduceIte, Nat.reduceEqDiff, natA]; rfl) | exact op_ext (by simp only [St.ev, ↓Tr.get_set, ↓reduceIte, Nat.reduceEqDiff, natA]; rfl) (by rfl) | exact op_pick (by simp only [St.ev, ↓Tr.get_set, ↓reduceIte, Nat.reduceEqDiff, natA]; rfl) (by first | exact .inl ⟨rfl, (by simp only [St.ev, ↓Tr.get_set, ↓reduceIte, Nat.reduceEqDiff, natA]; rfl)⟩ | exact .inr ⟨rfl, (by simp only [St.ev, ↓Tr.get_set, ↓reduceIte, Nat.reduceEqDiff, natA]; rfl)⟩) | exact op_un (by simp only [St.ev, ↓Tr.get_set, ↓reduceIte, Nat.reduceEqDiff, natA]; rfl) (by simp only [unA]; rfl) | (simp only [xval, xop, AR.ofV, St.ev, Tr.get_set, get_bump, next_bump, next_set, next_add, AHeap.get_set, reduceIte, Nat.reduceEqDiff, evL, evParts, fillA, AV.cells, natA, binA, intCmpA, unA, minA, maxA, Nat.add_assoc, Nat.reduceAdd, Nat.add_left_cancel_iff, Nat.add_eq_left, Nat.left_eq_add, loadA, cellsAt, storeA, Option.bind_some, iaddrA, aaddrA]; rfl))) | (apply WO.gno'; (· (simp only [St.ev, ↓Tr.get_set, ↓reduceIte, Nat.reduceEqDiff, natA]; rfl)); (· rfl)) | refine pN ?_ | refine pR ?_ | refine pX ?_ | refine bN ?_ | refine bR ?_ | refine bX ?_ | refine bO (by decide) ?_ | (apply W.condT'; (· (simp only [St.ev, ↓Tr.get_set, ↓reduceIte, Nat.reduceEqDiff, natA]; rfl)); (· rfl)) | (apply W.condF'; (· (simp only [St.ev, ↓Tr.get_set, ↓reduceIte, Nat.reduceEqDiff, natA]; rfl)); (· rfl)))
      refine ⟨rfl, ⟨_, _, by simp only [Tr.get_set, get_bump, next_bump, next_set, next_add, AHeap.get_set, reduceIte, Nat.reduceEqDiff] <;> rfl, by simp only [Tr.get_set, get_bump, next_bump, next_set, next_add, AHeap.get_set, reduceIte, Nat.reduceEqDiff] <;> rfl, .inr ⟨fun q hq => hno' q (by omega), rfl, rfl⟩⟩, by simp only [next_bump]; omega, fun j hj => ?_⟩
      show H2.get j = _
      rw [hg2, hg1, fr j hj]

set_option maxHeartbeats 4000000 in
theorem done_ok {k fuel n : Nat} {H : AHeap} {x : AV} {l : Prs} (h1 : 1 ≤ n) (hn : n ≤ 6) (hl : l.length ≤ 60) (hv : Vld n l) (hx : RowE 2 H x l.length (prsC l)) (hf : 61 < fuel) :
    ∃ v H', xfunc (cfD k) fuel L34 [natA n, x] H = some (v, H') ∧ (∃ a b, v = .tup [a, b] ∧ DoneR n l a b) ∧ H.next ≤ H'.next ∧ ∀ j, j < H.next → H'.get j = H.get j := by
  refine xfunc_of rfl (by show 2 ≤ 33; omega) ?_
  have a0 : (argsT [natA n, x] 0 .e).get 0 = some (natA n) := rfl
  have a1 : (argsT [natA n, x] 0 .e).get 1 = some x := rfl
  generalize argsT [natA n, x] 0 .e = tm at a0 a1
  unfold L34
  dsimp only
  refine W.seqN ?_
  refine W.rg 2 rfl (fun H1 hg1 hn1 => ?_)
  refine WO.op (by simp only [xval, xop, AR.ofV, St.ev, Tr.get_set, get_bump, next_bump, next_set, next_add, AHeap.get_set, reduceIte, Nat.reduceEqDiff, evL, evParts, fillA, AV.cells, natA, binA, intCmpA, unA, minA, maxA]; rfl) ?_
  refine WO.op (by simp only [xval, xop, AR.ofV, St.ev, Tr.get_set, get_bump, next_bump, next_set, next_add, AHeap.get_set, reduceIte, Nat.reduceEqDiff, evL, evParts, fillA, AV.cells, natA, binA, intCmpA, unA, minA, maxA]; rfl) ?_
  refine WO.nil ⟨rfl, W.seqN (W.seqN ?_)⟩
  refine W.rg 4 rfl (fun H2 hg2 hn2 => ?_)
  refine WO.op (by simp only [xval, xop, AR.ofV, St.ev, Tr.get_set, get_bump, next_bump, next_set, next_add, AHeap.get_set, reduceIte, Nat.reduceEqDiff, evL, evParts, fillA, AV.cells, natA, binA, intCmpA, unA, minA, maxA, a0, a1]; rfl) ?_
  refine WO.op (by simp only [xval, xop, AR.ofV, St.ev, Tr.get_set, get_bump, next_bump, next_set, next_add, AHeap.get_set, reduceIte, Nat.reduceEqDiff, evL, evParts, fillA, AV.cells, natA, binA, intCmpA, unA, minA, maxA, a0, a1]; rfl) ?_
  refine WO.op (v := .int .i64 0) (H1 := H2) (op_call (g := 57) (cs := []) (l := [natA n, x]) rfl (by simp only [evL, St.ev, Tr.get_set, get_bump, next_bump, next_set, next_add, AHeap.get_set, reduceIte, Nat.reduceEqDiff, a1, bind, Option.bind_some, natA]) (d_57 h1 hn hl hv (hx.frame (by omega) (fun j q => by rw [hg2, hg1])))) ?_
  refine WO.op (by simp only [xval, xop, AR.ofV, St.ev, Tr.get_set, get_bump, next_bump, next_set, next_add, AHeap.get_set, reduceIte, Nat.reduceEqDiff, evL, evParts, fillA, AV.cells, natA, binA, intCmpA, unA, minA, maxA]; rfl) ?_
  refine WO.nil ⟨rfl, W.seqN ?_⟩
  refine W.rg 2 rfl (fun H3 hg3 hn3 => ?_)
  refine WO.op (by simp only [xval, xop, AR.ofV, St.ev, Tr.get_set, get_bump, next_bump, next_set, next_add, AHeap.get_set, reduceIte, Nat.reduceEqDiff, evL, evParts, fillA, AV.cells, natA, binA, intCmpA, unA, minA, maxA]; rfl) ?_
  refine WO.op (by simp only [xval, xop, AR.ofV, St.ev, Tr.get_set, get_bump, next_bump, next_set, next_add, AHeap.get_set, reduceIte, Nat.reduceEqDiff, evL, evParts, fillA, AV.cells, natA, binA, intCmpA, unA, minA, maxA]; rfl) ?_
  refine WO.nil ⟨rfl, W.condF (by simp only [St.ev, Tr.get_set, get_bump, next_bump, next_set, next_add, AHeap.get_set, reduceIte, Nat.reduceEqDiff] <;> rfl) (W.skip ⟨rfl, W.seqN ?_⟩)⟩
  refine W.rg 4 rfl (fun H4 hg4 hn4 => ?_)
  refine WO.op (by simp only [xval, xop, AR.ofV, St.ev, Tr.get_set, get_bump, next_bump, next_set, next_add, AHeap.get_set, reduceIte, Nat.reduceEqDiff, evL, evParts, fillA, AV.cells, natA, binA, intCmpA, unA, minA, maxA, a0]; rfl) ?_
  refine WO.op (v := .agg ((begM n).map u8A)) (H1 := H4) (op_call (g := 54) (cs := []) (l := [natA n]) rfl (by simp only [evL, St.ev, Tr.get_set, get_bump, next_bump, next_set, next_add, AHeap.get_set, reduceIte, Nat.reduceEqDiff, bind, Option.bind_some, natA]) (d_54 hn)) ?_
  refine WO.alloc (fun H5 hg5 ho5 hn5 => ?_)
  have bl := (begM_inv n).1
  refine WO.store (v := .agg ((begM n).map u8A)) (by simp only [St.ev, Tr.get_set, get_bump, next_bump, next_set, next_add, AHeap.get_set, reduceIte, Nat.reduceEqDiff] <;> rfl) (by simp only [St.ev, Tr.get_set, get_bump, next_bump, next_set, next_add, AHeap.get_set, reduceIte, Nat.reduceEqDiff] <;> rfl) hg5 (by simp [AV.cells, bl]) (u8A_cells _) (by simp) (fun H6 hg6 ho6 hn6 => ?_)
  refine WO.nil ⟨rfl, W.seqN ?_⟩
  have hfr6 : ∀ j, j < H.next → H6.get j = H.get j := fun j hj => by rw [ho6 j (by omega), ho5 j (by omega), hg4, hg3, hg2, hg1]
  obtain ⟨R, hR⟩ : ∃ R, H3.next + 1 + 1 = R := ⟨_, rfl⟩
  have hbox : H6.get R = some (.cells ((begM n).map u8A) none) := by
    rw [← hR, hg6]
    simp [overA, AV.cells, bl]
  refine W.rg 1 rfl (fun H7 hg7 hn7 => ?_)
  refine WO.op (by simp only [xval, xop, AR.ofV, St.ev, Tr.get_set, get_bump, next_bump, next_set, next_add, AHeap.get_set, reduceIte, Nat.reduceEqDiff, evL, evParts, fillA, AV.cells, natA, binA, intCmpA, unA, minA, maxA]; rfl) ?_
  refine WO.nil ⟨rfl, W.block ?_⟩
  refine W.mono (W.loop (fun i s => EI H n x l R i s ∧ ∀ j, j < i → compl n (runM (begM n) (l.take j)) = false) (fun i => l.length - i) 0 (Q := fun e s' => e = .ret ∧ (∃ a b, s'.tm.get 4 = some a ∧ s'.tm.get 5 = some b ∧ DoneR n l a b) ∧ H.next ≤ s'.H.next ∧ ∀ j, j < H.next → s'.H.get j = H.get j) ⟨⟨by omega, ?_, ?_, ?_, ?_, ?_, ⟨by omega, by show R < H7.next; omega⟩, by show H.next ≤ H7.next; omega, fun j hj => ?_⟩, fun j hj => by omega⟩ (by omega) (fun i s h => body34_ok hx hn hl hv i s h)) (fun e s' q => ?_)
  · simp only [Tr.get_set, get_bump, next_bump, next_set, next_add, AHeap.get_set, reduceIte, Nat.reduceEqDiff] <;> assumption
  · simp only [Tr.get_set, get_bump, next_bump, next_set, next_add, AHeap.get_set, reduceIte, Nat.reduceEqDiff] <;> assumption
  · simp only [Tr.get_set, get_bump, next_bump, next_set, next_add, AHeap.get_set, reduceIte, Nat.reduceEqDiff, hR]
  · simp only [Tr.get_set, get_bump, next_bump, next_set, next_add, AHeap.get_set, reduceIte, Nat.reduceEqDiff] <;> rfl
  · show H7.get R = _
    rw [hg7, hbox]; rfl
  · show H7.get j = _
    rw [hg7, hfr6 j hj]
  obtain ⟨he, ⟨a, b, g4, g5, hd⟩, nx, fr⟩ := q
  subst he
  obtain ⟨tm', H'⟩ := s'
  simp only at g4 g5 nx fr
  refine bR ?_
  exact ⟨fun id q => (by cases q), _, by simp only [resL, resA, g4, g5]; rfl, ⟨a, b, rfl, hd⟩, nx, fr⟩
theorem d_34 {k n : Nat} {H : AHeap} {x : AV} {l : Prs} (h1 : 1 ≤ n) (hn : n ≤ 6) (hl : l.length ≤ 60) (hv : Vld n l) (hx : RowE 2 H x l.length (prsC l)) :
    ∃ H' a b, cfD (k + 1) 34 [natA n, x] H = some (.tup [a, b], H') ∧ DoneR n l a b ∧ H.next ≤ H'.next ∧ ∀ j, j < H.next → H'.get j = H.get j := by
  obtain ⟨v, H', c, ⟨a, b, rfl, hd⟩, h⟩ := done_ok (k := k) (fuel := 300) h1 hn hl hv hx (by omega)
  exact ⟨H', a, b, (cfD_step rfl rfl).trans c, hd, h⟩
end Go.Proofs.Ytpbighinamljbaa.PA
