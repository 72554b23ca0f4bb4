/- news.Knows, over the abstract machine: the calls. No condition. -/
import Derived.Test.YtpbighinamljbaaKl
set_option linter.unusedSimpArgs false
set_option linter.unusedVariables false
namespace Go.Proofs.Ytpbighinamljbaa.PA
open Go Go.Eng Go.Proofs
def u8A (m : Nat) : AV := .int .u8 (m : Int)
/-- What is known behind a call, as sets. -/
def callM (K : List Nat) (a b : Nat) : List Nat := (K.set a (K.getD a 0 ||| K.getD b 0)).set b (K.getD a 0 ||| K.getD b 0)
theorem tabOr : ((List.range 64).all fun x => (List.range 64).all fun y => orU (x : Int) (y : Int) == ((x ||| y : Nat) : Int)) = true := by kernel_rfl
theorem orU_nat {x y : Nat} (hx : x < 64) (hy : y < 64) : orU (x : Int) (y : Int) = ((x ||| y : Nat) : Int) := by
  have h := tabOr
  rw [List.all_eq_true] at h
  have h1 := h x (List.mem_range.2 hx)
  rw [List.all_eq_true] at h1
  simpa using h1 y (List.mem_range.2 hy)
theorem getD_lt {K : List Nat} (hK : ∀ m ∈ K, m < 64) (a : Nat) : K.getD a 0 < 64 := by
  rw [List.getD_eq_getElem?_getD]
  cases h : K[a]? with
  | none => simp
  | some m => exact hK m (List.mem_of_getElem? h)
theorem callM_cast {K : List Nat} (hK : ∀ m ∈ K, m < 64) (a b : Nat) : callA (K.map fun m : Nat => (m : Int)) a b = (callM K a b).map fun m : Nat => (m : Int) := by
  have e : ∀ i, (K.map fun m : Nat => (m : Int)).getD i 0 = ((K.getD i 0 : Nat) : Int) := by
    intro i
    rw [List.getD_eq_getElem?_getD, List.getD_eq_getElem?_getD, List.getElem?_map]
    cases K[i]? <;> simp
  unfold callA callM
  rw [e a, e b, orU_nat (getD_lt hK a) (getD_lt hK b), List.map_set, List.map_set]
theorem callM_lt {K : List Nat} (hK : ∀ m ∈ K, m < 64) (a b : Nat) : ∀ m ∈ callM K a b, m < 64 := by
  have hor : K.getD a 0 ||| K.getD b 0 < 64 := Nat.or_lt_two_pow (n := 6) (getD_lt hK a) (getD_lt hK b)
  intro m hm
  unfold callM at hm
  rcases List.mem_or_eq_of_mem_set hm with hm | rfl
  · rcases List.mem_or_eq_of_mem_set hm with hm | rfl
    · exact hK m hm
    · exact hor
  · exact hor
theorem callM_len (K : List Nat) (a b : Nat) : (callM K a b).length = K.length := by simp [callM]
def runM (K : List Nat) (l : Prs) : List Nat := l.foldl (fun K p => callM K p.1 p.2) K
def begM (n : Nat) : List Nat := (List.range 6).map fun i => if i < n then 2 ^ i else 0
theorem runM_inv (l : Prs) : ∀ (K : List Nat), K.length = 6 → (∀ m ∈ K, m < 64) → (runM K l).length = 6 ∧ ∀ m ∈ runM K l, m < 64 := by
  induction l with
  | nil => intro K h1 h2; exact ⟨h1, h2⟩
  | cons p l ih => intro K h1 h2; exact ih _ (by rw [callM_len, h1]) (callM_lt h2 _ _)
theorem begM_inv (n : Nat) : (begM n).length = 6 ∧ ∀ m ∈ begM n, m < 64 := by
  refine ⟨by simp [begM], fun m hm => ?_⟩
  simp only [begM, List.mem_map, List.mem_range] at hm
  obtain ⟨i, hi, rfl⟩ := hm
  split
  · exact Nat.pow_lt_pow_right (by omega) hi
  · omega
theorem begA_eq (n : Nat) : begA n = (begM n).map u8A := by
  unfold begA begM u8A
  rw [List.map_map]
  refine List.map_congr_left fun i _ => ?_
  simp only [Function.comp]
  split <;> rfl
/-- What the loop over the calls keeps. -/
structure KI (H0 : AHeap) (n : Nat) (x : AV) (l : Prs) (R : Nat) (i : Nat) (s : St) : Prop where
  le : i ≤ l.length
  t0 : s.tm.get 0 = some (natA n)
  t23 : s.tm.get 23 = some x
  t24 : s.tm.get 24 = some (natA l.length)
  t25 : s.tm.get 25 = some (natA i)
  t7 : s.tm.get 7 = some (.ptr R 0)
  box : s.H.get R = some (.cells ((runM (begM n) (l.take i)).map u8A) none)
  hR : H0.next ≤ R ∧ R < s.H.next
  nx : H0.next ≤ s.H.next
  fr : ∀ j, j < H0.next → s.H.get j = H0.get j
def body38 : XCode := match L38.code with
  | .seq _ (.seq _ (.seq _ (.seq (.seq _ (.block _ (.loop c))) _))) => c
  | _ => .skip
theorem u8A_cells (K : List Nat) : (AV.agg (K.map u8A)).cells.all AV.oneCell = true := by
  simp [AV.cells, u8A, AV.oneCell]
theorem cf59 {cf : CF} (h : ∀ k a b H, k.length = 6 → a < 6 → b < 6 → cf 59 [.agg (k.map (AV.int .u8)), .agg [natA a, natA b]] H = some (.agg ((callA k a b).map (.int .u8)), H)) {K : List Nat} (hK : K.length = 6) (hlt : ∀ m ∈ K, m < 64) {a b : Nat} (ha : a < 6) (hb : b < 6) (H : AHeap) :
    cf 59 [.agg (K.map u8A), .agg [natA a, natA b]] H = some (.agg ((callM K a b).map u8A), H) := by
  have h1 := h (K.map fun m : Nat => (m : Int)) a b H (by simpa using hK) ha hb
  rw [callM_cast hlt, List.map_map, List.map_map] at h1
  exact h1
set_option maxHeartbeats 4000000 in
theorem body38_ok {cf : CF} {fuel n : Nat} {H0 : AHeap} {x : AV} {l : Prs} {R : Nat} (hcf : ∀ k a b H, k.length = 6 → a < 6 → b < 6 → cf 59 [.agg (k.map (AV.int .u8)), .agg [natA a, natA b]] H = some (.agg ((callA k a b).map (.int .u8)), H))
    (hx : RowE 2 H0 x l.length (prsC l)) (hn : n ≤ 6) (hl : l.length ≤ 60) (hv : Vld n l) (i : Nat) (s : St) (h : KI H0 n x l R i s) :
    W cf fuel body38 s fun e s' => (e = .normal → ∃ j, KI H0 n x l R j s' ∧ l.length - j < l.length - i) ∧ (e ≠ .normal → e = .exit 0 ∧ KI H0 n x l R l.length s') := by
  have h' := h
  obtain ⟨le, t0, t23, t24, t25, t7, box, hR, nx, fr⟩ := h
  obtain ⟨tm, H⟩ := s
  simp only at t0 t23 t24 t25 t7 box hR nx fr
  unfold body38 L38
  dsimp only
  by_cases hi : i < l.length
  · obtain ⟨p, hp⟩ : ∃ p, l[i]? = some p := ⟨_, List.getElem?_eq_getElem hi⟩
    obtain ⟨a, b⟩ := p
    obtain ⟨ha, hb, hab⟩ := hv (a, b) (List.mem_of_getElem? hp)
    simp only at ha hb hab
    have hd : decide ((i : Int) < (l.length : Int)) = true := by simpa using hi
    have hw : wrapA .i64 ((i : Int) + Int.ofNat 1) = ((i + 1 : Nat) : Int) := by
      show wrapA .i64 ((i : Int) + 1) = _
      rw [wrapI _ (by omega) (by omega)]; rfl
    obtain ⟨k1, k2⟩ := runM_inv (l.take i) (begM n) (begM_inv n).1 (begM_inv n).2
    obtain ⟨K, hK⟩ : ∃ K, runM (begM n) (l.take i) = K := ⟨_, rfl⟩
    rw [hK] at k1 k2 box
    have hxH : Row 2 H x l.length (prsC l) := by
      have := hx.frame (H' := H) nx (fun j hj => fr j (hx.own_lt hj))
      rcases this with q | ⟨q, _⟩
      · exact q
      · omega
    have ownx : ∀ j, x.own = some j → j < H0.next := fun j hj => hx.own_lt hj
    have hnext : callM K a b = runM (begM n) (l.take (i + 1)) := by
      rw [List.take_add_one, hp, ← hK]
      simp [runM]
    refine W.seqN ?_
    refine W.rg 1 rfl (fun H1 hg1 hn1 => ?_)
    refine WO.op (by simp only [xval, xop, AR.ofV, St.ev, Tr.get_set, get_bump, next_bump, next_set, next_add, AHeap.get_set, reduceIte, Nat.reduceEqDiff, evL, evParts, fillA, AV.cells, natA, binA, intCmpA, unA, minA, maxA, t25, t24, hd]; rfl) ?_
    refine WO.nil ⟨rfl, W.seqN (W.condT (by simp only [St.ev, Tr.get_set, get_bump, next_bump, next_set, next_add, AHeap.get_set, reduceIte, Nat.reduceEqDiff] <;> rfl) (W.skip ⟨rfl, ?_⟩))⟩
    refine W.seq (W.block (W.seqN ?_))
    refine W.rg 4 rfl (fun H2 hg2 hn2 => ?_)
    refine WO.cell2 (j := i) (c0 := natA a) (c1 := natA b) (hxH.frame (by omega) (fun j hj => by rw [hg2, hg1])) (by simp only [St.ev, Tr.get_set, get_bump, next_bump, next_set, next_add, AHeap.get_set, reduceIte, Nat.reduceEqDiff, t23]) (by simp only [St.ev, Tr.get_set, get_bump, next_bump, next_set, next_add, AHeap.get_set, reduceIte, Nat.reduceEqDiff, t25] <;> rfl) hi (prsC_at hp) (fun ow how => ?_)
    refine WO.alloc (fun H3 hg3 ho3 hn3 => ?_)
    refine WO.store (v := .agg [natA a, natA b]) (by simp only [St.ev, Tr.get_set, get_bump, next_bump, next_set, next_add, AHeap.get_set, reduceIte, Nat.reduceEqDiff] <;> rfl) (by simp only [St.ev, Tr.get_set, get_bump, next_bump, next_set, next_add, AHeap.get_set, reduceIte, Nat.reduceEqDiff] <;> rfl) hg3 rfl rfl (by decide) (fun H4 hg4 ho4 hn4 => ?_)
    refine WO.nil ⟨rfl, ?_⟩
    refine W.rg 4 rfl (fun H5 hg5 hn5 => ?_)
    have hRb : H5.get R = some (.cells (K.map u8A) none) := by rw [hg5, ho4 R (by omega), ho3 R (by omega), hg2, hg1]; exact box
    have h9 : H5.get (H1.next + 1 + 1) = some (.cells [natA a, natA b] none) := by rw [hg5]; exact hg4
    refine WO.op (v := .agg (K.map u8A)) (op_load (a := .ptr R 0) (by simp only [St.ev, Tr.get_set, get_bump, next_bump, next_set, next_add, AHeap.get_set, reduceIte, Nat.reduceEqDiff, t7]) (by simp only [loadA, cellsAt, hRb, List.drop_zero, List.length_map, k1, Nat.le_refl, if_true]; rw [List.take_of_length_le (by simp [k1])])) ?_
    refine WO.op (v := .agg [natA a, natA b]) (op_load (a := .ptr (H1.next + 1 + 1) 0) (by simp only [St.ev, Tr.get_set, get_bump, next_bump, next_set, next_add, AHeap.get_set, reduceIte, Nat.reduceEqDiff] <;> rfl) (by simp only [loadA, cellsAt, h9]; rfl)) ?_
    refine WO.op (v := .agg ((callM K a b).map u8A)) (H1 := H5) (op_call (g := 59) (cs := []) (l := [.agg (K.map u8A), .agg [natA a, natA b]]) rfl (by simp only [evL, St.ev, Tr.get_set, get_bump, next_bump, next_set, next_add, AHeap.get_set, reduceIte, Nat.reduceEqDiff, bind, Option.bind_some]) (cf59 hcf k1 k2 (by omega) (by omega) H5)) ?_
    refine WO.store (i := R) (o := 0) (c := K.map u8A) (opn := none) (v := .agg ((callM K a b).map u8A)) (by simp only [St.ev, Tr.get_set, get_bump, next_bump, next_set, next_add, AHeap.get_set, reduceIte, Nat.reduceEqDiff, t7]) (by simp only [St.ev, Tr.get_set, get_bump, next_bump, next_set, next_add, AHeap.get_set, reduceIte, Nat.reduceEqDiff]) hRb (by simp [AV.cells, callM_len, k1]) (u8A_cells _) (by simp [k1]) (fun H6 hg6 ho6 hn6 => ?_)
    refine WO.nil ?_
    repeat (first | refine W.seq ?_ | refine W.block ?_ | refine W.skip ?_ | refine W.ret ?_ | refine W.exit ?_ | (apply W.reg; · (simp only [List.length_cons, List.length_nil, Nat.reduceAdd]; rfl)) | (apply W.regd0; · (simp only [List.length_cons, List.length_nil, Nat.reduceAdd]; rfl)) | refine WO.nil ?_ | (apply WO.op; · first | exact op_mv (by simp only [St.ev, ↓Tr.get_set, ↓reduceIte, Nat.reduceEqDiff, natA, t25, hw]; rfl) | exact op_bin (by simp only [St.ev, ↓Tr.get_set, ↓reduceIte, Nat.reduceEqDiff, natA, t25, hw]; rfl) (by simp only [St.ev, ↓Tr.get_set, ↓reduceIte, Nat.reduceEqDiff, natA, t25, hw]; rfl) (by simp only [binA, intCmpA, strA, natA, t25, hw]; rfl) | exact op_slen (by simp only [St.ev, ↓Tr.get_set, ↓reduceIte, Nat.reduceEqDiff, natA, t25, hw]; rfl) | exact op_faddr (by simp only [St.ev, ↓Tr.get_set, ↓reduceIte, Nat.reduceEqDiff, natA, t25, hw]; rfl) | exact op_nilc (by simp only [St.ev, ↓Tr.get_set, ↓reduceIte, Nat.reduceEqDiff, natA, t25, hw]; rfl) | exact op_ext (by simp only [St.ev, ↓Tr.get_set, ↓reduceIte, Nat.reduceEqDiff, natA, t25, hw]; rfl) (by rfl) | exact op_pick (by simp only [St.ev, ↓Tr.get_set, ↓reduceIte, Nat.reduceEqDiff, natA, t25, hw]; rfl) (by first | exact .inl ⟨rfl, (by simp only [St.ev, ↓Tr.get_set, ↓reduceIte, Nat.reduceEqDiff, natA, t25, hw]; rfl)⟩ | exact .inr ⟨rfl, (by simp only [St.ev, ↓Tr.get_set, ↓reduceIte, Nat.reduceEqDiff, natA, t25, hw]; rfl)⟩) | exact op_un (by simp only [St.ev, ↓Tr.get_set, ↓reduceIte, Nat.reduceEqDiff, natA, t25, hw]; rfl) (by simp only [unA, t25, hw]; rfl) | (simp only [xval, xop, AR.ofV, St.ev, Tr.get_set, get_bump, next_bump, next_set, next_add, AHeap.get_set, reduceIte, Nat.reduceEqDiff, evL, evParts, fillA, AV.cells, natA, binA, intCmpA, unA, minA, maxA, Nat.add_assoc, Nat.reduceAdd, Nat.add_left_cancel_iff, Nat.add_eq_left, Nat.left_eq_add, loadA, cellsAt, storeA, Option.bind_some, iaddrA, aaddrA, t25, hw]; rfl)) | (apply WO.opn; · (simp only [xval, xop, AR.ofV, St.ev, Tr.get_set, get_bump, next_bump, next_set, next_add, AHeap.get_set, reduceIte, Nat.reduceEqDiff, evL, evParts, fillA, AV.cells, natA, binA, intCmpA, unA, minA, maxA, Nat.add_assoc, Nat.reduceAdd, Nat.add_left_cancel_iff, Nat.add_eq_left, Nat.left_eq_add, loadA, cellsAt, storeA, Option.bind_some, iaddrA, aaddrA, t25, hw]; rfl)) | (apply WO.gop'; (· (simp only [St.ev, ↓Tr.get_set, ↓reduceIte, Nat.reduceEqDiff, natA, t25, hw]; rfl)); (· rfl); (· first | exact op_mv (by simp only [St.ev, ↓Tr.get_set, ↓reduceIte, Nat.reduceEqDiff, natA, t25, hw]; rfl) | exact op_bin (by simp only [St.ev, ↓Tr.get_set, ↓reduceIte, Nat.reduceEqDiff, natA, t25, hw]; rfl) (by simp only [St.ev, ↓Tr.get_set, ↓reduceIte, Nat.reduceEqDiff, natA, t25, hw]; rfl) (by simp only [binA, intCmpA, strA, natA, t25, hw]; rfl) | exact op_slen (by simp only [St.ev, ↓Tr.get_set, ↓reduceIte, Nat.reduceEqDiff, natA, t25, hw]; rfl) | exact op_faddr (by simp only [St.ev, ↓Tr.get_set, ↓reduceIte, Nat.reduceEqDiff, natA, t25, hw]; rfl) | exact op_nilc (by simp only [St.ev, ↓Tr.get_set, ↓reduceIte, Nat.reduceEqDiff, natA, t25, hw]; rfl) | exact op_ext (by simp only [St.ev, ↓Tr.get_set, ↓reduceIte, Nat.reduceEqDiff, natA, t25, hw]; rfl) (by rfl) | exact op_pick (by simp only [St.ev, ↓Tr.get_set, ↓reduceIte, Nat.reduceEqDiff, natA, t25, hw]; rfl) (by first | exact .inl ⟨rfl, (by simp only [St.ev, ↓Tr.get_set, ↓reduceIte, Nat.reduceEqDiff, natA, t25, hw]; rfl)⟩ | exact .inr ⟨rfl, (by simp only [St.ev, ↓Tr.get_set, ↓reduceIte, Nat.reduceEqDiff, natA, t25, hw]; rfl)⟩) | exact op_un (by simp only [St.ev, ↓Tr.get_set, ↓reduceIte, Nat.reduceEqDiff, natA, t25, hw]; rfl) (by simp only [unA, t25, hw]; rfl) | (simp only [xval, xop, AR.ofV, St.ev, Tr.get_set, get_bump, next_bump, next_set, next_add, AHeap.get_set, reduceIte, Nat.reduceEqDiff, evL, evParts, fillA, AV.cells, natA, binA, intCmpA, unA, minA, maxA, Nat.add_assoc, Nat.reduceAdd, Nat.add_left_cancel_iff, Nat.add_eq_left, Nat.left_eq_add, loadA, cellsAt, storeA, Option.bind_some, iaddrA, aaddrA, t25, hw]; rfl))) | (apply WO.gno'; (· (simp only [St.ev, ↓Tr.get_set, ↓reduceIte, Nat.reduceEqDiff, natA, t25, hw]; rfl)); (· rfl)) | refine pN ?_ | refine pR ?_ | refine pX ?_ | refine bN ?_ | refine bR ?_ | refine bX ?_ | refine bO (by decide) ?_ | (apply W.condT'; (· (simp only [St.ev, ↓Tr.get_set, ↓reduceIte, Nat.reduceEqDiff, natA, t25, hw]; rfl)); (· rfl)) | (apply W.condF'; (· (simp only [St.ev, ↓Tr.get_set, ↓reduceIte, Nat.reduceEqDiff, natA, t25, hw]; rfl)); (· rfl)))
    refine ⟨i + 1, ⟨by omega, ?_, ?_, ?_, ?_, ?_, ?_, ⟨hR.1, by simp only [next_bump]; omega⟩, by simp only [next_bump]; omega, fun j hj => ?_⟩, by omega⟩
    · simp only [Tr.get_set, get_bump, next_bump, next_set, next_add, AHeap.get_set, reduceIte, Nat.reduceEqDiff] <;> assumption
    · simp only [Tr.get_set, get_bump, next_bump, next_set, next_add, AHeap.get_set, reduceIte, Nat.reduceEqDiff] <;> assumption
    · simp only [Tr.get_set, get_bump, next_bump, next_set, next_add, AHeap.get_set, reduceIte, Nat.reduceEqDiff] <;> assumption
    · simp only [Tr.get_set, get_bump, next_bump, next_set, next_add, AHeap.get_set, reduceIte, Nat.reduceEqDiff] <;> rfl
    · simp only [Tr.get_set, get_bump, next_bump, next_set, next_add, AHeap.get_set, reduceIte, Nat.reduceEqDiff] <;> assumption
    · show H6.get R = _
      rw [hg6, ← hnext]
      simp [overA, AV.cells, callM_len, k1]
    · show H6.get j = _
      rw [ho6 j (by omega), hg5, ho4 j (by omega), ho3 j (by omega), hg2, hg1]
      exact fr j hj
  · have hil : i = l.length := by omega
    have hd : decide ((i : Int) < (l.length : Int)) = false := by simp; omega
    repeat (first | refine W.seq ?_ | refine W.block ?_ | refine W.skip ?_ | refine W.ret ?_ | refine W.exit ?_ | (apply W.reg; · (simp only [List.length_cons, List.length_nil, Nat.reduceAdd]; rfl)) | (apply W.regd0; · (simp only [List.length_cons, List.length_nil, Nat.reduceAdd]; rfl)) | refine WO.nil ?_ | (apply WO.op; · first | exact op_mv (by simp only [St.ev, ↓Tr.get_set, ↓reduceIte, Nat.reduceEqDiff, natA, t25, t24, hd]; rfl) | exact op_bin (by simp only [St.ev, ↓Tr.get_set, ↓reduceIte, Nat.reduceEqDiff, natA, t25, t24, hd]; rfl) (by simp only [St.ev, ↓Tr.get_set, ↓reduceIte, Nat.reduceEqDiff, natA, t25, t24, hd]; rfl) (by simp only [binA, intCmpA, strA, natA, t25, t24, hd]; rfl) | exact op_slen (by simp only [St.ev, ↓Tr.get_set, ↓reduceIte, Nat.reduceEqDiff, natA, t25, t24, hd]; rfl) | exact op_faddr (by simp only [St.ev, ↓Tr.get_set, ↓reduceIte, Nat.reduceEqDiff, natA, t25, t24, hd]; rfl) | exact op_nilc (by simp only [St.ev, ↓Tr.get_set, ↓reduceIte, Nat.reduceEqDiff, natA, t25, t24, hd]; rfl) | exact op_ext (by simp only [St.ev, ↓Tr.get_set, ↓reduceIte, Nat.reduceEqDiff, natA, t25, t24, hd]; rfl) (by rfl) | exact op_pick (by simp only [St.ev, ↓Tr.get_set, ↓reduceIte, Nat.reduceEqDiff, natA, t25, t24, hd]; rfl) (by first | exact .inl ⟨rfl, (by simp only [St.ev, ↓Tr.get_set, ↓reduceIte, Nat.reduceEqDiff, natA, t25, t24, hd]; rfl)⟩ | exact .inr ⟨rfl, (by simp only [St.ev, ↓Tr.get_set, ↓reduceIte, Nat.reduceEqDiff, natA, t25, t24, hd]; rfl)⟩) | exact op_un (by simp only [St.ev, ↓Tr.get_set, ↓reduceIte, Nat.reduceEqDiff, natA, t25, t24, hd]; rfl) (by simp only [unA, t25, t24, hd]; rfl) | (simp only [xval, xop, AR.ofV, St.ev, Tr.get_set, get_bump, next_bump, next_set, next_add, AHeap.get_set, reduceIte, Nat.reduceEqDiff, evL, evParts, fillA, AV.cells, natA, binA, intCmpA, unA, minA, maxA, Nat.add_assoc, Nat.reduceAdd, Nat.add_left_cancel_iff, Nat.add_eq_left, Nat.left_eq_add, loadA, cellsAt, storeA, Option.bind_some, iaddrA, aaddrA, t25, t24, hd]; rfl)) | (apply WO.opn; · (simp only [xval, xop, AR.ofV, St.ev, Tr.get_set, get_bump, next_bump, next_set, next_add, AHeap.get_set, reduceIte, Nat.reduceEqDiff, evL, evParts, fillA, AV.cells, natA, binA, intCmpA, unA, minA, maxA, Nat.add_assoc, Nat.reduceAdd, Nat.add_left_cancel_iff, Nat.add_eq_left, Nat.left_eq_add, loadA, cellsAt, storeA, Option.bind_some, iaddrA, aaddrA, t25, t24, hd]; rfl)) | (apply WO.gop'; (· (simp only [St.ev, ↓Tr.get_set, ↓reduceIte, Nat.reduceEqDiff, natA, t25, t24, hd]; rfl)); (· rfl); (· first | exact op_mv (by simp only [St.ev, ↓Tr.get_set, ↓reduceIte, Nat.reduceEqDiff, natA, t25, t24, hd]; rfl) | exact op_bin (by simp only [St.ev, ↓Tr.get_set, ↓reduceIte, Nat.reduceEqDiff, natA, t25, t24, hd]; rfl) (by simp only [St.ev, ↓Tr.get_set, ↓reduceIte, Nat.reduceEqDiff, natA, t25, t24, hd]; rfl) (by simp only [binA, intCmpA, strA, natA, t25, t24, hd]; rfl) | exact op_slen (by simp only [St.ev, ↓Tr.get_set, ↓reduceIte, Nat.reduceEqDiff, natA, t25, t24, hd]; rfl) | exact op_faddr (by simp only [St.ev, ↓Tr.get_set, ↓reduceIte, Nat.reduceEqDiff, natA, t25, t24, hd]; rfl) | exact op_nilc (by simp only [St.ev, ↓Tr.get_set, ↓reduceIte, Nat.reduceEqDiff, natA, t25, t24, hd]; rfl) | exact op_ext (by simp only [St.ev, ↓Tr.get_set, ↓reduceIte, Nat.reduceEqDiff, natA, t25, t24, hd]; rfl) (by rfl) | exact op_pick (by simp only [St.ev, ↓Tr.get_set, ↓reduceIte, Nat.reduceEqDiff, natA, t25, t24, hd]; rfl) (by first | exact .inl ⟨rfl, (by simp only [St.ev, ↓Tr.get_set, ↓reduceIte, Nat.reduceEqDiff, natA, t25, t24, hd]; rfl)⟩ | exact .inr ⟨rfl, (by simp only [St.ev, ↓Tr.get_set, ↓reduceIte, Nat.reduceEqDiff, natA, t25, t24, hd]; rfl)⟩) | exact op_un (by simp only [St.ev, ↓Tr.get_set, ↓reduceIte, Nat.reduceEqDiff, natA, t25, t24, hd]; rfl) (by simp only [unA, t25, t24, hd]; rfl) | (simp only [xval, xop, AR.ofV, St.ev, Tr.get_set, get_bump, next_bump, next_set, next_add, AHeap.get_set, reduceIte, Nat.reduceEqDiff, evL, evParts, fillA, AV.cells, natA, binA, intCmpA, unA, minA, maxA, Nat.add_assoc, Nat.reduceAdd, Nat.add_left_cancel_iff, Nat.add_eq_left, Nat.left_eq_add, loadA, cellsAt, storeA, Option.bind_some, iaddrA, aaddrA, t25, t24, hd]; rfl))) | (apply WO.gno'; (· (simp only [St.ev, ↓Tr.get_set, ↓reduceIte, Nat.reduceEqDiff, natA, t25, t24, hd]; rfl)); (· rfl)) | refine pN ?_ | refine pR ?_ | refine pX ?_ | refine bN ?_ | refine bR ?_ | refine bX ?_ | refine bO (by decide) ?_ | (apply W.condT'; (· (simp only [St.ev, ↓Tr.get_set, ↓reduceIte, Nat.reduceEqDiff, natA, t25, t24, hd]; rfl)); (· rfl)) | (apply W.condF'; (· (simp only [St.ev, ↓Tr.get_set, ↓reduceIte, Nat.reduceEqDiff, natA, t25, t24, hd]; rfl)); (· rfl)))
    refine ⟨rfl, ⟨Nat.le_refl _, ?_, ?_, ?_, ?_, ?_, by rw [← hil]; exact box, ⟨hR.1, by simp only [next_bump]; omega⟩, by simp only [next_bump]; omega, fr⟩⟩
    all_goals first | (simp only [Tr.get_set, get_bump, next_bump, next_set, next_add, AHeap.get_set, reduceIte, Nat.reduceEqDiff] <;> assumption; done) | (simp only [Tr.get_set, get_bump, next_bump, next_set, next_add, AHeap.get_set, reduceIte, Nat.reduceEqDiff, ← hil] <;> assumption)
end Go.Proofs.Ytpbighinamljbaa.PA
