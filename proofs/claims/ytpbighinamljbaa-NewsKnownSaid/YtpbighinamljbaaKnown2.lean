/- news.KnownLaw, over the abstract machine: one call more. No condition. -/
import Derived.Test.YtpbighinamljbaaKnown1
set_option linter.unusedSimpArgs false
set_option linter.unusedVariables false
namespace Go.Eng
theorem Clean.of {H H1 : AHeap} (h : Clean H) (hg : ∀ j, H1.get j = H.get j) (hn : H.next ≤ H1.next) : Clean H1 := fun j hj => by rw [hg]; exact h j (by omega)
theorem Clean.upd {H H1 : AHeap} {n : Nat} (h : Clean H) (ho : ∀ j, j ≠ n → H1.get j = H.get j) (hn : H1.next = H.next) (hl : n < H.next) : Clean H1 := fun j hj => by rw [ho j (by omega)]; exact h j (by omega)
/-- More elements, or none, behind a row. -/
theorem RowE.app0 {z bytes : Nat} {H : AHeap} {v y : AV} {l n : Nat} {cs new : List AV} (h : RowE z H v l cs) (hz : 0 < z) (hl : l + n ≤ 2 ^ 30) (hb : bytes ≤ 2 ^ 16) (hy : lenA y = some n) (hs : srcA H z n y = some new) (hnl : new.length = n * z) (ho : new.all AV.oneCell = true) :
    ∃ v' H', appA H z bytes v y = .eff v' H' ∧ RowE z H' v' (l + n) (cs ++ new) ∧ H.next ≤ H'.next ∧ (∀ j, j < H.next → v.own ≠ some j → H'.get j = H.get j) ∧ (∀ i, v'.own = some i → v.own = some i ∨ H.next ≤ i) := by
  rcases Nat.eq_zero_or_pos n with hn | hn
  · subst hn
    have hnew : new = [] := List.eq_nil_of_length_eq_zero (by omega)
    subst hnew
    refine ⟨v, H, ?_, by simpa using h, Nat.le_refl _, fun _ _ _ => rfl, fun i hi => .inl hi⟩
    unfold appA
    rw [hy]
    simp only [hs]
    rcases h with ⟨_, ⟨rfl, rfl⟩ | ⟨i, full, rfl, h1, _⟩⟩ | ⟨rfl, rfl, i, rfl, h1, h2⟩
    · simp only [List.all_nil, Bool.not_true, Bool.false_eq_true, false_or]
      rw [if_neg (by omega), if_pos trivial]
    · simp only [List.all_nil, Bool.not_true, Bool.false_eq_true, false_or, h1]
      rw [if_neg (by omega), if_neg (by omega), if_pos trivial]
    · simp only [List.all_nil, Bool.not_true, Bool.false_eq_true, false_or, h2]
      rw [if_neg (by omega), if_neg (by omega), if_pos trivial]
  · obtain ⟨v', H', h1, h2, h3, h4, h5⟩ := h.app hz hl hn hb hy hs hnl ho
    exact ⟨v', H', h1, .inl h2, h3, h4, h5⟩
theorem less_get {H : AHeap} {base R : Nat} : ∀ (l : List Nat) (H : AHeap), (∀ i ∈ l, R ≠ base + i) → (H.less base l).get R = H.get R
  | [], H, _ => rfl
  | i :: l, H, h => by
    unfold AHeap.less
    rw [less_get (H := H) l _ (fun j hj => h j (List.mem_cons_of_mem _ hj)), AHeap.get_set, if_neg (h i List.mem_cons_self)]
theorem loose_load {ops : List XOper} {tr : List St} {base i : Nat} {nn l2 l3 : List Nat} {d m : Option Nat} {x : XO} {s : St} {v : AV} (ho : ops[i]? = some ⟨d, .load m x, none⟩) (hs : tr[i]? = some s) (hv : xop (St.ev s.tm) s.H 0 (.load m x) = .v v)
    (hall : ∀ j ∈ i :: (l2 ++ l2.map (· + 1)), ∃ si, tr[j]? = some si ∧ xop (St.ev s.tm) ((si.H.less base l3).less base (nn.filter fun k => Nat.ble j k)) 0 (.load m x) = .v v) : looseOk ops tr base nn (i, l2, l3) = true := by
  unfold looseOk
  rw [ho, hs]
  simp only [wantedA]
  rw [hv]
  simp only
  rw [List.all_eq_true]
  intro j hj
  obtain ⟨si, h1, h2⟩ := hall j hj
  rw [h1]
  simp only
  rw [h2]
  exact AV.beq_refl v
theorem fresh_of {ops : List XOper} {tr : List St} {base : Nat} {nn : List Nat} (h : ∀ k ∈ nn, ∃ o sk, ops[k]? = some o ∧ tr[k]? = some sk ∧ o.guard = none ∧ ∀ i, i ≤ k → ∃ si, tr[i]? = some si ∧ si.H.get (base + k) = none) : freshOk ops tr base nn = true := by
  unfold freshOk
  rw [List.all_eq_true]
  intro k hk
  obtain ⟨o, sk, h1, h2, h3, h4⟩ := h k hk
  rw [h1, h2]
  simp only
  rw [List.all_eq_true]
  intro i _
  rw [Bool.or_eq_true]
  by_cases hi : k < i
  · left
    have hw : wantedA sk.tm o = some true := by unfold wantedA; rw [h3]
    rw [hw]
    simpa using hi
  · right
    obtain ⟨si, q1, q2⟩ := h4 i (by omega)
    rw [q1]
    simp only
    rw [q2]
    rfl
theorem W.namedT {cf : CF} {fuel : Nat} {c : XCode} {tm : Tr AV} {H : AHeap} {Q : XE → St → Prop} (h : ∀ tX, tX = tm → W cf fuel c ⟨tX, H⟩ Q) : W cf fuel c ⟨tm, H⟩ Q := h tm rfl
end Go.Eng
namespace Go.Proofs.Ytpbighinamljbaa.PA
open Go Go.Eng Go.Proofs

theorem prsC_one (l : Prs) : (prsC l).all AV.oneCell = true := by
  induction l with
  | nil => rfl
  | cons p l ih => simp only [prsC_cons, List.all_cons, ih, Bool.and_true]; rfl

def reg12 : XCode := match L12.code with
  | .seq _ (.seq _ (.seq _ (.seq _ (.seq _ (.seq c _))))) => c
  | _ => .skip

set_option maxHeartbeats 4000000 in
theorem reg12_ok {k fuel p a b R : Nat} {tm : Tr AV} {H : AHeap} {u v1 : AV} {l : Prs} {Q : XE → St → Prop} (hcl : Go.Eng.Clean H) (h1 : 1 ≤ p) (hp : p ≤ 6) (hl : l.length ≤ 59) (hv : Vld p (l ++ [(a, b)]))
    (g7 : tm.get 7 = some (natA p)) (g8 : tm.get 8 = some u) (g10 : tm.get 10 = some (.ptr R 0)) (g11 : tm.get 11 = some v1) (g12 : tm.get 12 = some (natA 0))
    (hu : RowE 2 H u l.length (prsC l)) (hR : R < H.next) (hRg : H.get R = some (.cells [natA a, natA b] none))
    (kk : ∀ tm' H' v2, Kn H' p (runM (begM p) (l ++ [(a, b)])) v2 → H.next ≤ H'.next → (∀ j, j < H.next → H'.get j = H.get j) → tm'.get 7 = some (natA p) → tm'.get 10 = some (.ptr R 0) → tm'.get 11 = some v1 → tm'.get 12 = some (natA 0) → tm'.get 13 = some v2 → tm'.get 14 = some (natA 0) → Q .normal ⟨tm', H'⟩) :
    W (cfL (k + 1)) fuel reg12 ⟨tm, H⟩ Q := by
  unfold reg12 L12
  dsimp only
  refine W.regd 13 rfl ?_
  obtain ⟨H1, hH1⟩ : ∃ H1, (H.bump 13).set (H.next + 1) (some (.cells [] none)) = H1 := ⟨_, rfl⟩
  have hn1 : H1.next = H.next + 13 := by rw [← hH1]; rfl
  have hg1 : ∀ j, j ≠ H.next + 1 → H1.get j = H.get j := fun j hj => by rw [← hH1, AHeap.get_set, if_neg hj, get_bump]
  have hN1 : H1.get (H.next + 1) = some (.cells [] none) := by rw [← hH1, AHeap.get_set, if_pos rfl]
  have ul : ∀ j, u.own = some j → j < H.next := fun j q => hu.own_lt q
  have hu1 : RowE 2 H1 u l.length (prsC l) := hu.frame (by omega) (fun j q => hg1 j (by have := ul j q; omega))
  have hrow : RowE 2 H1 (.sl (H.next + 1) 0 0 0) 0 [] := .inr ⟨rfl, rfl, H.next + 1, rfl, by omega, hN1⟩
  obtain ⟨v3, H3, e3, R3, hn3, hg3, ho3⟩ := hrow.app0 (bytes := 16) (n := l.length) (y := u) (new := prsC l) (by omega) (by omega) (by omega) hu1.len hu1.src (prsC_len l) (prsC_one l)
  rw [Nat.zero_add, List.nil_append] at R3
  have hR3 : H3.get R = some (.cells [natA a, natA b] none) := by rw [hg3 R (by omega) (fun q => by cases q; omega), hg1 R (by omega)]; exact hRg
  have hld : ∀ H' : AHeap, H'.get R = some (.cells [natA a, natA b] none) → loadA H' (some 2) (.ptr R 0) = some (.agg [natA a, natA b]) := fun H' q => by simp only [loadA, cellsAt, q]; rfl
  obtain ⟨H5, hH5⟩ : ∃ H5, H3.set (H.next + 5) (some (.cells [natA a, natA b] none)) = H5 := ⟨_, rfl⟩
  have hn5 : H5.next = H3.next := by rw [← hH5]; rfl
  have hg5 : ∀ j, j ≠ H.next + 5 → H5.get j = H3.get j := fun j hj => by rw [← hH5, AHeap.get_set, if_neg hj]
  have hN5 : H5.get (H.next + 5) = some (.cells [natA a, natA b] none) := by rw [← hH5, AHeap.get_set, if_pos rfl]
  have o3 : ∀ j, v3.own = some j → j = H.next + 1 ∨ H1.next ≤ j := fun j q => by
    rcases ho3 j q with q | q
    · cases q; exact .inl rfl
    · exact .inr q
  have R5 : RowE 2 H5 v3 l.length (prsC l) := R3.frame (by omega) (fun j q => hg5 j (by rcases o3 j q with q | q <;> omega))
  obtain ⟨v6, H6, e6, R6, hn6, hg6, ho6⟩ := R5.app (bytes := 16) (n := 1) (y := .sl (H.next + 5) 0 1 1) (new := [natA a, natA b]) (by omega) (by omega) (by omega) (by omega) rfl (by simp only [srcA, hN5]; rfl) rfl rfl
  have hR6 : RowE 2 H6 v6 (l ++ [(a, b)]).length (prsC (l ++ [(a, b)])) := by
    rw [List.length_append, prsC_app]
    exact .inl R6
  obtain ⟨H7, v7, c7, K7, hn7, hg7⟩ := cf_38 (k := k) (by omega) hp (by rw [List.length_append]; simp only [List.length_singleton]; omega) hv hR6
  refine WT.op (op_mv (v := natA p) (by simp only [St.ev, Tr.get_set, get_bump, next_bump, next_set, next_add, AHeap.get_set, reduceIte, Nat.reduceEqDiff] <;> assumption)) ?_
  refine WT.op (v := .sl (H.next + 1) 0 0 0) (H1 := H1) (by rw [← hH1]; simp only [xval, xop, AR.ofV, St.ev, Tr.get_set, get_bump, next_bump, next_set, next_add, AHeap.get_set, reduceIte, Nat.reduceEqDiff, evL, evParts, fillA, AV.cells, natA, binA, intCmpA, unA, minA, maxA] <;> rfl) ?_
  refine WT.op (op_mv (v := u) (by simp only [St.ev, Tr.get_set, get_bump, next_bump, next_set, next_add, AHeap.get_set, reduceIte, Nat.reduceEqDiff] <;> assumption)) ?_
  refine WT.op (v := v3) (H1 := H3) (by simp only [xval, xop, AR.ofV, St.ev, Tr.get_set, get_bump, next_bump, next_set, next_add, AHeap.get_set, reduceIte, Nat.reduceEqDiff, evL, evParts, fillA, AV.cells, natA, binA, intCmpA, unA, minA, maxA, e3] <;> rfl) ?_
  refine WT.op (v := .agg [natA a, natA b]) (op_load (a := .ptr R 0) (by simp only [St.ev, Tr.get_set, get_bump, next_bump, next_set, next_add, AHeap.get_set, reduceIte, Nat.reduceEqDiff] <;> assumption) (hld H3 hR3)) ?_
  refine WT.op (v := .sl (H.next + 5) 0 1 1) (H1 := H5) (by rw [← hH5]; simp only [xval, xop, AR.ofV, St.ev, Tr.get_set, get_bump, next_bump, next_set, next_add, AHeap.get_set, reduceIte, Nat.reduceEqDiff, evL, evParts, fillA, AV.cells, natA, binA, intCmpA, unA, minA, maxA] <;> rfl) ?_
  refine WT.op (v := v6) (H1 := H6) (by simp only [xval, xop, AR.ofV, St.ev, Tr.get_set, get_bump, next_bump, next_set, next_add, AHeap.get_set, reduceIte, Nat.reduceEqDiff, evL, evParts, fillA, AV.cells, natA, binA, intCmpA, unA, minA, maxA, e6] <;> rfl) ?_
  refine WT.op (v := .tup [v7, natA 0]) (H1 := H7) (op_call (g := 38) (cs := []) (l := [natA p, v6]) rfl (by simp only [evL, St.ev, Tr.get_set, get_bump, next_bump, next_set, next_add, AHeap.get_set, reduceIte, Nat.reduceEqDiff, bind, Option.bind_some, natA]) c7) ?_
  refine WT.op (op_mv (v := .tup [v7, natA 0]) (by simp only [St.ev, Tr.get_set, get_bump, next_bump, next_set, next_add, AHeap.get_set, reduceIte, Nat.reduceEqDiff])) ?_
  refine WT.op (v := v7) (op_ext (l := [v7, natA 0]) (by simp only [St.ev, Tr.get_set, get_bump, next_bump, next_set, next_add, AHeap.get_set, reduceIte, Nat.reduceEqDiff]) rfl) ?_
  refine WT.op (v := natA 0) (op_ext (l := [v7, natA 0]) (by simp only [St.ev, Tr.get_set, get_bump, next_bump, next_set, next_add, AHeap.get_set, reduceIte, Nat.reduceEqDiff]) rfl) ?_
  refine WT.op (op_mv (v := v7) (by simp only [St.ev, Tr.get_set, get_bump, next_bump, next_set, next_add, AHeap.get_set, reduceIte, Nat.reduceEqDiff])) ?_
  refine WT.op (op_mv (v := natA 0) (by simp only [St.ev, Tr.get_set, get_bump, next_bump, next_set, next_add, AHeap.get_set, reduceIte, Nat.reduceEqDiff])) ?_
  refine WT.nil ⟨?_, ?_, _, rfl, kk _ H7 v7 K7 (by omega) (fun j hj => ?_) ?_ ?_ ?_ ?_ ?_ ?_⟩
  · rw [List.all_cons, List.all_nil, Bool.and_true]
    have hx : ∀ H' : AHeap, H'.get R = some (.cells [natA a, natA b] none) → xop (St.ev ((((tm.set 47 (some (natA p))).set 48 (some (AV.sl (H.next + 1) 0 0 0))).set 49 (some u)).set 50 (some v3))) H' 0 (.load (some 2) (.t 10)) = .v (.agg [natA a, natA b]) := fun H' q => by
      simp only [xop, St.ev, Tr.get_set, get_bump, next_bump, next_set, next_add, AHeap.get_set, reduceIte, Nat.reduceEqDiff, g10, Option.bind_some, hld H' q] <;> rfl
    refine loose_load rfl rfl (hx H3 hR3) (fun j hj => ?_)
    have hj' : j = 4 ∨ j = 3 := by
      simp at hj
      omega
    have hless : ∀ (Hq : AHeap) (l : List Nat), Hq.get R = some (.cells [natA a, natA b] none) → ((Hq.less (H.next) [1, 5]).less H.next l).get R = some (.cells [natA a, natA b] none) := fun Hq l q => by
      rw [less_get (H := H) l _ (fun i _ => by omega), less_get (H := H) [1, 5] _ (fun i _ => by omega), q]
    rcases hj' with rfl | rfl
    · exact ⟨_, rfl, hx _ (hless H3 _ hR3)⟩
    · exact ⟨_, rfl, hx _ (hless H1 _ (by rw [hg1 R (by omega)]; exact hRg))⟩
  · refine fresh_of (fun k hk => ?_)
    have c0 : ∀ k, 0 < k → (H.bump 13).get (H.next + k) = none := fun k hk => by rw [get_bump]; exact hcl _ (by omega)
    have c1 : H1.get (H.next + 5) = none := by rw [hg1 _ (by omega)]; exact hcl _ (by omega)
    have c3 : H3.get (H.next + 5) = none := by rw [hg3 _ (by omega) (fun q => by simp only [AV.own, Option.some.injEq] at q; omega)]; exact c1
    have hk' : k = 1 ∨ k = 5 := by simpa using hk
    rcases hk' with rfl | rfl
    · refine ⟨_, _, rfl, rfl, rfl, fun i hi => ?_⟩
      match i, hi with
      | 0, _ => exact ⟨_, rfl, c0 1 (by omega)⟩
      | 1, _ => exact ⟨_, rfl, c0 1 (by omega)⟩
    · refine ⟨_, _, rfl, rfl, rfl, fun i hi => ?_⟩
      match i, hi with
      | 0, _ => exact ⟨_, rfl, c0 5 (by omega)⟩
      | 1, _ => exact ⟨_, rfl, c0 5 (by omega)⟩
      | 2, _ => exact ⟨_, rfl, c1⟩
      | 3, _ => exact ⟨_, rfl, c1⟩
      | 4, _ => exact ⟨_, rfl, c3⟩
      | 5, _ => exact ⟨_, rfl, c3⟩
  · rw [hg7 j (by omega), hg6 j (by omega) (fun q => by rcases o3 j q with q | q <;> omega), hg5 j (by omega), hg3 j (by omega) (fun q => by cases q; omega), hg1 j (by omega)]
  all_goals (simp only [Tr.get_set, get_bump, next_bump, next_set, next_add, AHeap.get_set, reduceIte, Nat.reduceEqDiff] <;> assumption)
end Go.Proofs.Ytpbighinamljbaa.PA
