/- The abstract machine is sound, 15: a region that draws its order: every order. No condition. -/
import Derived.Test.YtfcgofffalmdfaaGreatDoorJB
import Derived.LoopN
import Derived.Maps.RangeRun
set_option linter.unusedSectionVars false
set_option linter.unusedVariables false
set_option linter.unusedSimpArgs false
section
namespace Go.Eng
variable {P : Program}
section
variable {cf : CF} {ops : Array Oper} {xs : List XOper} {A : List (List Nat)} {base : Nat} {S : Nat → St}
def Loose (xs : List XOper) (A : List (List Nat)) (base : Nat) (S : Nat → St) : Prop :=
  ∀ (j : Nat) (x : XOper), xs[j]? = some x → x.op.cls = .r → wantedA (S j).tm x = some true → ∃ (v : AV) (es : List Nat), (∀ i, isC xs .e i = true → i ∉ A.getD j [] → j ∉ A.getD i [] → i ∈ es) ∧
    ∀ i, (i = j ∨ i ∈ es ∨ ∃ e ∈ es, i = e + 1) → ∃ Hs : AHeap, Hs.Le (S i).H ∧ (∀ k, isC xs .n k = true → (k ∉ A.getD j [] ∨ i ≤ k) → Hs.get (base + k) = none) ∧ xop (St.ev (S j).tm) Hs 0 x.op = .v v
theorem HEq'.le {H H' : AHeap} (h : HEq' H H') : H.Le H' := fun i o hi => by rw [← h.1 i]; exact hi
theorem AHeap.Le.trans {H1 H2 H3 : AHeap} (a : H1.Le H2) (b : H2.Le H3) : H1.Le H3 := fun i o h => b i o (a i o h)
theorem valid_down {L : Nat → Bool} : ∀ g, Valid xs L g → ∃ g', Valid xs L g' ∧ (g' = 0 ∨ ∃ p, g' = p + 1 ∧ isC xs .e p = true)
  | 0, h => ⟨0, h, .inl rfl⟩
  | g + 1, h => by
    by_cases hc : isC xs .e g = true
    · exact ⟨g + 1, h, .inr ⟨g, rfl, hc⟩⟩
    · refine valid_down g ⟨by have := h.1; omega, fun i hi he => ?_⟩
      rw [h.2 i hi he]
      have : i ≠ g := fun e => hc (e ▸ he)
      omega
theorem valid_up {L : Nat → Bool} : ∀ d g, g + d = xs.length → Valid xs L g → ∃ g', Valid xs L g' ∧ (g' = xs.length ∨ (g' < xs.length ∧ isC xs .e g' = true))
  | 0, g, hd, h => ⟨g, h, .inl (by omega)⟩
  | d + 1, g, hd, h => by
    by_cases hc : isC xs .e g = true
    · exact ⟨g, h, .inr ⟨by omega, hc⟩⟩
    · refine valid_up d (g + 1) (by omega) ⟨by omega, fun i hi he => ?_⟩
      rw [h.2 i hi he]
      have : i ≠ g := fun e => hc (e ▸ he)
      omega
theorem below_closed (R : Reg P cf ops xs A base S) (j : Nat) : Closed ops.toList (fun i => decide (i < j)) := by
  intro i o hi ho p hp
  have := R.back i o (by simpa using ho) p hp
  simp only [decide_eq_true_eq] at hi ⊢
  omega
theorem anc_lt (R : Reg P cf ops xs A base S) {i j : Nat} {o : Oper} (ho : ops[j]? = some o) (h : i ∈ A.getD j []) : i < j := by
  have := R.anc j i h o ho _ (below_closed R j) (fun p hp => by simpa using R.back j o ho p hp)
  simpa using this
theorem hK_congr {L M : Nat → Bool} {g : Nat} : ∀ k, (∀ i, i < k → isC xs .n i = true → L i = M i) → hK xs S base L g k = hK xs S base M g k
  | 0, _ => rfl
  | k + 1, h => by
    have ih := hK_congr (L := L) (M := M) (g := g) k (fun i hi => h i (by omega))
    simp only [hK, ih]
    by_cases hn : isC xs .n k = true
    · rw [h k (by omega) hn]
    · simp only [hn, Bool.false_eq_true, if_false]
theorem isC_of {c : Cls} {i : Nat} {x : XOper} (h : xs[i]? = some x) : isC xs c i = (x.op.cls == c) := by simp [isC, h]
theorem ev_congr {tm tm' : Tr AV} {x : XOper} (h : ∀ t, x.looks t = true → tm.get t = tm'.get t) : ∀ y ∈ x.op.opnds, St.ev tm y = St.ev tm' y := by
  intro y hy
  cases y with
  | t n =>
    simp only [St.ev]
    refine h n ?_
    simp only [XOper.looks, Bool.or_eq_true, List.any_eq_true]
    exact .inl ⟨_, hy, by simp⟩
  | _ => rfl
theorem wanted_congr {tm tm' : Tr AV} {x : XOper} (h : ∀ t, x.looks t = true → tm.get t = tm'.get t) : wantedA tm x = wantedA tm' x := by
  unfold wantedA
  cases hg : x.guard with
  | none => rfl
  | some p =>
    obtain ⟨d, b⟩ := p
    simp only
    rw [h d (by simp [XOper.looks, hg])]
theorem xval_of_v {ev : XO → Option AV} {H : AHeap} {n : Nat} {y : XOp} {v : AV} (hy : y.cls ≠ .e) (h : xop ev H n y = .v v) : xval cf ev H n y = some (v, H) := by
  cases y <;> first | exact absurd rfl hy | simp only [xval, h]
theorem xval_of_new {ev : XO → Option AV} {H : AHeap} {n : Nat} {y : XOp} {v : AV} {ob : AObj} (hy : y.cls ≠ .e) (h : xop ev H n y = .new v ob) : xval cf ev H n y = some (v, H.set n (some ob)) := by
  cases y <;> first | exact absurd rfl hy | simp only [xval, h]
structure Nxt (P : Program) (ops : Array Oper) (xs : List XOper) (L M : Nat → Bool) (j : Nat) (o : Oper) (x : XOper) : Prop where
  ho : ops[j]? = some o
  hx : xs[j]? = some x
  hc : compOper P ops o = some x
  closed : Closed ops.toList L
  preds : ∀ p ∈ predsOf o, L p = true
  out : L j = false
  mj : M j = true
  mo : ∀ i, i ≠ j → M i = L i
theorem Nxt.free (R : Reg P cf ops xs A base S) {L M : Nat → Bool} {j : Nat} {o : Oper} {x : XOper} (N : Nxt P ops xs L M j o x) {i : Nat} {y : XOper} (hy : xs[i]? = some y) :
    (i < j → L i = false → freePair y.op.cls x.op.cls = true ∧ apartX y x = true) ∧ (j < i → L i = true → freePair x.op.cls y.op.cls = true ∧ apartX x y = true) := by
  refine ⟨fun hij hL => ?_, fun hij hL => ?_⟩
  · rcases R.pair i j y x hij hy N.hx with q | q
    · have := R.anc j i q o N.ho L N.closed N.preds
      rw [hL] at this
      cases this
    · exact q
  · rcases R.pair j i x y hij N.hx hy with q | q
    · obtain ⟨o', ho', _⟩ := R.comp i y hy
      have := R.anc i j q o' ho' L N.closed (fun p hp => N.closed i o' hL (by simpa using ho') p hp)
      rw [N.out] at this
      cases this
    · exact q
theorem Nxt.apart (R : Reg P cf ops xs A base S) {L M : Nat → Bool} {j : Nat} {o : Oper} {x : XOper} (N : Nxt P ops xs L M j o x) {i t : Nat} (hij : i ≠ j) (hL : L i ≠ decide (i < j)) (hd : dstAt xs i = some t) :
    x.looks t = false ∧ x.dst ≠ some t := by
  unfold dstAt at hd
  cases hy : xs[i]? with
  | none => rw [hy] at hd; cases hd
  | some y =>
    rw [hy] at hd
    simp only [Option.bind_some] at hd
    obtain ⟨f1, f2⟩ := N.free R hy
    by_cases h : i < j
    · have : L i = false := by
        cases hLi : L i with
        | false => rfl
        | true => exact absurd (by rw [hLi]; simp [h]) hL
      have := (f1 h this).2
      simp only [apartX, hd, Bool.and_eq_true, Bool.not_eq_true', bne_iff_ne] at this
      exact ⟨this.1.1, this.1.2⟩
    · have : L i = true := by
        cases hLi : L i with
        | true => rfl
        | false => exact absurd (by rw [hLi]; simp [h]) hL
      have := (f2 (by omega) this).2
      simp only [apartX, hd, Bool.and_eq_true, Bool.not_eq_true'] at this
      refine ⟨this.2, fun e => ?_⟩
      have := this.1
      rw [e] at this
      simp at this
theorem Nxt.reads (R : Reg P cf ops xs A base S) {L M : Nat → Bool} {j : Nat} {o : Oper} {x : XOper} (N : Nxt P ops xs L M j o x) {t : Nat} (ht : x.looks t = true) : (tmK xs S L xs.length).get t = (S j).tm.get t := by
  have hj : j < xs.length := by
    rcases Nat.lt_or_ge j xs.length with h | h
    · exact h
    · have := N.hx
      rw [List.getElem?_eq_none h] at this
      cases this
  rw [tmK_agree (M := fun i => decide (i < j)) xs.length (fun i hi hd => ?_), tmK_canon R xs.length (Nat.le_refl _), Nat.min_eq_right (by omega)]
  by_cases hij : i = j
  · subst hij
    rw [N.out]
    simp
  · by_cases hL : L i = decide (i < j)
    · exact hL
    · have := (N.apart R hij hL hd).1
      rw [ht] at this
      cases this
theorem Nxt.tms (R : Reg P cf ops xs A base S) {L M : Nat → Bool} {j : Nat} {o : Oper} {x : XOper} (N : Nxt P ops xs L M j o x) {v : AV} (hv : (S (j + 1)).tm = putT (S j).tm x.dst v) (t : Nat) :
    (tmK xs S M xs.length).get t = (putT (tmK xs S L xs.length) x.dst v).get t := by
  have hj : j < xs.length := by
    rcases Nat.lt_or_ge j xs.length with h | h
    · exact h
    · have := N.hx
      rw [List.getElem?_eq_none h] at this
      cases this
  have hdj : dstAt xs j = x.dst := by simp [dstAt, N.hx]
  rw [putT_get]
  by_cases hd : x.dst = some t
  · rw [if_pos hd, tmK_last N.mj (hdj.trans hd) xs.length hj (fun i h1 h2 h3 => ?_), hv, putT_get, if_pos hd]
    rw [N.mo i (by omega)]
    cases hLi : L i with
    | false => rfl
    | true => exact absurd hd (N.apart R (i := i) (by omega) (by rw [hLi]; simp; omega) h3).2
  · rw [if_neg hd]
    refine (tmK_agree xs.length (fun i hi h => ?_)).symm
    refine (N.mo i (fun e => hd ?_)).symm
    subst e
    rw [← hdj]; exact h
theorem Nxt.valid_of (R : Reg P cf ops xs A base S) {L M : Nat → Bool} {j : Nat} {o : Oper} {x : XOper} (N : Nxt P ops xs L M j o x) (he : x.op.cls = .e) : Valid xs L j ∧ Valid xs M (j + 1) := by
  have hj : j < xs.length := by
    rcases Nat.lt_or_ge j xs.length with h | h
    · exact h
    · have := N.hx
      rw [List.getElem?_eq_none h] at this
      cases this
  have key : ∀ i, i < xs.length → isC xs .e i = true → i ≠ j → (L i = true ↔ i < j) := by
    intro i hi hc hij
    have hy : xs[i]? = some xs[i] := List.getElem?_eq_getElem hi
    obtain ⟨f1, f2⟩ := N.free R hy
    rw [isC_of hy, beq_iff_eq] at hc
    constructor
    · intro hL
      rcases Nat.lt_or_ge i j with h | h
      · exact h
      · have := (f2 (by omega) hL).1
        rw [hc, he] at this
        cases this
    · intro h
      cases hL : L i with
      | true => rfl
      | false =>
        have := (f1 h hL).1
        rw [hc, he] at this
        cases this
  refine ⟨⟨by omega, fun i hi hc => ?_⟩, ⟨by omega, fun i hi hc => ?_⟩⟩
  · by_cases e : i = j
    · subst e; rw [N.out]; simp
    · exact key i hi hc e
  · by_cases e : i = j
    · subst e; rw [N.mj]; simp
    · rw [N.mo i e, key i hi hc e]; omega
theorem Nxt.valid_n (R : Reg P cf ops xs A base S) {L M : Nat → Bool} {j : Nat} {o : Oper} {x : XOper} (N : Nxt P ops xs L M j o x) (hn : x.op.cls = .n) {g : Nat} (hg : Valid xs L g) : ∃ g', g' ≤ j ∧ Valid xs L g' := by
  rcases Nat.le_total g j with h | h
  · exact ⟨g, h, hg⟩
  · refine ⟨j, Nat.le_refl _, Nat.le_trans h hg.1, fun i hi hc => ?_⟩
    have hy : xs[i]? = some xs[i] := List.getElem?_eq_getElem hi
    have hij : i ≠ j := by
      intro e
      subst e
      rw [isC_of N.hx, hn] at hc
      cases hc
    rw [hg.2 i hi hc]
    constructor
    · intro hlt
      rcases Nat.lt_or_ge i j with q | q
      · exact q
      · have := ((N.free R hy).2 (by omega) ((hg.2 i hi hc).2 hlt)).1
        rw [isC_of hy, beq_iff_eq] at hc
        rw [hc, hn] at this
        cases this
    · intro q; omega
theorem Valid.next {L M : Nat → Bool} {j g : Nat} (hg : Valid xs L g) (hj : isC xs .e j = false) (mo : ∀ i, i ≠ j → M i = L i) : Valid xs M g :=
  ⟨hg.1, fun i hi hc => by
    rw [mo i (fun e => by subst e; rw [hj] at hc; cases hc)]
    exact hg.2 i hi hc⟩
end
end Go.Eng
end
section
namespace Go.Eng
variable {P : Program}
section
variable {cf : CF} {ops : Array Oper} {xs : List XOper} {A : List (List Nat)} {base : Nat} {S : Nat → St}
theorem Nxt.lt {L M : Nat → Bool} {j : Nat} {o : Oper} {x : XOper} (N : Nxt P ops xs L M j o x) : j < xs.length := by
  rcases Nat.lt_or_ge j xs.length with h | h
  · exact h
  · have := N.hx
    rw [List.getElem?_eq_none h] at this
    cases this
theorem loose_le (R : Reg P cf ops xs A base S) {L : Nat → Bool} {j : Nat} (hA : ∀ k, k ∈ A.getD j [] → L k = true) {i : Nat} (hi : i ≤ xs.length) {Hs : AHeap} (h1 : Hs.Le (S i).H) (h2 : ∀ k, isC xs .n k = true → (k ∉ A.getD j [] ∨ i ≤ k) → Hs.get (base + k) = none) :
    Hs.Le (hK xs S base L i xs.length) := by
  intro id ob hid
  by_cases hex : ∃ k, k < xs.length ∧ isC xs .n k = true ∧ id = base + k
  · obtain ⟨k, hk, hn, rfl⟩ := hex
    rw [hK_at hn _ hk]
    by_cases hm : k ∈ A.getD j []
    · rw [if_pos (hA k hm)]
      by_cases hki : k < i
      · rw [if_pos hki]; exact h1 _ _ hid
      · rw [h2 k hn (.inr (by omega))] at hid; cases hid
    · rw [h2 k hn (.inl hm)] at hid; cases hid
  · rw [hK_other _ (fun k hk hn e => hex ⟨k, hk, hn, e⟩)]
    exact h1 _ _ hid
theorem Nxt.read (R : Reg P cf ops xs A base S) (hL : Loose xs A base S) {L M : Nat → Bool} {j : Nat} {o : Oper} {x : XOper} (N : Nxt P ops xs L M j o x) (hr : x.op.cls = .r) (hw : wantedA (S j).tm x = some true)
    {g : Nat} (hg : Valid xs L g) : ∃ v, (S (j + 1)).tm = putT (S j).tm x.dst v ∧ xop (St.ev (S j).tm) (hK xs S base L g xs.length) (base + j) x.op = .v v := by
  obtain ⟨v, es, he, hi⟩ := hL j x N.hx hr hw
  have hA : ∀ k, k ∈ A.getD j [] → L k = true := fun k hk => R.anc j k hk o N.ho L N.closed N.preds
  -- the value in the text's order
  have hv : (S (j + 1)).tm = putT (S j).tm x.dst v := by
    obtain ⟨Hs, q1, q2, q3⟩ := hi j (.inl rfl)
    have hs := R.step j x N.hx
    unfold xstep at hs
    rw [hw] at hs
    simp only at hs
    split at hs
    · rename_i v' H hv'
      rcases xval_heap hv' (by rw [hr]; simp) with ⟨q, _⟩ | ⟨_, q, _⟩
      · rw [hr] at q; cases q
      · have := xop_r_mono q1 (n' := base + j) hr q3
        rw [q] at this
        cases this
        have := Option.some.inj hs
        rw [← this]
    · cases hs
  refine ⟨v, hv, ?_⟩
  -- a place where it was looked at
  have key : ∃ i, (i = j ∨ i ∈ es ∨ ∃ e ∈ es, i = e + 1) ∧ Valid xs L i := by
    have inEs : ∀ e, isC xs .e e = true → (e < j ∧ L e = false) ∨ (j < e ∧ L e = true) → e ∈ es := by
      intro e hc h
      refine he e hc (fun q => ?_) (fun q => ?_)
      · rcases h with h | h
        · rw [hA e q] at h; cases h.2
        · have := anc_lt R N.ho q; omega
      · rcases h with h | h
        · obtain ⟨y, hy⟩ : ∃ y, xs[e]? = some y := by
            cases hy : xs[e]? with
            | none => simp [isC, hy] at hc
            | some y => exact ⟨y, rfl⟩
          obtain ⟨o', ho', _⟩ := R.comp e y hy
          have := anc_lt R ho' q; omega
        · obtain ⟨y, hy⟩ : ∃ y, xs[e]? = some y := by
            cases hy : xs[e]? with
            | none => simp [isC, hy] at hc
            | some y => exact ⟨y, rfl⟩
          obtain ⟨o', ho', _⟩ := R.comp e y hy
          have := R.anc e j q o' ho' L N.closed (fun p hp => N.closed e o' h.2 (by simpa using ho') p hp)
          rw [N.out] at this; cases this
    by_cases hvj : Valid xs L j
    · exact ⟨j, .inl rfl, hvj⟩
    · have hj := N.lt
      have : ∃ e, e < xs.length ∧ isC xs .e e = true ∧ ¬ (L e = true ↔ e < j) := by
        apply Classical.byContradiction
        intro hno
        refine hvj ⟨by omega, fun i hi hc => ?_⟩
        apply Classical.byContradiction
        intro hne
        exact hno ⟨i, hi, hc, hne⟩
      obtain ⟨e, hel, hec, hne⟩ := this
      have hej : e ≠ j := by
        intro q
        subst q
        rw [isC_of N.hx, hr] at hec
        cases hec
      cases hLe : L e with
      | false =>
        have hlt : e < j := by
          rcases Nat.lt_or_ge e j with q | q
          · exact q
          · exfalso; apply hne; rw [hLe]; simp; omega
        obtain ⟨g', hg', hc⟩ := valid_up (xs.length - g) g (by have := hg.1; omega) hg
        have hge : g' ≤ e := by
          rcases Nat.lt_or_ge e g' with q | q
          · rw [(hg'.2 e hel hec).2 q] at hLe; cases hLe
          · exact q
        rcases hc with hc | ⟨hc1, hc2⟩
        · omega
        · refine ⟨g', .inr (.inl (inEs g' hc2 (.inl ⟨by omega, ?_⟩))), hg'⟩
          cases hq : L g' with
          | false => rfl
          | true => have := (hg'.2 g' hc1 hc2).1 hq; omega
      | true =>
        have hlt : j < e := by
          rcases Nat.lt_or_ge j e with q | q
          · exact q
          · exfalso; apply hne; rw [hLe]; simp; omega
        obtain ⟨g', hg', hc⟩ := valid_down g hg
        have hge : e < g' := (hg'.2 e hel hec).1 hLe
        rcases hc with hc | ⟨p, hc1, hc2⟩
        · omega
        · have hpl : p < xs.length := by have := hg'.1; omega
          have hLp : L p = true := (hg'.2 p hpl hc2).2 (by omega)
          have hpj : p ≠ j := by
            intro q
            subst q
            rw [N.out] at hLp
            cases hLp
          exact ⟨g', .inr (.inr ⟨p, inEs p hc2 (.inr ⟨by omega, hLp⟩), hc1⟩), hg'⟩
  obtain ⟨i, hin, hvi⟩ := key
  obtain ⟨Hs, q1, q2, q3⟩ := hi i hin
  exact xop_r_mono ((loose_le R hA hvi.1 q1 q2).trans (hK_any R hvi hg).le) hr q3
theorem putT_inj {tm : Tr AV} {d : Option Nat} {v y : AV} (h : putT tm d v = putT tm d y) (tm' : Tr AV) : putT tm' d v = putT tm' d y := by
  cases d with
  | none => rfl
  | some d =>
    have : (putT tm (some d) v).get d = (putT tm (some d) y).get d := by rw [h]
    rw [putT_get, putT_get, if_pos rfl, if_pos rfl] at this
    cases this
    rfl
def Went (S : Nat → St) (xs : List XOper) (base : Nat) (L M : Nat → Bool) (j : Nat) (x : XOper) (E : Env) (w : World) (g : Nat) (u : Value) (w' : World) : Prop :=
  ∃ E' g' v, Valid xs M g' ∧ RStep E (hK xs S base L g xs.length) w base E' (hK xs S base M g' xs.length) w' ∧ (∀ i l, E'.ρ i = some l → E.ρ i = some l ∨ i = base + j ∨ base + xs.length ≤ i) ∧ AVRel E' w' v u ∧
    (S (j + 1)).tm = putT (S j).tm x.dst v
theorem Nxt.sound (R : Reg P cf ops xs A base S) (hcf : CFok P cf) (hL : Loose xs A base S) {L M : Nat → Bool} {j : Nat} {o : Oper} {x : XOper} (N : Nxt P ops xs L M j o x) {E : Env} {w : World} {a : Act} {g : Nat}
    (hg : Valid xs L g) (hR : Rel E (hK xs S base L g xs.length) w) (hT : TmR E w (tmK xs S L xs.length) a.tmps) (hn : E.ρ (base + j) = none) (hnx : base + xs.length ≤ (S g).H.next)
    {K : Act → World → Prop} {Q : Exit → Act → World → Prop} (hK' : ∀ u w', Went S xs base L M j x E w g u w' → K (a.put o.dst u) w') : wpOp P ops Q j K a w := by
  have hj := N.lt
  obtain ⟨h1, h2, _⟩ := compOper_inv N.hc
  have hcg : ∀ t, x.looks t = true → (tmK xs S L xs.length).get t = (S j).tm.get t := fun t ht => N.reads R ht
  have hev := ev_congr hcg
  have hwc := wanted_congr hcg
  have hs := R.step j x N.hx
  have hlt : base + j < (hK xs S base L g xs.length).next := by rw [hK_next]; omega
  unfold wpOp
  rw [N.ho]
  simp only
  unfold xstep at hs
  split at hs
  · rename_i hw
    rw [wanted_sound N.hc hT (hwc.trans hw)]
    simp only [if_true]
    left
    split at hs
    · rename_i v H1 hv
      have hS1 := Option.some.inj hs
      have hStm : (S (j + 1)).tm = putT (S j).tm x.dst v := by rw [← hS1]
      have hSH : (S (j + 1)).H = H1 := by rw [← hS1]
      by_cases hce : x.op.cls = .e
      · -- one that writes
        obtain ⟨v1, v2⟩ := N.valid_of R hce
        have hgj := hK_any R hg v1
        have hxv : xval cf (St.ev (tmK xs S L xs.length)) (S j).H (base + j) x.op = some (v, H1) := by
          rw [xval_congr hev]; exact hv
        have hRj : Rel E (hK xs S base L j xs.length) w := hR.sub (fun i ob hi => by rw [hgj.1 i]; exact hi) hgj.2.symm
        have hnn : ∀ k, k < xs.length → isC xs .n k = true → (L k = false → (S j).H.get (base + k) = none) ∧ (j ≤ k → (S j).H.get (base + k) = none) ∧ (j < k → (S (j + 1)).H.get (base + k) = none) := by
          intro k hk hc
          have hy : xs[k]? = some xs[k] := List.getElem?_eq_getElem hk
          have hc' := hc
          rw [isC_of hy, beq_iff_eq] at hc'
          have f := R.fresh k _ hy hc'
          refine ⟨fun hLk => ?_, fun q => f j (by omega) (.inl q), fun q => f (j + 1) (by omega) (.inl (by omega))⟩
          rcases Nat.lt_or_ge k j with q | q
          · have := ((N.free R hy).1 q hLk).1
            rw [hc', hce] at this
            cases this
          · exact f j (by omega) (.inl q)
        have hsub : ∀ i ob, (S j).H.get i = some ob → (hK xs S base L j xs.length).get i = some ob := by
          intro i ob hi
          by_cases hex : ∃ k, k < xs.length ∧ isC xs .n k = true ∧ i = base + k
          · obtain ⟨k, hk, hc, rfl⟩ := hex
            obtain ⟨n1, n2, _⟩ := hnn k hk hc
            rw [hK_at hc _ hk]
            by_cases hLk : L k = true
            · rw [if_pos hLk]
              by_cases hkj : k < j
              · rw [if_pos hkj]; exact hi
              · rw [n2 (by omega)] at hi; cases hi
            · rw [n1 (by simpa using hLk)] at hi; cases hi
          · rw [hK_other _ (fun k hk hc e => hex ⟨k, hk, hc, e⟩)]; exact hi
        have hRs : Rel E (S j).H w := hRj.sub hsub (by rw [hK_next])
        have hnj : (hK xs S base L g xs.length).next = (S j).H.next := by rw [hgj.2, hK_next]
        refine go_sound hcf h1 h2 (s := ⟨tmK xs S L xs.length, (S j).H⟩) hxv hRs hT hn (by rw [← hnj]; exact hlt) (base := base) (by omega) ?_
        rintro u w' ⟨E', y, r1, r2, r3, r4⟩
        simp only at r1 r2 r3 r4
        refine hK' u w' ⟨E', j + 1, y, v2, ?_, fun i l q => ?_, r3, ?_⟩
        · have hfr := r1.frame (HL := hK xs S base L j xs.length) (HL' := hK xs S base M (j + 1) xs.length) hRj hsub (fun i ob hi => ?_) (by rw [hK_next, hSH]) (by rw [hK_next]; exact r1.nx)
          · exact hfr.left (fun i ob hi => ⟨ob, by rw [hgj.1 i]; exact hi⟩) (by have := hfr.nx; rw [hgj.2]; exact this)
          · by_cases hex : ∃ k, k < xs.length ∧ isC xs .n k = true ∧ i = base + k
            · obtain ⟨k, hk, hc, rfl⟩ := hex
              obtain ⟨n1, n2, n3⟩ := hnn k hk hc
              have hkj : k ≠ j := by
                intro e; subst e
                rw [isC_of N.hx, hce] at hc
                cases hc
              rw [hK_at hc _ hk, N.mo k hkj] at hi
              by_cases hLk : L k = true
              · rw [if_pos hLk] at hi
                by_cases hk1 : k < j + 1
                · rw [if_pos hk1, hSH] at hi; exact .inl hi
                · rw [if_neg hk1] at hi
                  refine .inr ⟨by rw [← hSH]; exact n3 (by omega), n2 (by omega), ?_⟩
                  rw [hK_at hc _ hk, if_pos hLk, if_neg (by omega)]
                  exact hi
              · rw [if_neg hLk] at hi; cases hi
            · rw [hK_other _ (fun k hk hc e => hex ⟨k, hk, hc, e⟩), hSH] at hi
              exact .inl hi
        · rcases r2 i l q with z | z | z
          · exact .inl z
          · exact .inr (.inl z)
          · refine .inr (.inr ?_)
            rw [← hnj, hK_next] at z
            omega
        · rw [hStm, h2]
          exact putT_inj r4 _
      · have hne : isC xs .e j = false := by
          rw [isC_of N.hx]
          simpa using hce
        -- one that does not write: the memory is as it stands
        have fin : ∀ (v' : AV) (H' : AHeap) (gL gM : Nat), Valid xs L gL → Valid xs M gM → xval cf (St.ev (tmK xs S L xs.length)) (hK xs S base L gL xs.length) (base + j) x.op = some (v', H') → HEq' H' (hK xs S base M gM xs.length) → putT (S j).tm x.dst v' = (S (j + 1)).tm → o.wp P a w K Q := by
          intro v' H' gL gM w1 w2 w3 w4 w5
          have hgg := hK_any R hg w1
          have hRg : Rel E (hK xs S base L gL xs.length) w := hR.sub (fun i ob hi => by rw [hgg.1 i]; exact hi) hgg.2.symm
          refine go_sound hcf h1 h2 (s := ⟨tmK xs S L xs.length, hK xs S base L gL xs.length⟩) w3 hRg hT hn (by rw [← hgg.2]; exact hlt) (base := base) (by omega) ?_
          rintro u w' ⟨E', y, r1, r2, r3, r4⟩
          simp only at r1 r2 r3 r4
          refine hK' u w' ⟨E', gM, y, w2, ?_, fun i l q => ?_, r3, ?_⟩
          · have r1' := r1.right (H'' := hK xs S base M gM xs.length) (fun i ob hi => by rw [w4.1 i]; exact hi) w4.2.symm
            exact r1'.left (fun i ob hi => ⟨ob, by rw [hgg.1 i]; exact hi⟩) (by have := r1'.nx; rw [hgg.2]; exact this)
          · rcases r2 i l q with z | z | z
            · exact .inl z
            · exact .inr (.inl z)
            · refine .inr (.inr ?_)
              rw [← hgg.2, hK_next] at z
              omega
          · rw [← w5, h2]
            exact putT_inj r4 _
        rcases xval_heap hv hce with ⟨c1, ob, c2, c3⟩ | ⟨c1, c2, c3⟩
        · -- one that makes
          obtain ⟨g', g1, g2⟩ := N.valid_n R c1 hg
          refine fin v ((hK xs S base L g' xs.length).set (base + j) (some ob)) g' g' g2 (g2.next hne N.mo) ?_ ?_ hStm.symm
          · refine xval_of_new hce ?_
            rw [xop_congr hev, xop_n_heap (H' := (S j).H) c1]
            exact c2
          · refine ⟨fun id => ?_, by rw [hK_next]; exact hK_next _⟩
            rw [AHeap.get_set]
            have hnj : isC xs .n j = true := by rw [isC_of N.hx, c1]; rfl
            by_cases hid : id = base + j
            · subst hid
              rw [if_pos rfl, hK_at hnj _ hj, if_pos N.mj, if_neg (by omega), hSH, c3, AHeap.get_set, if_pos rfl]
            · rw [if_neg hid]
              by_cases hex : ∃ k, k < xs.length ∧ isC xs .n k = true ∧ id = base + k
              · obtain ⟨k, hk, hc, rfl⟩ := hex
                have hkj : k ≠ j := fun e => hid (by rw [e])
                rw [hK_at hc _ hk, hK_at hc _ hk, N.mo k hkj]
              · rw [hK_other _ (fun k hk hc e => hex ⟨k, hk, hc, e⟩), hK_other _ (fun k hk hc e => hex ⟨k, hk, hc, e⟩)]
        · -- one that makes nothing
          have hnn : isC xs .n j = false := by
            rw [isC_of N.hx]
            simpa using c1
          have hsame : hK xs S base L g xs.length = hK xs S base M g xs.length := hK_congr _ (fun i _ hc => (N.mo i (fun e => by subst e; rw [hnn] at hc; cases hc)).symm)
          by_cases hr : x.op.cls = .r
          · obtain ⟨v', q1, q2⟩ := N.read R hL hr hw hg
            refine fin v' _ g g hg (hg.next hne N.mo) (xval_of_v hce ?_) (hsame ▸ HEq'.refl _) q1.symm
            rw [xop_congr hev]
            exact q2
          · have hp : x.op.cls = .p := by
              cases hq : x.op.cls with
              | p => rfl
              | r => exact absurd hq hr
              | n => exact absurd hq c1
              | e => exact absurd hq hce
            refine fin v _ g g hg (hg.next hne N.mo) (xval_of_v hce ?_) (hsame ▸ HEq'.refl _) hStm.symm
            rw [xop_congr hev, xop_p_heap (H' := (S j).H) (n' := base + j) hp]
            exact c2
    · cases hs
  · -- one that is left out
    rename_i hw
    rw [wanted_sound N.hc hT (hwc.trans hw)]
    simp only [Bool.false_eq_true, if_false]
    have hS1 := Option.some.inj hs
    have hStm : (S (j + 1)).tm = putT (S j).tm x.dst undefA := by rw [← hS1]
    have hSH : (S (j + 1)).H = (S j).H := by rw [← hS1]
    have fin : ∀ gM, Valid xs M gM → HEq' (hK xs S base L g xs.length) (hK xs S base M gM xs.length) → K (a.put o.dst undef) w := by
      intro gM w1 w2
      refine hK' undef w ⟨E, gM, undefA, w1, ?_, fun i l q => .inl q, undef_rel, hStm⟩
      exact (RStep.refl hR).right (fun i ob hi => by rw [w2.1 i]; exact hi) w2.2.symm
    by_cases hce : x.op.cls = .e
    · obtain ⟨v1, v2⟩ := N.valid_of R hce
      refine fin (j + 1) v2 ((hK_any R hg v1).trans ⟨fun id => ?_, by rw [hK_next, hK_next, hSH]⟩)
      by_cases hex : ∃ k, k < xs.length ∧ isC xs .n k = true ∧ id = base + k
      · obtain ⟨k, hk, hc, rfl⟩ := hex
        have hkj : k ≠ j := by
          intro e; subst e
          rw [isC_of N.hx, hce] at hc
          cases hc
        rw [hK_at hc _ hk, hK_at hc _ hk, N.mo k hkj, hSH]
        by_cases hkl : k < j
        · rw [if_pos hkl, if_pos (show k < j + 1 by omega)]
        · rw [if_neg hkl, if_neg (show ¬ k < j + 1 by omega)]
      · rw [hK_other _ (fun k hk hc e => hex ⟨k, hk, hc, e⟩), hK_other _ (fun k hk hc e => hex ⟨k, hk, hc, e⟩), hSH]
    · have hne : isC xs .e j = false := by
        rw [isC_of N.hx]
        simpa using hce
      refine fin g (hg.next hne N.mo) ⟨fun id => ?_, by rw [hK_next, hK_next]⟩
      by_cases hex : ∃ k, k < xs.length ∧ isC xs .n k = true ∧ id = base + k
      · obtain ⟨k, hk, hc, rfl⟩ := hex
        rw [hK_at hc _ hk, hK_at hc _ hk]
        by_cases hkj : k = j
        · subst hkj
          have hcn : x.op.cls = .n := by rw [isC_of N.hx, beq_iff_eq] at hc; exact hc
          rw [N.out, N.mj]
          have f := R.fresh k x N.hx hcn
          have f1 := f g hg.1 (.inr hw)
          have f2 := f (k + 1) (by omega) (.inr hw)
          rw [f1, f2]
          simp
        · rw [N.mo k hkj]
      · rw [hK_other _ (fun k hk hc e => hex ⟨k, hk, hc, e⟩), hK_other _ (fun k hk hc e => hex ⟨k, hk, hc, e⟩)]
  · cases hs
end
end Go.Eng
end
section
namespace Go.Eng
variable {P : Program}
def left (L : Nat → Bool) : Nat → Nat
  | 0 => 0
  | k + 1 => left L k + if L k = true then 0 else 1
theorem left_congr {L M : Nat → Bool} : ∀ k, (∀ i, i < k → M i = L i) → left M k = left L k
  | 0, _ => rfl
  | k + 1, h => by
    simp only [left]
    rw [left_congr k (fun i hi => h i (by omega)), h k (by omega)]
theorem left_set {L M : Nat → Bool} {j : Nat} (h1 : L j = false) (h2 : M j = true) (h3 : ∀ i, i ≠ j → M i = L i) : ∀ k, j < k → left M k + 1 = left L k
  | 0, h => by omega
  | k + 1, h => by
    simp only [left]
    by_cases e : k = j
    · subst e
      rw [h1, h2, left_congr k (fun i hi => h3 i (by omega))]
      simp
    · have := left_set h1 h2 h3 k (by omega)
      rw [h3 k e]
      omega
theorem left_zero {L : Nat → Bool} : ∀ k, left L k = 0 → ∀ i, i < k → L i = true
  | 0, _, i, hi => by omega
  | k + 1, h, i, hi => by
    simp only [left] at h
    by_cases e : i = k
    · subst e
      cases hL : L i with
      | true => rfl
      | false => rw [hL] at h; simp at h
    · exact left_zero k (by omega) i (by omega)
theorem mem_ready {ops : Array Oper} {listed : Array Bool} (hsz : listed.size = ops.size) {j : Nat} :
    j ∈ Region.ready .any ops listed ↔ ∃ o, ops[j]? = some o ∧ listed.getD j false = false ∧ ∀ p ∈ predsOf o, listed.getD p false = true := by
  unfold Region.ready
  simp only [List.mem_filter, List.mem_range, Bool.and_eq_true, Bool.not_eq_true', predsOf, List.mem_map, Array.toList_filter, List.mem_filter]
  constructor
  · rintro ⟨h1, h2, h3⟩
    have ho : ops[j]? = some ops[j] := Array.getElem?_eq_getElem h1
    rw [ho] at h3
    simp only [Option.map_some, Option.getD_some, Array.all_eq_true_iff_forall_mem, Bool.or_eq_true, Bool.not_eq_true'] at h3
    refine ⟨_, ho, ?_, ?_⟩
    · have h4 : j < listed.size := by omega
      simp only [Array.getD, dif_pos h4] at h2 ⊢
      exact h2
    · rintro p ⟨e, ⟨he1, he2⟩, rfl⟩
      rcases h3 e (by simpa using he1) with q | q
      · rw [q] at he2; cases he2
      · exact q
  · rintro ⟨o, ho, h2, h3⟩
    have h1 : j < ops.size := by
      rcases Nat.lt_or_ge j ops.size with q | q
      · exact q
      · rw [Array.getElem?_eq_none q] at ho; cases ho
    refine ⟨h1, ?_, ?_⟩
    · have h4 : j < listed.size := by omega
      simp only [Array.getD, dif_pos h4] at h2 ⊢
      exact h2
    · rw [ho]
      simp only [Option.map_some, Option.getD_some, Array.all_eq_true_iff_forall_mem, Bool.or_eq_true, Bool.not_eq_true']
      intro e he
      cases hb : Region.binds .any e with
      | false => exact .inl rfl
      | true => exact .inr (h3 _ ⟨e, ⟨by simpa using he, hb⟩, rfl⟩)
section
variable {cf : CF} {ops : Array Oper} {xs : List XOper} {A : List (List Nat)} {base : Nat} {S : Nat → St}
theorem all_listed (R : Reg P cf ops xs A base S) {L : Nat → Bool} (hall : ∀ i, i < xs.length → L i = true) {g : Nat} (hg : Valid xs L g) :
    HEq' (hK xs S base L g xs.length) (S xs.length).H ∧ ∀ t, (tmK xs S L xs.length).get t = (S xs.length).tm.get t := by
  refine ⟨(hK_any R hg ⟨Nat.le_refl _, fun i hi _ => ⟨fun _ => hi, fun _ => hall i hi⟩⟩).trans ⟨fun id => ?_, by rw [hK_next]⟩, fun t => ?_⟩
  · by_cases hex : ∃ k, k < xs.length ∧ isC xs .n k = true ∧ id = base + k
    · obtain ⟨k, hk, hc, rfl⟩ := hex
      rw [hK_at hc _ hk, if_pos (hall k hk), if_pos hk]
    · rw [hK_other _ (fun k hk hc e => hex ⟨k, hk, hc, e⟩)]
  · rw [tmK_agree (M := fun i => decide (i < xs.length)) xs.length (fun i hi _ => by rw [hall i hi]; simp [hi]), tmK_canon R xs.length (Nat.le_refl _), Nat.min_self]
theorem any_sound (R : Reg P cf ops xs A base S) (hcf : CFok P cf) (hL : Loose xs A base S) {Q : Exit → Act → World → Prop} {E0 : Env} {w0 : World} {a0 : Act} (hd : ∀ x ∈ xs, dstOk a0.tmps.size x = true) (hnx : base + xs.length ≤ (S 0).H.next)
    (hQ : ∀ E' a' w', RStep E0 (S 0).H w0 base E' (S xs.length).H w' → TmR E' w' (S xs.length).tm a'.tmps → a'.defers = a0.defers → a'.tmps.size = a0.tmps.size → Q .normal a' w') :
    ∀ (fuel : Nat) (listed : Array Bool) (E : Env) (w : World) (a : Act) (g : Nat), listed.size = ops.size → Closed ops.toList (fun i => listed.getD i false) → Valid xs (fun i => listed.getD i false) g →
      RStep E0 (S 0).H w0 base E (hK xs S base (fun i => listed.getD i false) g xs.length) w → TmR E w (tmK xs S (fun i => listed.getD i false) xs.length) a.tmps →
      (∀ k, k < xs.length → listed.getD k false = false → E.ρ (base + k) = none) → a.defers = a0.defers → a.tmps.size = a0.tmps.size → left (fun i => listed.getD i false) xs.length ≤ fuel →
      wpAny P .any ops Q fuel listed a w := by
  -- none may come next: all have been
  have done : ∀ (listed : Array Bool) (E : Env) (w : World) (a : Act) (g : Nat), listed.size = ops.size → Valid xs (fun i => listed.getD i false) g →
      RStep E0 (S 0).H w0 base E (hK xs S base (fun i => listed.getD i false) g xs.length) w → TmR E w (tmK xs S (fun i => listed.getD i false) xs.length) a.tmps →
      a.defers = a0.defers → a.tmps.size = a0.tmps.size → (∀ i, i < xs.length → listed.getD i false = true) → Q .normal a w := by
    intro listed E w a g hsz hg hR hT h1 h2 hall
    obtain ⟨q1, q2⟩ := all_listed R hall hg
    refine hQ E a w (hR.right (fun i o hi => by rw [q1.1 i]; exact hi) q1.2.symm) (fun t x hx => hT t x ?_) h1 h2
    rw [q2 t]
    exact hx
  have stuck : ∀ (listed : Array Bool), listed.size = ops.size → Region.ready .any ops listed = [] → ∀ i, i < xs.length → listed.getD i false = true := by
    intro listed hsz hr i
    induction i using Nat.strongRecOn with
    | ind i ih =>
      intro hi
      have hi' : i < ops.size := by rw [← R.len]; exact hi
      have ho : ops[i]? = some ops[i] := Array.getElem?_eq_getElem hi'
      cases hl : listed.getD i false with
      | true => rfl
      | false =>
        have : i ∈ Region.ready .any ops listed := (mem_ready hsz).2 ⟨_, ho, hl, fun p hp => by
          have := R.back i _ ho p hp
          exact ih p this (by omega)⟩
        rw [hr] at this
        cases this
  intro fuel
  induction fuel with
  | zero =>
    intro listed E w a g hsz hcl hg hR hT hn h1 h2 hf
    have hall := left_zero xs.length (Nat.le_zero.1 hf)
    refine ⟨?_, done listed E w a g hsz hg hR hT h1 h2 hall⟩
    cases hr : Region.ready .any ops listed with
    | nil => rfl
    | cons j r =>
      obtain ⟨o, ho, hl, _⟩ := (mem_ready hsz (j := j)).1 (by rw [hr]; simp)
      have : j < ops.size := by
        rcases Nat.lt_or_ge j ops.size with q | q
        · exact q
        · rw [Array.getElem?_eq_none q] at ho; cases ho
      have := hall j (by rw [R.len]; exact this)
      rw [hl] at this
      cases this
  | succ fuel ih =>
    intro listed E w a g hsz hcl hg hR hT hn h1 h2 hf
    refine ⟨fun hr => done listed E w a g hsz hg hR hT h1 h2 (stuck listed hsz hr), fun j hj => ?_⟩
    obtain ⟨o, ho, hl, hp⟩ := (mem_ready hsz).1 hj
    have hjl : j < xs.length := by
      rw [R.len]
      rcases Nat.lt_or_ge j ops.size with q | q
      · exact q
      · rw [Array.getElem?_eq_none q] at ho; cases ho
    have hx : xs[j]? = some xs[j] := List.getElem?_eq_getElem hjl
    obtain ⟨o', ho', hc⟩ := R.comp j _ hx
    rw [ho] at ho'
    cases ho'
    have hjs : j < listed.size := by rw [hsz, ← R.len]; exact hjl
    have hmj : (listed.setIfInBounds j true).getD j false = true := by simp [Array.getD_eq_getD_getElem?, Array.getElem?_setIfInBounds, hjs]
    have hmo : ∀ i, i ≠ j → (listed.setIfInBounds j true).getD i false = listed.getD i false := by
      intro i hi
      simp [Array.getD_eq_getD_getElem?, Array.getElem?_setIfInBounds, Ne.symm hi]
    have N : Nxt P ops xs (fun i => listed.getD i false) (fun i => (listed.setIfInBounds j true).getD i false) j o xs[j] := ⟨ho, hx, hc, hcl, hp, hl, hmj, hmo⟩
    have hnx' : base + xs.length ≤ (S g).H.next := by
      have := hR.nx
      rw [hK_next] at this
      omega
    refine N.sound R hcf hL hg hR.rel hT (hn j hjl hl) hnx' ?_
    rintro u w' ⟨E', g', v, v1, v2, v3, v4, v5⟩
    have hdst : o.dst = xs[j].dst := (compOper_inv hc).2.1.symm
    refine ih _ E' w' _ g' (by simpa using hsz) ?_ v1 (hR.trans v2) ?_ (fun k hk hlk => ?_) ((put_defers _ _ _).trans h1) ((put_size _ _ _).trans h2) ?_
    · intro i oi hi hoi p hpi
      simp only at hi ⊢
      by_cases e : p = j
      · subst e; exact hmj
      · rw [hmo p e]
        by_cases e' : i = j
        · subst e'
          have : ops[i]? = some oi := by simpa using hoi
          rw [ho] at this
          cases this
          exact hp p hpi
        · rw [hmo i e'] at hi
          exact hcl i oi hi hoi p hpi
    · have hput : TmR E' w' (putT (tmK xs S (fun i => listed.getD i false) xs.length) o.dst v) (a.put o.dst u).tmps := by
        refine TmR.put (hT.mono v2.ext) v4 (fun d hd' => ?_)
        rw [hdst] at hd'
        have := hd _ (List.getElem_mem hjl)
        simp only [dstOk, hd'] at this
        rw [h2]
        simpa using this
      intro t x hx'
      refine hput t x ?_
      rw [hdst, ← N.tms R v5 t]
      exact hx'
    · have hkj : k ≠ j := by
        intro e; subst e
        rw [hmj] at hlk; cases hlk
      rw [hmo k hkj] at hlk
      cases hq : E'.ρ (base + k) with
      | none => rfl
      | some l =>
        rcases v3 _ _ hq with z | z | z
        · rw [hn k hk hlk] at z; cases z
        · omega
        · omega
    · have := left_set (L := fun i => listed.getD i false) (M := fun i => (listed.setIfInBounds j true).getD i false) hl hmj hmo xs.length hjl
      omega
end
end Go.Eng
end
section
namespace Go.Eng
variable {P : Program}
theorem mapM_get {α β : Type} {f : α → Option β} : ∀ {l : List α} {xs : List β}, l.mapM f = some xs → xs.length = l.length ∧ ∀ (i : Nat) (x : β), xs[i]? = some x → ∃ o, l[i]? = some o ∧ f o = some x
  | [], xs, h => by
    simp only [List.mapM_nil, Option.pure_def, Option.some.injEq] at h
    subst h
    exact ⟨rfl, fun i x hx => by simp at hx⟩
  | o :: l, xs, h => by
    rw [List.mapM_cons] at h
    simp only [bind] at h
    obtain ⟨y, hy, h⟩ := bindSome h
    obtain ⟨ys, hys, h⟩ := bindSome h
    cases h
    obtain ⟨q1, q2⟩ := mapM_get hys
    refine ⟨by simp [q1], fun i x hx => ?_⟩
    cases i with
    | zero => simp at hx; subst hx; exact ⟨o, rfl, hy⟩
    | succ i => simpa using q2 i x (by simpa using hx)
theorem xtrace_spec {cf : CF} : ∀ {xs : List XOper} {n : Nat} {s : St} {tr : List St}, xtrace cf xs n s = some tr → tr.length = xs.length + 1 ∧ tr[0]? = some s ∧
    ∀ (i : Nat) (x : XOper), xs[i]? = some x → ∃ a b, tr[i]? = some a ∧ tr[i + 1]? = some b ∧ xstep cf a (n + i) x = some b
  | [], n, s, tr, h => by
    simp only [xtrace, Option.some.injEq] at h
    subst h
    exact ⟨rfl, rfl, fun i x hx => by simp at hx⟩
  | o :: r, n, s, tr, h => by
    simp only [xtrace] at h
    split at h
    · rename_i s1 hs1
      obtain ⟨tr', ht, rfl⟩ := Option.map_eq_some_iff.1 h
      obtain ⟨q1, q2, q3⟩ := xtrace_spec ht
      refine ⟨by simp [q1], rfl, fun i x hx => ?_⟩
      cases i with
      | zero =>
        simp at hx
        subst hx
        exact ⟨s, s1, rfl, by simpa using q2, hs1⟩
      | succ i =>
        obtain ⟨a, b, h1, h2, h3⟩ := q3 i x (by simpa using hx)
        exact ⟨a, b, by simpa using h1, by simpa using h2, by rw [show n + (i + 1) = n + 1 + i by omega]; exact h3⟩
    · cases h
theorem less_le {base : Nat} : ∀ (l : List Nat) (H : AHeap), (H.less base l).Le H
  | [], H => fun _ _ h => h
  | i :: r, H => fun id o h => by
    have := less_le r _ id o h
    rw [AHeap.get_set] at this
    split at this
    · cases this
    · exact this
theorem less_none {base k : Nat} : ∀ (l : List Nat) (H : AHeap), k ∈ l → (H.less base l).get (base + k) = none
  | i :: r, H, h => by
    cases hq : (H.less base (i :: r)).get (base + k) with
    | none => rfl
    | some o =>
      rcases List.mem_cons.1 h with e | e
      · have := less_le r _ _ o hq
        rw [AHeap.get_set, if_pos (by rw [e])] at this
        cases this
      · have := less_none (base := base) r (H.set (base + i) none) e
        simp only [AHeap.less] at hq
        rw [this] at hq
        cases hq
section
variable {cf : CF} {ops : Array Oper} {xs : List XOper}
theorem isC_lt {c : Cls} {i : Nat} (h : isC xs c i = true) : i < xs.length ∧ ∃ x, xs[i]? = some x ∧ x.op.cls = c := by
  unfold isC at h
  cases hx : xs[i]? with
  | none => rw [hx] at h; cases h
  | some x =>
    rw [hx] at h
    simp only [beq_iff_eq] at h
    refine ⟨?_, x, rfl, h⟩
    rcases Nat.lt_or_ge i xs.length with q | q
    · exact q
    · rw [List.getElem?_eq_none q] at hx; cases hx
theorem reg_of {A : List (List Nat)} (hA : A = ancsGo [] ops.toList) (hm : ops.toList.mapM (compOper P ops) = some xs) (ho : orderOk ops.toList xs A = true) {base : Nat} {s : St} {tr : List St} (ht : xtrace cf xs base s = some tr)
    (hf : freshOk xs tr base (makers xs) = true) : Reg P cf ops xs A base (fun i => tr.getD i s) := by
  obtain ⟨l1, l2⟩ := mapM_get hm
  obtain ⟨t1, t2, t3⟩ := xtrace_spec ht
  simp only [Array.length_toList] at l1
  have hord := ho
  unfold orderOk at hord
  rw [List.all_eq_true] at hord
  refine ⟨l1, fun i x hx => ?_, fun i x hx => ?_, fun j o hj p hp => ?_, fun i j x y hij hx hy => ?_, fun j i hi o hj L hL hp => ?_, fun k x hx hn i hi h => ?_⟩
  · obtain ⟨o, q1, q2⟩ := l2 i x hx
    exact ⟨o, by simpa using q1, q2⟩
  · obtain ⟨a, b, q1, q2, q3⟩ := t3 i x hx
    simp only [List.getD_eq_getElem?_getD, q1, q2, Option.getD_some]
    exact q3
  · have hlt : j < ops.toList.length := by
      rcases Nat.lt_or_ge j ops.size with q | q
      · simpa using q
      · rw [Array.getElem?_eq_none q] at hj; cases hj
    have := hord j (List.mem_range.2 hlt)
    rw [Bool.and_eq_true] at this
    have h1 := this.1
    rw [show ops.toList[j]? = some o by simpa using hj] at h1
    simp only [List.all_eq_true, Nat.blt_eq] at h1
    exact h1 p hp
  · have hlt : j < ops.toList.length := by
      obtain ⟨q, _⟩ := isC_lt (c := y.op.cls) (xs := xs) (i := j) (by simp [isC, hy])
      rw [Array.length_toList, ← l1]; exact q
    have := hord j (List.mem_range.2 hlt)
    rw [Bool.and_eq_true] at this
    have h1 := this.2
    rw [List.all_eq_true] at h1
    have h2 := h1 i (List.mem_range.2 hij)
    rw [hx, hy] at h2
    simp only [Bool.or_eq_true, Bool.and_eq_true, List.contains_iff_mem] at h2
    exact h2
  · rw [hA] at hi
    refine ancs_spec ops.toList ops.toList [] (fun k o' hk => by simpa using hk) (fun j i hi => ?_) j i hi o (by simpa using hj) L hL hp
    simp at hi
  · unfold freshOk at hf
    rw [List.all_eq_true] at hf
    have hk : k < xs.length := (isC_lt (c := x.op.cls) (by simp [isC, hx])).1
    have hmk : k ∈ makers xs := by
      unfold makers
      rw [List.mem_filter, List.mem_range]
      exact ⟨hk, by rw [hx]; simp [hn]⟩
    have h1 := hf k hmk
    obtain ⟨a, b, q1, q2, q3⟩ := t3 k x hx
    rw [hx, q1] at h1
    simp only [List.all_eq_true] at h1
    have h2 := h1 i (List.mem_range.2 (by omega))
    have hti : tr[i]? = some (tr.getD i s) := by
      rw [List.getD_eq_getElem?_getD, List.getElem?_eq_getElem (by omega)]
      rfl
    rw [hti] at h2
    simp only [Bool.or_eq_true, Bool.and_eq_true, Nat.blt_eq, Option.isNone_iff_eq_none] at h2
    rcases h2 with ⟨h3, h4⟩ | h2
    · rcases h with h | h
      · omega
      · simp only [List.getD_eq_getElem?_getD, q1, Option.getD_some] at h
        rw [h] at h4
        simp at h4
    · exact h2
theorem loose_of {A : List (List Nat)} {base : Nat} {s : St} {tr : List St} (ht : xtrace cf xs base s = some tr)
    (hl : ((List.range xs.length).filterMap (looseOf xs A)).all (looseOk xs tr base (makers xs)) = true) (hfr : ∀ (k : Nat) (x : XOper), xs[k]? = some x → x.op.cls = .n → ∀ i, i ≤ k → ((tr.getD i s).H).get (base + k) = none) :
    Loose xs A base (fun i => tr.getD i s) := by
  intro j x hx hr hw
  obtain ⟨t1, t2, t3⟩ := xtrace_spec ht
  obtain ⟨a, b, q1, q2, q3⟩ := t3 j x hx
  have hj : j < xs.length := (isC_lt (c := x.op.cls) (by simp [isC, hx])).1
  have hta : tr.getD j s = a := by simp [List.getD_eq_getElem?_getD, q1]
  simp only [hta] at hw ⊢
  cases hlo : looseOf xs A j with
  | none =>
    unfold looseOf at hlo
    rw [hx] at hlo
    simp only [hr, ne_eq, not_true_eq_false, if_false] at hlo
    split at hlo
    · rename_i hee
      rw [Bool.and_eq_true, List.isEmpty_iff, List.isEmpty_iff] at hee
      obtain ⟨e1, e2⟩ := hee
      unfold xstep at q3
      rw [hw] at q3
      simp only at q3
      split at q3
      · rename_i v H hv
        rcases xval_heap hv (by rw [hr]; simp) with ⟨z, _⟩ | ⟨_, z, _⟩
        · rw [hr] at z; cases z
        · refine ⟨v, [], fun i hi hA1 hA2 => ?_, fun i hi => ?_⟩
          · exfalso
            obtain ⟨hil, y, hy, hyc⟩ := isC_lt hi
            have h := List.filter_eq_nil_iff.1 e1 i (List.mem_range.2 hil)
            simp only [List.getD_eq_getElem?_getD] at hA1 hA2
            exact h (by simp [hy, hyc, hA1, hA2])
          · have hij : i = j := by
              rcases hi with q | q | ⟨e, q, _⟩
              · exact q
              · cases q
              · cases q
            subst hij
            refine ⟨a.H, by rw [hta]; exact fun _ _ h => h, fun k hk hor => ?_, xop_r_mono (fun _ _ h => h) hr z⟩
            obtain ⟨hkl, y, hy, hyc⟩ := isC_lt hk
            rcases hor with hA1 | hle
            · exfalso
              have h := List.filter_eq_nil_iff.1 e2 k (List.mem_range.2 hkl)
              simp only [List.getD_eq_getElem?_getD] at hA1
              exact h (by simp [hy, hyc, hA1])
            · have := hfr k y hy hyc i hle
              rw [hta] at this
              exact this
      · cases q3
    · cases hlo
  | some l =>
    have hlm : l ∈ (List.range xs.length).filterMap (looseOf xs A) := List.mem_filterMap.2 ⟨j, List.mem_range.2 hj, hlo⟩
    rw [List.all_eq_true] at hl
    have h1 := hl l hlm
    have hl3 : l.1 = j ∧ (∀ i, isC xs .e i = true → i ∉ A.getD j [] → j ∉ A.getD i [] → i ∈ l.2.1) ∧ (∀ k, isC xs .n k = true → k ∉ A.getD j [] → k ∈ l.2.2) := by
      unfold looseOf at hlo
      rw [hx] at hlo
      simp only [hr, ne_eq, not_true_eq_false, if_false] at hlo
      split at hlo
      · cases hlo
      · cases hlo
        refine ⟨rfl, fun i hi hA1 hA2 => ?_, fun k hk hA1 => ?_⟩
        · obtain ⟨hil, y, hy, hyc⟩ := isC_lt hi
          simp only [List.mem_filter, List.mem_range]
          exact ⟨hil, by simp only [List.getD_eq_getElem?_getD] at hA1 hA2; simp [hy, hyc, hA1, hA2]⟩
        · obtain ⟨hil, y, hy, hyc⟩ := isC_lt hk
          simp only [List.mem_filter, List.mem_range]
          exact ⟨hil, by simp only [List.getD_eq_getElem?_getD] at hA1; simp [hy, hyc, hA1]⟩
    obtain ⟨j', es, ns⟩ := l
    obtain ⟨rfl, hes, hns⟩ := hl3
    simp only at hes hns
    unfold looseOk at h1
    simp only [hx, q1, hw] at h1
    split at h1
    · rename_i v hv
      rw [List.all_eq_true] at h1
      refine ⟨v, es, hes, fun i hi => ?_⟩
      have h2 := h1 i (by
        rw [List.mem_cons, List.mem_append, List.mem_map]
        rcases hi with q | q | ⟨e, q, z⟩
        · exact .inl q
        · exact .inr (.inl q)
        · exact .inr (.inr ⟨e, q, z.symm⟩))
      split at h2
      · rename_i si hsi
        split at h2
        · rename_i y hy
          have := AV.beq_sound h2
          subst this
          refine ⟨_, ?_, fun k hk hor => ?_, hy⟩
          · have : tr.getD i s = si := by simp [List.getD_eq_getElem?_getD, hsi]
            rw [this]
            exact (less_le _ _).trans (less_le _ _)
          · obtain ⟨hkl, z, hz, hzc⟩ := isC_lt hk
            rcases hor with hA1 | hle
            · cases hq : ((si.H.less base ns).less base ((makers xs).filter fun k => Nat.ble i k)).get (base + k) with
              | none => rfl
              | some ob =>
                have h5 := less_le _ _ _ _ hq
                rw [less_none _ _ (hns k hk hA1)] at h5
                cases h5
            · refine less_none _ _ ?_
              rw [List.mem_filter]
              refine ⟨?_, by simpa using hle⟩
              unfold makers
              rw [List.mem_filter, List.mem_range]
              exact ⟨hkl, by simp [hz, hzc]⟩
        · cases h2
      · cases h2
    · cases h1
theorem regd_sound (hmix : P.follows .mixedOrders = true) (hcf : CFok P cf) (hm : ops.toList.mapM (compOper P ops) = some xs) (ho : orderOk ops.toList xs (ancsGo [] ops.toList) = true) {s s' : St}
    (hs : xregionD cf xs ((List.range xs.length).filterMap (looseOf xs (ancsGo [] ops.toList))) (makers xs) s = some s') {E : Env} {w : World} {a : Act} {id : Nat} {Q : Exit → Act → World → Prop}
    (hd : ∀ x ∈ xs, dstOk a.tmps.size x = true) (hR : Rel E s.H w) (hT : TmR E w s.tm a.tmps)
    (hQ : ∀ E' a' w', Step E s.H w E' s'.H w' → TmR E' w' s'.tm a'.tmps → a'.defers = a.defers → a'.tmps.size = a.tmps.size → Q .normal a' w') : (Code.region id ops true).wp P Q a w := by
  unfold xregionD at hs
  split at hs
  · rename_i tr htr
    split at hs
    · rename_i hok
      rw [Bool.and_eq_true] at hok
      obtain ⟨hlo, hfr⟩ := hok
      have R := reg_of (cf := cf) rfl hm ho htr hfr
      have hL := loose_of htr hlo (fun k x hx hn i hi => R.fresh k x hx hn i (by
        have := (isC_lt (c := x.op.cls) (xs := xs) (i := k) (by simp [isC, hx])).1
        omega) (.inl hi))
      obtain ⟨t1, t2, t3⟩ := xtrace_spec htr
      have h0 : tr.getD 0 (bump s xs.length) = bump s xs.length := by simp [List.getD_eq_getElem?_getD, t2]
      have hlast : tr.getD xs.length (bump s xs.length) = s' := by
        rw [List.getLast?_eq_getElem?, t1] at hs
        simp only [Nat.add_sub_cancel] at hs
        simp [List.getD_eq_getElem?_getD, hs]
      refine wp_region_any hmix ?_
      have hsz : (Array.replicate ops.size false).size = ops.size := by simp
      have hno : ∀ i, (Array.replicate ops.size false).getD i false = false := by
        intro i
        simp only [Array.getD_eq_getD_getElem?, Array.getElem?_replicate]
        split <;> rfl
      have hv : Valid xs (fun i => (Array.replicate ops.size false).getD i false) 0 := ⟨Nat.zero_le _, fun i hi _ => by simp [hno]⟩
      have hb : (bump s xs.length).H.next = s.H.next + xs.length := rfl
      have hRb : Rel E (bump s xs.length).H w := ⟨fun i L hi => by
        have := hR.dom i L hi
        rw [hb]
        exact ⟨by omega, this.2⟩, hR.imm, hR.obj, hR.inj⟩
      have hnone : ∀ k, E.ρ (s.H.next + k) = none := by
        intro k
        cases hq : E.ρ (s.H.next + k) with
        | none => rfl
        | some L => have := (hR.dom _ L hq).1; omega
      have hH0 : HEq' (hK xs (fun i => tr.getD i (bump s xs.length)) s.H.next (fun i => (Array.replicate ops.size false).getD i false) 0 xs.length) (bump s xs.length).H := by
        refine ⟨fun id => ?_, by rw [hK_next, h0]⟩
        by_cases hex : ∃ k, k < xs.length ∧ isC xs .n k = true ∧ id = s.H.next + k
        · obtain ⟨k, hk, hc, rfl⟩ := hex
          rw [hK_at hc _ hk, hno k]
          simp only [Bool.false_eq_true, if_false]
          cases hq : (bump s xs.length).H.get (s.H.next + k) with
          | none => rfl
          | some o =>
            obtain ⟨L, hL', _⟩ := hRb.obj _ o hq
            rw [hnone k] at hL'
            cases hL'
        · rw [hK_other _ (fun k hk hc e => hex ⟨k, hk, hc, e⟩), h0]
      have hmain := any_sound R hcf hL (Q := Q) (E0 := E) (w0 := { w with drawn := w.drawn + 1 }) (a0 := a) hd (by rw [h0, hb]; exact Nat.le_refl _) (fun E' a' w' r1 r2 r3 r4 => by
        rw [hlast] at r1 r2
        rw [h0] at r1
        refine hQ E' a' w' ?_ r2 r3 r4
        refine ⟨⟨r1.ext.ρ, r1.ext.I, r1.ext.same, r1.ext.lk⟩, r1.rel, ⟨r1.fr.os, r1.fr.tape, r1.fr.output, r1.fr.size, r1.fr.block⟩, r1.nb, ?_, r1.ids, r1.imm⟩
        have := r1.nx
        rw [hb] at this
        omega)
      refine hmain ops.size _ E _ a 0 hsz (fun i o hi => ?_) hv ?_ ?_ (fun k _ _ => hnone k) rfl rfl ?_
      · simp only [hno] at hi; cases hi
      · rw [h0]
        have hRd : Rel E (bump s xs.length).H { w with drawn := w.drawn + 1 } := hRb.of_heap rfl
        exact (RStep.refl hRd).right (fun i o hi => by rw [← hH0.1 i]; exact hi) hH0.2
      · intro t x hx
        have : (tmK xs (fun i => tr.getD i (bump s xs.length)) (fun i => (Array.replicate ops.size false).getD i false) xs.length).get t = s.tm.get t := by
          have e := tmK_agree (xs := xs) (S := fun i => tr.getD i (bump s xs.length)) (L := fun i => (Array.replicate ops.size false).getD i false) (M := fun i => decide (i < 0)) (t := t) xs.length (fun i _ _ => by rw [hno i]; simp)
          rw [e, tmK_canon R xs.length (Nat.le_refl _)]
          simp only [Nat.min_zero, h0]
          rfl
        rw [this] at hx
        obtain ⟨u, hu1, hu2⟩ := hT t x hx
        exact ⟨u, hu1, AVRel.mono (w := w) (E := E) (w' := { w with drawn := w.drawn + 1 }) (E' := E) ⟨fun _ _ q => q, fun _ q => q, fun b _ => rfl, fun _ _ _ q => q⟩ _ _ hu2⟩
      · have : ∀ k, left (fun i => (Array.replicate ops.size false).getD i false) k ≤ k := by
          intro k
          induction k with
          | zero => exact Nat.le_refl _
          | succ k ih =>
            simp only [left]
            split <;> omega
        exact Nat.le_trans (this _) (by rw [R.len]; exact Nat.le_refl _)
    · cases hs
  · cases hs
end
end Go.Eng
end
section
namespace Go.Eng
variable {P : Program}
theorem insAll_perm {α : Type} {x : α} : ∀ {l a b : List α}, l = a ++ b → (a ++ x :: b) ∈ insAll x l
  | [], a, b, h => by
    obtain ⟨rfl, rfl⟩ := List.append_eq_nil_iff.1 h.symm
    simp [insAll]
  | y :: r, [], b, h => by
    simp only [List.nil_append] at h
    subst h
    simp [insAll]
  | y :: r, z :: a, b, h => by
    simp only [List.cons_append, List.cons.injEq] at h
    obtain ⟨rfl, h⟩ := h
    simp only [insAll, List.cons_append, List.mem_cons, List.mem_map]
    exact .inr ⟨_, insAll_perm h, rfl⟩
theorem perms_mem {α : Type} : ∀ {l l' : List α}, l'.Perm l → l' ∈ permsL l
  | [], l', h => by
    rw [h.eq_nil]
    simp [permsL]
  | x :: l, l', h => by
    obtain ⟨a, b, rfl⟩ := List.append_of_mem (h.mem_iff.2 (by simp : x ∈ x :: l))
    have h1 : (a ++ b).Perm l := List.Perm.cons_inv (List.perm_middle.symm.trans h)
    simp only [permsL, List.mem_flatMap]
    exact ⟨a ++ b, perms_mem h1, insAll_perm rfl⟩
inductive ObjSame0 : Option AObj → Option AObj → Prop where
  | refl (o : Option AObj) : ObjSame0 o o
  | map {es es' : List (AV × AV)} (h : es.Perm es') : ObjSame0 (some (.map es)) (some (.map es'))
  | lmap {es es' : List (AV × AV)} {t : Nat} (h : es.Perm es') : ObjSame0 (some (.lmap es t)) (some (.lmap es' t))
inductive ObjSame : Option AObj → Option AObj → Prop where
  | refl (o : Option AObj) : ObjSame o o
  | map {es es' : List (AV × AV)} (h : es.Perm es') : ObjSame (some (.map es)) (some (.map es'))
  | lmap {es es' : List (AV × AV)} {t : Nat} (h : es.Perm es') : ObjSame (some (.lmap es t)) (some (.lmap es' t))
  | forget (o : Option AObj) : ObjSame o none
structure HSame (H H' : AHeap) : Prop where
  obj : ∀ i, ObjSame (H.get i) (H'.get i)
  nx : H.next ≤ H'.next
theorem MapR.perm {E : Env} {w : World} {es es' : List (AV × AV)} {rows : Array MapEntry} {clock : Nat} (hp : es.Perm es') (h : MapR E w es rows clock) : MapR E w es' rows clock := by
  obtain ⟨e0, h1, h2, h3, h4⟩ := h
  exact ⟨e0, h1, h2.trans hp, (hp.pairwise_iff (fun h e => h e.symm)).1 h3, h4⟩
theorem ObjSame.rel {E : Env} {w : World} {L : Loc} {o o' : AObj} (h : ObjSame (some o) (some o')) (hO : ObjR E w L o) : ObjR E w L o' := by
  cases h with
  | refl => exact hO
  | map hp =>
    obtain ⟨rows, clock, h1, h2⟩ := hO
    exact ⟨rows, clock, h1, h2.perm hp⟩
  | lmap hp =>
    obtain ⟨rows, clock, h1, h2, h3⟩ := hO
    exact ⟨rows, clock, h1, h2.perm hp, h3⟩
theorem HSame.some {H H' : AHeap} (h : HSame H H') {i : Nat} {o' : AObj} (hg : H'.get i = Option.some o') : ∃ o, H.get i = Option.some o ∧ ObjSame (Option.some o) (Option.some o') := by
  have := h.obj i
  rw [hg] at this
  cases hq : H.get i with
  | none => rw [hq] at this; cases this
  | some o => rw [hq] at this; exact ⟨o, rfl, this⟩
theorem Rel.same {E : Env} {H H' : AHeap} {w : World} (h : Rel E H w) (hs : HSame H H') : Rel E H' w where
  dom := fun i L hi => ⟨Nat.lt_of_lt_of_le (h.dom i L hi).1 hs.nx, (h.dom i L hi).2⟩
  imm := h.imm
  obj := fun i o' hg => by
    obtain ⟨o, hg', ho⟩ := hs.some hg
    obtain ⟨L, h1, h2, h3⟩ := h.obj i o hg'
    exact ⟨L, h1, ho.rel h2, h3⟩
  inj := fun i j o o' L L' hi hj hρ hρ' hne => by
    obtain ⟨p, hp, _⟩ := hs.some hi
    obtain ⟨q, hq, _⟩ := hs.some hj
    exact h.inj i j p q L L' hp hq hρ hρ' hne
theorem Step.same {E E' : Env} {H H' H'' : AHeap} {w w' : World} (h : Step E H w E' H' w') (hs : HSame H' H'') : Step E H w E' H'' w' where
  ext := h.ext
  rel := h.rel.same hs
  fr := h.fr
  nb := fun i o L hg hρ => by
    obtain ⟨p, hp, _⟩ := hs.some hg
    exact h.nb i p L hp hρ
  nx := Nat.le_trans h.nx hs.nx
  ids := h.ids
  imm := h.imm
theorem dropE_perm {e : AV × AV} : ∀ {l l' : List (AV × AV)}, dropE e l = some l' → l.Perm (e :: l')
  | [], _, h => by simp [dropE] at h
  | x :: r, l', h => by
    simp only [dropE] at h
    split at h
    · rename_i hb
      rw [Bool.and_eq_true] at hb
      cases h
      have : e = x := Prod.ext (AV.beq_sound hb.1) (AV.beq_sound hb.2)
      rw [this]
    · obtain ⟨l'', h1, rfl⟩ := Option.map_eq_some_iff.1 h
      exact ((dropE_perm h1).cons x).trans (List.Perm.swap e x _)
theorem permEq_perm : ∀ {l l' : List (AV × AV)}, permEq l l' = true → l.Perm l'
  | [], [], _ => List.Perm.refl _
  | [], _ :: _, h => by simp [permEq] at h
  | e :: r, l', h => by
    simp only [permEq] at h
    split at h
    · rename_i l'' h1
      exact ((permEq_perm h).cons e).trans (dropE_perm h1).symm
    · cases h
theorem objEq_same {o o' : Option AObj} (h : objEq o o' = true) : ObjSame0 o o' := by
  unfold objEq at h
  split at h
  · exact .refl _
  · rw [Bool.and_eq_true] at h
    rw [AV.beqL_sound h.1, eq_of_beq h.2]
    exact .refl _
  · exact .map (permEq_perm h)
  · rw [Bool.and_eq_true] at h
    rw [eq_of_beq h.2]
    exact .lmap (permEq_perm h.1)
  · cases h
theorem noneB_get {α : Type} : ∀ {t : Tr α}, t.noneB = true → ∀ i, t.get i = none
  | .e, _, i => by simp [Tr.get]
  | .n l v r, h, i => by
    simp only [Tr.noneB, Bool.and_eq_true, Option.isNone_iff_eq_none] at h
    obtain ⟨⟨h1, h2⟩, h3⟩ := h
    cases i with
    | zero => simpa [Tr.get] using h2
    | succ i =>
      simp only [Tr.get]
      split
      · exact noneB_get h1 _
      · exact noneB_get h3 _
theorem trEq_same : ∀ {t t' : Tr AObj}, trEq t t' = true → ∀ i, ObjSame0 (t.get i) (t'.get i)
  | .e, t', h, i => by
    rw [Tr.get_e, noneB_get (by simpa [trEq] using h) i]
    exact .refl _
  | .n l v r, .e, h, i => by
    rw [Tr.get_e, noneB_get (by simpa [trEq] using h) i]
    exact .refl _
  | .n l v r, .n l' v' r', h, i => by
    simp only [trEq, Bool.and_eq_true] at h
    obtain ⟨⟨h1, h2⟩, h3⟩ := h
    cases i with
    | zero => simpa [Tr.get] using objEq_same h2
    | succ i =>
      simp only [Tr.get]
      split
      · exact trEq_same h1 _
      · exact trEq_same h3 _
theorem tmMeet_le : ∀ {t t' : Tr AV} {i : Nat} {x : AV}, (tmMeet t t').get i = some x → t.get i = some x ∧ t'.get i = some x
  | .e, t', i, x, h => by simp [tmMeet, Tr.get] at h
  | .n l v r, .e, i, x, h => by simp [tmMeet, Tr.get] at h
  | .n l v r, .n l' v' r', i, x, h => by
    simp only [tmMeet] at h
    cases i with
    | zero =>
      simp only [Tr.get] at h ⊢
      split at h
      · split at h
        · rename_i hb
          cases h
          exact ⟨rfl, by rw [AV.beq_sound hb]⟩
        · cases h
      · cases h
    | succ i =>
      simp only [Tr.get] at h ⊢
      split at h
      · rename_i hp
        simp only [hp, if_true]
        exact tmMeet_le h
      · rename_i hp
        simp only [hp, Bool.false_eq_true, if_false]
        exact tmMeet_le h
def Fits (e : XE) (s : St) (e' : XE) (s' : St) : Prop := e' = e ∧ HSame s'.H s.H ∧ ∀ t x, s.tm.get t = some x → s'.tm.get t = some x
theorem XE.beq_eq {a b : XE} (h : XE.beq a b = true) : a = b := by
  cases a <;> cases b <;> simp [XE.beq] at h <;> first | rfl | (subst h; rfl)
theorem Fits.refl (e : XE) (s : St) : Fits e s e s := ⟨rfl, ⟨fun _ => .refl _, Nat.le_refl _⟩, fun _ _ h => h⟩
theorem meetR_fits : ∀ {l : List (Option (XE × St))} {e : XE} {s : St} {r : XE × St}, meetR e s l = some r →
    Fits r.1 r.2 e s ∧ ∀ q ∈ l, ∃ e' s', q = some (e', s') ∧ Fits r.1 r.2 e' s'
  | [], e, s, r, h => by
    simp only [meetR, Option.some.injEq] at h
    subst h
    exact ⟨Fits.refl _ _, fun q hq => by cases hq⟩
  | none :: l, e, s, r, h => by simp [meetR] at h
  | some (e', s') :: l, e, s, r, h => by
    simp only [meetR] at h
    split at h
    · rename_i hb
      simp only [Bool.and_eq_true] at hb
      obtain ⟨h1, h2⟩ := hb
      obtain rfl := XE.beq_eq h1
      obtain ⟨q1, q2⟩ := meetR_fits h
      obtain ⟨f1, f2, f3⟩ := q1
      have hmx : Nat.max s.H.next s'.H.next ≤ r.2.H.next := f2.nx
      refine ⟨⟨f1, ⟨f2.obj, Nat.le_trans (Nat.le_max_left _ _) hmx⟩, fun t x ht => (tmMeet_le (f3 t x ht)).1⟩, fun q hq => ?_⟩
      rcases List.mem_cons.1 hq with rfl | hq
      · refine ⟨e, s', rfl, f1, ⟨fun i => ?_, Nat.le_trans (Nat.le_max_right _ _) hmx⟩, fun t x ht => (tmMeet_le (f3 t x ht)).2⟩
        have a := trEq_same h2 i
        have b := f2.obj i
        revert a b
        show ObjSame0 (s.H.get i) (s'.H.get i) → ObjSame (s.H.get i) (r.2.H.get i) → _
        generalize s.H.get i = x
        generalize s'.H.get i = y
        generalize r.2.H.get i = z
        intro a b
        cases a with
        | refl => exact b
        | map ha =>
          cases b with
          | refl => exact .map ha.symm
          | forget => exact .forget _
          | map hb => exact .map (ha.symm.trans hb)
        | lmap ha =>
          cases b with
          | refl => exact .lmap ha.symm
          | forget => exact .forget _
          | lmap hb => exact .lmap (ha.symm.trans hb)
      · exact q2 q hq
    · cases h
theorem meetAll_fits {l : List (Option (XE × St))} {r : XE × St} (h : meetAll l = some r) : ∀ q ∈ l, ∃ e' s', q = some (e', s') ∧ Fits r.1 r.2 e' s' := by
  unfold meetAll at h
  split at h
  · obtain ⟨q1, q2⟩ := meetR_fits h
    intro q hq
    rcases List.mem_cons.1 hq with rfl | hq
    · exact ⟨_, _, rfl, q1⟩
    · exact q2 q hq
  · cases h
def exOf : XE → Exit
  | .normal => .normal
  | .exit id => .exit id
  | .ret => .ret
def CodeOK (P : Program) (c : Code) (nt : Nat) (s : St) (e : XE) (s' : St) : Prop :=
  ∀ (E : Env) (w : World) (a : Act), a.tmps.size = nt → Rel E s.H w → TmR E w s.tm a.tmps → ∀ Q : Exit → Act → World → Prop,
    (∀ E' a' w', Step E s.H w E' s'.H w' → TmR E' w' s'.tm a'.tmps → a'.defers = a.defers → a'.tmps.size = nt → Q (exOf e) a' w') → c.wp P Q a w
end Go.Eng
end
section
namespace Go.Eng
open Go.ChangeMaps (setBlock)
variable {P : Program}
def isRng : XOp → Bool
  | .rng _ | .nxt _ | .ent _ => true
  | _ => false
theorem isRng_cls {y : XOp} (h : isRng y = true) : y.cls = .e := by
  cases y <;> simp [isRng] at h <;> rfl
theorem compBuiltin_rng {b : Builtin} {ts : List TypeId} {args : List Operand} {y : XOp} (hc : compBuiltin P b ts args = some y) : isRng y = false := by
  unfold compBuiltin at hc
  split at hc
  · simp only [bind] at hc
    obtain ⟨d, hd, hc⟩ := bindSome hc
    split at hc
    · obtain ⟨_, _, hc⟩ := bindSome hc
      cases hc; rfl
    · obtain ⟨_, _, hc⟩ := bindSome hc
      cases hc; rfl
    · cases hc; rfl
    · obtain ⟨_, _, hc⟩ := bindSome hc
      cases hc; rfl
    · split at hc
      · cases hc; rfl
      · cases hc
    · cases hc
  · split at hc
    · simp only [bind] at hc
      obtain ⟨_, _, hc⟩ := bindSome hc
      obtain ⟨_, _, hc⟩ := bindSome hc
      split at hc
      · obtain ⟨_, _, hc⟩ := bindSome hc
        obtain ⟨_, _, hc⟩ := bindSome hc
        cases hc; rfl
      · cases hc
    · cases hc
  · simp only [bind] at hc
    obtain ⟨_, _, hc⟩ := bindSome hc
    cases hc; rfl
  · simp only [bind] at hc
    obtain ⟨_, _, hc⟩ := bindSome hc
    cases hc; rfl
  · split at hc
    · simp only [bind] at hc
      obtain ⟨_, _, hc⟩ := bindSome hc
      obtain ⟨_, _, hc⟩ := bindSome hc
      obtain ⟨_, _, hc⟩ := bindSome hc
      cases hc; rfl
    · cases hc
  · split at hc
    · simp only [bind] at hc
      obtain ⟨_, _, hc⟩ := bindSome hc
      obtain ⟨_, _, hc⟩ := bindSome hc
      obtain ⟨_, _, hc⟩ := bindSome hc
      cases hc; rfl
    · cases hc
  · cases hc
set_option maxHeartbeats 1000000 in
theorem comp_rng {o : Oper} {y : XOp} (hc : compOp P o = some y) (hy : isRng y = true) :
    (∃ t x m k e, o.op = .range t x ∧ xo x = some m ∧ y = .rng m ∧ P.underlying t = some (.map k e)) ∨ (∃ x m, o.op = .next x false ∧ xo x = some m ∧ y = .nxt m) ∨ (∃ x m, o.op = .entry x ∧ xo x = some m ∧ y = .ent m) := by
  obtain ⟨dst, op, type, pos, after, guard⟩ := o
  unfold compOp at hc
  cases op <;> simp only [bind, reduceCtorEq] at hc
  case range t x =>
    split at hc
    · rename_i k e hu
      obtain ⟨m, hm, hc⟩ := bindSome hc
      cases hc
      exact .inl ⟨t, x, m, k, e, rfl, hm, rfl, hu⟩
    · cases hc
  case next x b =>
    split at hc
    · cases hc
    · rename_i hb
      obtain ⟨m, hm, hc⟩ := bindSome hc
      cases hc
      have : b = false := by simpa using hb
      subst this
      exact .inr (.inl ⟨x, m, rfl, hm, rfl⟩)
  case entry x =>
    obtain ⟨m, hm, hc⟩ := bindSome hc
    cases hc
    exact .inr (.inr ⟨x, m, rfl, hm, rfl⟩)
  case alloc e =>
    obtain ⟨_, _, hc⟩ := bindSome hc
    cases hc
    exact absurd hy (by simp [isRng])
  case box e v =>
    obtain ⟨_, _, hc⟩ := bindSome hc
    cases hc
    exact absurd hy (by simp [isRng])
  case buildSlice t n ps =>
    split at hc
    · obtain ⟨_, _, hc⟩ := bindSome hc
      obtain ⟨_, _, hc⟩ := bindSome hc
      split at hc
      · cases hc
      · obtain ⟨_, _, hc⟩ := bindSome hc
        cases hc
        exact absurd hy (by simp [isRng])
    · cases hc
  case makeMap t r =>
    split at hc
    · cases hc
      exact absurd hy (by simp [isRng])
    · cases hc
  case move x =>
    obtain ⟨_, _, hc⟩ := bindSome hc
    cases hc
    exact absurd hy (by simp [isRng])
  case assign x =>
    obtain ⟨_, _, hc⟩ := bindSome hc
    cases hc
    exact absurd hy (by simp [isRng])
  case pick c a b =>
    obtain ⟨_, _, hc⟩ := bindSome hc
    obtain ⟨_, _, hc⟩ := bindSome hc
    obtain ⟨_, _, hc⟩ := bindSome hc
    cases hc
    exact absurd hy (by simp [isRng])
  case load t a =>
    obtain ⟨_, _, hc⟩ := bindSome hc
    obtain ⟨_, _, hc⟩ := bindSome hc
    cases hc
    exact absurd hy (by simp [isRng])
  case store t a x =>
    obtain ⟨_, _, hc⟩ := bindSome hc
    obtain ⟨_, _, hc⟩ := bindSome hc
    obtain ⟨_, _, hc⟩ := bindSome hc
    cases hc
    exact absurd hy (by simp [isRng])
  case nilCheck x =>
    obtain ⟨_, _, hc⟩ := bindSome hc
    cases hc
    exact absurd hy (by simp [isRng])
  case unOp op t x =>
    obtain ⟨_, _, hc⟩ := bindSome hc
    cases hc
    exact absurd hy (by simp [isRng])
  case extract x i =>
    obtain ⟨_, _, hc⟩ := bindSome hc
    cases hc
    exact absurd hy (by simp [isRng])
  case build t ps =>
    obtain ⟨_, _, hc⟩ := bindSome hc
    split at hc
    · obtain ⟨_, _, hc⟩ := bindSome hc
      obtain ⟨_, _, hc⟩ := bindSome hc
      cases hc
      exact absurd hy (by simp [isRng])
    · obtain ⟨_, _, hc⟩ := bindSome hc
      obtain ⟨_, _, hc⟩ := bindSome hc
      cases hc
      exact absurd hy (by simp [isRng])
    · cases hc
  case makeInterface t x =>
    split at hc
    · cases hc
    · obtain ⟨_, _, hc⟩ := bindSome hc
      cases hc
      exact absurd hy (by simp [isRng])
    · cases hc
  case makeFunc fn first cs =>
    split at hc
    · split at hc
      · obtain ⟨_, _, hc⟩ := bindSome hc
        cases hc
        exact absurd hy (by simp [isRng])
      · cases hc
    · cases hc
  case makeSlice t l c =>
    split at hc
    · obtain ⟨_, _, hc⟩ := bindSome hc
      obtain ⟨_, _, hc⟩ := bindSome hc
      split at hc
      · cases hc
      · obtain ⟨_, _, hc⟩ := bindSome hc
        obtain ⟨_, _, hc⟩ := bindSome hc
        cases hc
        exact absurd hy (by simp [isRng])
    · cases hc
  case slice t x lo hi mx =>
    split at hc
    · obtain ⟨_, _, hc⟩ := bindSome hc
      obtain ⟨_, _, hc⟩ := bindSome hc
      obtain ⟨_, _, hc⟩ := bindSome hc
      obtain ⟨_, _, hc⟩ := bindSome hc
      obtain ⟨_, _, hc⟩ := bindSome hc
      cases hc
      exact absurd hy (by simp [isRng])
    · obtain ⟨_, _, hc⟩ := bindSome hc
      obtain ⟨_, _, hc⟩ := bindSome hc
      obtain ⟨_, _, hc⟩ := bindSome hc
      obtain ⟨_, _, hc⟩ := bindSome hc
      obtain ⟨_, _, hc⟩ := bindSome hc
      cases hc
      exact absurd hy (by simp [isRng])
    · split at hc
      · obtain ⟨_, _, hc⟩ := bindSome hc
        obtain ⟨_, _, hc⟩ := bindSome hc
        obtain ⟨_, _, hc⟩ := bindSome hc
        cases hc
        exact absurd hy (by simp [isRng])
      · cases hc
    · cases hc
  case fieldAddr t x f =>
    split at hc
    · obtain ⟨_, _, hc⟩ := bindSome hc
      obtain ⟨_, _, hc⟩ := bindSome hc
      split at hc
      · cases hc
      · obtain ⟨_, _, hc⟩ := bindSome hc
        cases hc
        exact absurd hy (by simp [isRng])
    · cases hc
  case field t x f =>
    split at hc
    · obtain ⟨_, _, hc⟩ := bindSome hc
      obtain ⟨_, _, hc⟩ := bindSome hc
      obtain ⟨_, _, hc⟩ := bindSome hc
      cases hc
      exact absurd hy (by simp [isRng])
    · cases hc
  case indexAddr t x i =>
    split at hc
    · obtain ⟨_, _, hc⟩ := bindSome hc
      obtain ⟨_, _, hc⟩ := bindSome hc
      obtain ⟨_, _, hc⟩ := bindSome hc
      cases hc
      exact absurd hy (by simp [isRng])
    · obtain ⟨_, _, hc⟩ := bindSome hc
      obtain ⟨_, _, hc⟩ := bindSome hc
      obtain ⟨_, _, hc⟩ := bindSome hc
      cases hc
      exact absurd hy (by simp [isRng])
    · cases hc
  case index t x i =>
    split at hc
    · obtain ⟨_, _, hc⟩ := bindSome hc
      obtain ⟨_, _, hc⟩ := bindSome hc
      obtain ⟨_, _, hc⟩ := bindSome hc
      obtain ⟨_, _, hc⟩ := bindSome hc
      cases hc
      exact absurd hy (by simp [isRng])
    · obtain ⟨_, _, hc⟩ := bindSome hc
      obtain ⟨_, _, hc⟩ := bindSome hc
      cases hc
      exact absurd hy (by simp [isRng])
    · cases hc
  case lookup t m k ok =>
    split at hc
    · obtain ⟨_, _, hc⟩ := bindSome hc
      obtain ⟨_, _, hc⟩ := bindSome hc
      obtain ⟨_, _, hc⟩ := bindSome hc
      obtain ⟨_, _, hc⟩ := bindSome hc
      obtain ⟨_, _, hc⟩ := bindSome hc
      obtain ⟨_, _, hc⟩ := bindSome hc
      cases hc
      exact absurd hy (by simp [isRng])
    · cases hc
  case mapUpdate t m k v =>
    split at hc
    · obtain ⟨_, _, hc⟩ := bindSome hc
      obtain ⟨_, _, hc⟩ := bindSome hc
      obtain ⟨_, _, hc⟩ := bindSome hc
      obtain ⟨_, _, hc⟩ := bindSome hc
      cases hc
      exact absurd hy (by simp [isRng])
    · cases hc
  case insert t m k v =>
    split at hc
    · obtain ⟨_, _, hc⟩ := bindSome hc
      obtain ⟨_, _, hc⟩ := bindSome hc
      obtain ⟨_, _, hc⟩ := bindSome hc
      obtain ⟨_, _, hc⟩ := bindSome hc
      cases hc
      exact absurd hy (by simp [isRng])
    · cases hc
  case binOp op t x z zt => exact absurd ((compBin_cls hc).symm.trans (isRng_cls hy)) (by decide)
  case convert s d x => exact absurd (isRng_cls hy) (by rcases compConv_cls hc with h | h <;> rw [h] <;> decide)
  case call c =>
    obtain ⟨cal, args, ats⟩ := c
    cases cal <;> simp only at hc
    case value f =>
      obtain ⟨_, _, hc⟩ := bindSome hc
      obtain ⟨_, _, hc⟩ := bindSome hc
      cases hc
      exact absurd hy (by simp [isRng])
    case invoke => cases hc
    case builtin b => exact absurd hy (by rw [compBuiltin_rng hc]; decide)
theorem ops_sound_k {cf : CF} (hcf : CFok P cf) {ops : Array Oper} {Q : Exit → Act → World → Prop} {base : Nat} {L : List Nat} : ∀ (rest : List XOper) (i : Nat) (s s' : St) (E : Env) (w : World) (a : Act),
    (∀ (k : Nat) (x : XOper), rest[k]? = some x → ∃ o, ops[i + k]? = some o ∧ compOper P ops o = some x) → (∀ x ∈ rest, dstOk a.tmps.size x = true) → xops cf rest (base + i) s = some s' → Rel E s.H w → TmR E w s.tm a.tmps →
    (∀ k, i ≤ k → k < i + rest.length → E.ρ (base + k) = none) → base + i + rest.length ≤ s.H.next →
    (∀ E' a' w', RStep E s.H w base E' s'.H w' → TmR E' w' s'.tm a'.tmps → a'.defers = a.defers → a'.tmps.size = a.tmps.size → (∀ j L, E'.ρ j = some L → E.ρ j = some L ∨ (base + i ≤ j ∧ j < base + i + rest.length) ∨ s.H.next ≤ j) → wpOps P ops Q L a' w') →
    wpOps P ops Q (List.range' i rest.length ++ L) a w
  | [], i, s, s', E, w, a, _, _, hx, hR, hT, _, _, hQ => by
    simp only [xops, Option.some.injEq] at hx
    subst hx
    simp only [List.length_nil, List.range'_zero, List.nil_append]
    exact hQ E a w (RStep.refl hR) hT rfl rfl (fun j L h => .inl h)
  | x :: rest, i, s, s', E, w, a, hops, hd, hx, hR, hT, hn, hnx, hQ => by
    simp only [xops] at hx
    split at hx
    · rename_i s1 hs1
      obtain ⟨o, ho, hc⟩ := hops 0 x rfl
      simp only [Nat.add_zero] at ho
      simp only [List.length_cons] at hn hnx ⊢
      rw [List.range'_succ, List.cons_append, wpOps_cons]
      refine step_sound hcf ho hc hs1 hR hT (hn i (Nat.le_refl _) (by omega)) (by omega) (base := base) (by omega) ?_
      rintro u w1 ⟨E1, v, h1, h2, h3, h4⟩
      have hdst : o.dst = x.dst := (compOper_inv hc).2.1.symm
      have hdx := hd x (by simp)
      have hT1 : TmR E1 w1 s1.tm (a.put o.dst u).tmps := by
        rw [h4]
        refine TmR.put (hT.mono h1.ext) h3 (fun d hd' => ?_)
        rw [hdst] at hd'
        simp only [dstOk, hd'] at hdx
        simpa using hdx
      refine ops_sound_k hcf rest (i + 1) s1 s' E1 w1 (a.put o.dst u) (fun k y hk => ?_) (fun y hy => ?_) (by rw [← Nat.add_assoc]; exact hx) h1.rel hT1 (fun k hk1 hk2 => ?_) ?_ (fun E' a' w' q1 q2 q3 q4 q5 => ?_)
      · obtain ⟨o', ho', hc'⟩ := hops (k + 1) y (by simpa using hk)
        exact ⟨o', by rw [← ho']; congr 1; omega, hc'⟩
      · rw [put_size]
        exact hd y (by simp [hy])
      · cases hq : E1.ρ (base + k) with
        | none => rfl
        | some L =>
          rcases h2 _ _ hq with q | q | q
          · rw [hn k (by omega) (by omega)] at q; cases q
          · omega
          · omega
      · have := h1.nx
        omega
      · refine hQ E' a' w' (h1.trans q1) q2 (q3.trans (put_defers _ _ _)) (q4.trans (put_size _ _ _)) (fun j L hj => ?_)
        have hnx1 := h1.nx
        rcases q5 j L hj with q | q | q
        · rcases h2 _ _ q with p | p | p
          · exact .inl p
          · exact .inr (.inl (by simp only [List.length_cons]; omega))
          · exact .inr (.inr p)
        · exact .inr (.inl (by simp only [List.length_cons]; omega))
        · exact .inr (.inr (by omega))
    · cases hx
structure MInv (E1 : Env) (H1 : AHeap) (w1 : World) (i t tl r : Nat) (L : Loc) (rows : Array MapEntry) (clock : Nat) (seen : Array Nat) (E : Env) (H : AHeap) (w : World) : Prop where
  st : Step E1 H1 w1 E H w
  ρt : E.ρ t = some ⟨r, 0, 0⟩
  ρi : E.ρ i = some L
  ρl : E.ρ tl ≠ none
  lk : E.lk tl = some (rows, clock)
  un : ∀ j o L', H.get j = some o → E.ρ j = some L' → L'.b ≠ r
  nI : ¬ E.I r
  ge : w1.heap.size ≤ r
  lt : r < w.heap.size
  it : w.heap[r]? = some (.mapIter (some L.b) clock seen clock)
section
variable {E1 : Env} {H1 : AHeap} {w1 : World} {i t tl r : Nat} {L : Loc} {rows : Array MapEntry} {clock : Nat} {seen : Array Nat} {E E' : Env} {H H' : AHeap} {w w' : World}
theorem MInv.body (h : MInv E1 H1 w1 i t tl r L rows clock seen E H w) (s : Step E H w E' H' w') : MInv E1 H1 w1 i t tl r L rows clock seen E' H' w' where
  st := h.st.trans s
  ρt := s.ext.ρ _ _ h.ρt
  ρi := s.ext.ρ _ _ h.ρi
  ρl := s.ext.dom h.ρl
  lk := s.ext.lk _ _ h.ρl h.lk
  un := fun j o L' hg hρ e => by
    rcases s.nb j o L' hg hρ with q | ⟨j', o', L'', q1, q2, q3⟩
    · have := h.lt; omega
    · exact h.un j' o' L'' q1 q2 (q3.trans e)
  nI := fun q => by
    rcases s.imm r q with q | q | ⟨j, o, L', q1, q2, q3⟩
    · exact h.nI q
    · have := h.lt; omega
    · exact h.un j o L' q1 q2 q3
  ge := h.ge
  lt := Nat.lt_of_lt_of_le h.lt s.fr.size
  it := (s.fr.block r h.lt (fun j o L' hg hρ => h.un j o L' hg hρ)).trans h.it
theorem MInv.turn (h : MInv E1 H1 w1 i t tl r L rows clock seen E H w) {seen' : Array Nat} {w0 : World} (hw : w0 = w ∨ w0 = w.drew) (hw' : w' = setBlock w0 r (.mapIter (some L.b) clock seen' clock)) :
    MInv E1 H1 w1 i t tl r L rows clock seen' E H w' ∧ Env.Ext E E w w' := by
  have hheap : ∀ b, w'.heap[b]? = if b = r then some (.mapIter (some L.b) clock seen' clock) else w.heap[b]? := by
    intro b
    have h0 : w0.heap = w.heap := by rcases hw with rfl | rfl <;> rfl
    rw [hw']
    simp only [setBlock, h0]
    rw [Array.getElem?_setIfInBounds]
    by_cases e : r = b
    · subst e
      simp [h.lt]
    · rw [if_neg e, if_neg (fun q => e q.symm)]
  have hsz : w'.heap.size = w.heap.size := by
    have h0 : w0.heap = w.heap := by rcases hw with rfl | rfl <;> rfl
    rw [hw']; simp [setBlock, h0]
  have hos : w'.os = w.os ∧ w'.tape = w.tape ∧ w'.output = w.output := by
    rw [hw']
    rcases hw with rfl | rfl <;> exact ⟨rfl, rfl, rfl⟩
  have hext : Env.Ext E E w w' := ⟨fun _ _ q => q, fun _ q => q, fun b hb => by
    rw [hheap, if_neg (fun e : b = r => h.nI (e ▸ hb))], fun _ _ _ q => q⟩
  have hrel : Rel E H w' := by
    have hR := h.st.rel
    refine ⟨fun j L' hj => by rw [hsz]; exact hR.dom j L' hj, fun b hb => by rw [hsz]; exact hR.imm b hb, fun j o hg => ?_, hR.inj⟩
    obtain ⟨L', q1, q2, q3⟩ := hR.obj j o hg
    exact ⟨L', q1, ObjR.mono hext (by rw [hheap, if_neg (h.un j o L' hg q1)]) q2, q3⟩
  refine ⟨⟨?_, h.ρt, h.ρi, h.ρl, h.lk, h.un, h.nI, h.ge, by rw [hsz]; exact h.lt, by rw [hheap, if_pos rfl]⟩, hext⟩
  have s := h.st
  refine ⟨s.ext.trans hext, hrel, ⟨hos.1.trans s.fr.os, hos.2.1.trans s.fr.tape, hos.2.2.trans s.fr.output, by rw [hsz]; exact s.fr.size, fun b hb hn => ?_⟩, s.nb, s.nx, s.ids, s.imm⟩
  have := h.ge
  rw [hheap, if_neg (by omega)]
  exact s.fr.block b hb hn
theorem MInv.same (h : MInv E1 H1 w1 i t tl r L rows clock seen E H w) (hl : isLock tl (H.get i) = true) : w.heap[L.b]? = some (.map rows clock) ∧ (∀ e ∈ rows.toList, e.born < clock) ∧ (rows.toList.map (·.born)).Nodup := by
  unfold isLock at hl
  split at hl
  · rename_i es t' hg
    rw [beq_iff_eq] at hl
    subst hl
    obtain ⟨L', q1, ⟨rows', clock', q2, ⟨_, _, _, _, q5, q6⟩, q3, q4⟩, _⟩ := h.st.rel.obj _ _ hg
    rw [h.ρi] at q1
    cases q1
    rw [h.lk] at q4
    cases q4
    exact ⟨q2, q5, q6⟩
  · cases hl
end
theorem TmR.drop {E : Env} {w : World} {tm : Tr AV} {a : Act} (h : TmR E w tm a.tmps) (d : Nat) (u : Value) : TmR E w (tm.set d none) (a.put (some d) u).tmps := by
  intro t v hv
  rw [Tr.get_set] at hv
  split at hv
  · cases hv
  · rename_i e
    obtain ⟨q, h1, h2⟩ := h t v hv
    refine ⟨q, ?_, h2⟩
    simp only [Act.put]
    rw [Array.getElem?_setIfInBounds_ne (fun q => e q.symm)]
    exact h1
theorem TmR.sub {E : Env} {w : World} {tm tm' : Tr AV} {tmps : Array Value} (h : TmR E w tm tmps) (hs : ∀ t x, tm'.get t = some x → tm.get t = some x) : TmR E w tm' tmps :=
  fun t x hx => h t x (hs t x hx)
def mrnd (cf : CF) (fuel nx mo pr nb : Nat) (rest : List XOper) (code : XCode) (e : AV × AV) (s : St) : Option (XE × St) :=
  match xops cf rest (s.H.next + 1) (bump ⟨((s.tm.set nx none).set mo none).set pr (some (.tup [e.1, e.2])), s.H⟩ (rest.length + 1)) with
  | none => none
  | some s2 => match xcode cf fuel code s2 with
    | some (.exit i, s3) => if i = nb then some (.normal, s3) else some (.exit i, s3)
    | r => r
theorem perm_pick {α : Type} {f : α → Nat} : ∀ {l : List α} {z : α}, (l.map f).Nodup → z ∈ l → l.Perm (z :: l.filter fun y => f y != f z)
  | [], _, _, h => by cases h
  | x :: l, z, hn, h => by
    simp only [List.map_cons, List.nodup_cons] at hn
    obtain ⟨h1, h2⟩ := hn
    rcases List.mem_cons.1 h with rfl | h
    · have : l.filter (fun y => f y != f z) = l := List.filter_eq_self.2 fun y hy => by
        simp only [bne_iff_ne, ne_eq]
        exact fun e => h1 (e ▸ List.mem_map_of_mem hy)
      simp [this]
    · have hne : (f x != f z) = true := by
        simp only [bne_iff_ne, ne_eq]
        exact fun e => h1 (e ▸ List.mem_map_of_mem h)
      rw [List.filter_cons, if_pos hne]
      exact ((perm_pick h2 h).cons x).trans (List.Perm.swap z x _)
theorem wpOp_val {ops : Array Oper} {Q : Exit → Act → World → Prop} {K : Act → World → Prop} {j : Nat} {o : Oper} {x : XOper} (ho : ops[j]? = some o) (hc : compOper P ops o = some x) (hg : x.guard = none) {a : Act} {w w' : World} {u : Value}
    (hx : (execOp a.eval o).run P w = .ok (.value u) w') (hK : K (a.put x.dst u) w') : wpOp P ops Q j K a w := by
  obtain ⟨_, hd, hgg⟩ := compOper_inv hc
  have hno : o.guard = none := by
    rcases hgg with ⟨q, _⟩ | ⟨_, _, _, _, q, _⟩
    · exact q
    · rw [hg] at q; cases q
  unfold wpOp
  rw [ho]
  simp only [Region.wanted, hno, if_true]
  refine .inl ?_
  unfold Oper.wp
  rw [hx]
  simp only [Oper.upon]
  rw [← hd]
  exact hK
theorem rstep_step {E E' : Env} {H H' : AHeap} {w w' : World} {k : Nat} {tm : Tr AV} (r1 : RStep E (bump ⟨tm, H⟩ k).H w H.next E' H' w') : Step E H w E' H' w' :=
  ⟨r1.ext, r1.rel, ⟨r1.fr.os, r1.fr.tape, r1.fr.output, r1.fr.size, r1.fr.block⟩, r1.nb, by
    have := r1.nx
    have hb : (bump ⟨tm, H⟩ k).H.next = H.next + k := rfl
    rw [hb] at this
    omega, r1.ids, r1.imm⟩
theorem rel_bump {E : Env} {H : AHeap} {w : World} {tm : Tr AV} (k : Nat) (hR : Rel E H w) : Rel E (bump ⟨tm, H⟩ k).H w :=
  ⟨fun i L hi => by
    have := hR.dom i L hi
    have hb : (bump ⟨tm, H⟩ k).H.next = H.next + k := rfl
    rw [hb]
    exact ⟨by omega, this.2⟩, hR.imm, hR.obj, hR.inj⟩
set_option maxHeartbeats 2000000 in
theorem mloop {cf : CF} (hcf : CFok P cf) {fuel nt : Nat} {c' : Code} {code : XCode} (hbody : ∀ s e s', xcode cf fuel code s = some (e, s') → CodeOK P c' nt s e s')
    {out nb nx mo it pr id1 id2 : Nat} {ops1 ops2 : Array Oper} {rest : List XOper} {cm : Operand}
    (h1 : ops1.toList.mapM (compOper P ops1) = some [⟨some nx, .nxt (.t it), none⟩, ⟨some mo, .ext (.t nx) 0, none⟩])
    (h2 : ops2.toList.mapM (compOper P ops2) = some (⟨some pr, .ent (.t it), none⟩ :: rest)) (hcm : xo cm = some (.t mo))
    (hnx : nx < nt) (hmo : mo < nt) (hpr : pr < nt) (hrest : ∀ x ∈ rest, dstOk nt x = true) (n1 : nx ≠ it) (n2 : mo ≠ it) (n3 : nx ≠ mo)
    {E1 : Env} {H1 : AHeap} {w1 : World} {i t tl r : Nat} {L : Loc} {rows : Array MapEntry} {clock : Nat} {d0 : List Deferred} {Q : Exit → Act → World → Prop} {eF : XE} {sF : St}
    (Z : List ((AV × AV) × MapEntry)) (hZ : Z.map (·.2) = rows.toList) (hZr : ∀ z ∈ Z, AVRel E1 w1 z.1.1 z.2.key ∧ AVRel E1 w1 z.1.2 z.2.val)
    (hQ : ∀ E' a' w', Step E1 H1 w1 E' sF.H w' → TmR E' w' sF.tm a'.tmps → a'.defers = d0 → a'.tmps.size = nt → Q (exOf eF) a' w') :
    ∀ (n : Nat) (seen : Array Nat) (s : St) (E : Env) (w : World) (a : Act), (Z.filter fun z => !seen.contains z.2.born).length = n →
    MInv E1 H1 w1 i t tl r L rows clock seen E s.H w → TmR E w s.tm a.tmps → a.defers = d0 → a.tmps.size = nt →
    (∀ p : List (AV × AV), p.Perm ((Z.filter fun z => !seen.contains z.2.born).map (·.1)) → ∃ e' s', mrun (fun s => isLock tl (s.H.get i) && isIt t (s.tm.get it)) (fun s => ⟨(s.tm.set nx none).set mo none, s.H⟩) (mrnd cf fuel nx mo pr nb rest code) out p s = some (e', s') ∧ Fits eF sF e' s') →
    Code.rounds P (.seq (.region id1 ops1 false) (.seq (.cond cm .skip (.exit out)) (.block nb (.seq (.region id2 ops2 false) c')))) (Exit.inBlock out Q) (n + 1) a w := by
  obtain ⟨l1, g1⟩ := mapM_get h1
  obtain ⟨l2, g2⟩ := mapM_get h2
  obtain ⟨o0, ho0, hc0⟩ := g1 0 _ rfl
  obtain ⟨o1, ho1, hc1⟩ := g1 1 _ rfl
  obtain ⟨o2, ho2, hc2⟩ := g2 0 _ rfl
  rw [Array.getElem?_toList] at ho0 ho1 ho2
  have hr1 : List.range ops1.size = [0, 1] := by
    have : ops1.size = 2 := by simpa using l1.symm
    rw [this]; rfl
  have hr2 : List.range ops2.size = 0 :: List.range' 1 rest.length := by
    have : ops2.size = rest.length + 1 := by simpa using l2.symm
    rw [this, List.range_eq_range', List.range'_succ]
  obtain ⟨x0, m0, hop0, hx0, e0⟩ : ∃ x m, o0.op = .next x false ∧ xo x = some m ∧ m = .t it := by
    rcases comp_rng (compOper_inv hc0).1 rfl with ⟨_, _, _, _, _, _, _, q, _⟩ | ⟨x, m, q1, q2, q3⟩ | ⟨_, _, _, _, q⟩
    · cases q
    · cases q3; exact ⟨x, _, q1, q2, rfl⟩
    · cases q
  obtain ⟨x2, m2, hop2, hx2, e2⟩ : ∃ x m, o2.op = .entry x ∧ xo x = some m ∧ m = .t it := by
    rcases comp_rng (compOper_inv hc2).1 rfl with ⟨_, _, _, _, _, _, _, q, _⟩ | ⟨_, _, _, _, q⟩ | ⟨x, m, q1, q2, q3⟩
    · cases q
    · cases q
    · cases q3; exact ⟨x, _, q1, q2, rfl⟩
  subst e0 e2
  have hborn : (Z.map fun z => z.2.born) = rows.toList.map (·.born) := by rw [← hZ, List.map_map]; rfl
  intro n
  induction n with
  | zero =>
    intro seen s E w a hn hI hT hd hsz hall
    have hZ0 : Z.filter (fun z => !seen.contains z.2.born) = [] := List.eq_nil_of_length_eq_zero hn
    obtain ⟨e', s', hm, hfit⟩ := hall [] (by rw [hZ0]; simp)
    simp only [mrun] at hm
    split at hm
    · rename_i hok
      cases hm
      rw [Bool.and_eq_true] at hok
      obtain ⟨hlock, hit⟩ := hok
      obtain ⟨hrow, hold, hnd⟩ := hI.same hlock
      have hev : a.eval x0 = .pointer (some ⟨r, 0, none⟩) := by
        unfold isIt at hit
        split at hit
        · rename_i p q hg
          simp only [Bool.and_eq_true, beq_iff_eq] at hit
          obtain ⟨rfl, rfl⟩ := hit
          have := ev_rel hT hx0 (show St.ev s.tm (.t it) = _ from hg)
          simp only [AVRel] at this
          obtain ⟨L', q1, q2⟩ := this
          rw [hI.ρt] at q1
          cases q1
          exact q2
        · cases hit
      have hleft : (leftOf rows seen).size = 0 := by
        have : (leftOf rows seen).toList = (Z.filter (fun z => !seen.contains z.2.born)).map (·.2) := by
          unfold leftOf
          rw [Array.toList_filter, ← hZ, List.filter_map]
          rfl
        rw [← Array.length_toList, this, hZ0]
        rfl
      rcases run_next_at (P := P) w o0.type r L.b clock clock seen rows clock hI.it hrow hold (Nat.le_refl _) with ⟨_, hnext⟩ | ⟨e, he, _⟩
      · rw [rounds_succ]
        refine wp_seq (wp_region ?_)
        rw [hr1, wpOps_cons]
        refine wpOp_val ho0 hc0 rfl (w' := w) (u := .tuple #[.bool false]) ?_ ?_
        · simp only [execOp, hop0, hev]
          exact execV hnext
        · have hT1 : TmR E w (s.tm.set nx (some (.tup [.bool false]))) (a.put (some nx) (.tuple #[.bool false])).tmps :=
            TmR.put (dst := some nx) hT (by simp only [AVRel, AVRelL]; exact ⟨_, rfl, _, _, rfl, rfl, rfl⟩) (fun d hd' => by cases hd'; omega)
          rw [wpOps_cons]
          obtain ⟨u1, hu1, hu2⟩ := pr_sound (P := P) hI.st.rel hT1 (compOper_inv hc1).1 (n := 0) (r := .bool false) (by simp [xop, St.ev, Tr.get_set, AR.ofV])
          refine wpOp_val ho1 hc1 rfl hu1 ?_
          have hT2 : TmR E w ((s.tm.set nx (some (.tup [.bool false]))).set mo (some (.bool false))) ((a.put (some nx) (.tuple #[.bool false])).put (some mo) u1).tmps :=
            TmR.put (dst := some mo) hT1 hu2 (fun d hd' => by cases hd'; rw [put_size]; omega)
          simp only [wpOps, Exit.then]
          refine wp_seq ?_
          refine wp_cond_false (ev_rel hT2 hcm (x := .bool false) (by simp [St.ev, Tr.get_set])).bool_inv ?_
          refine wp_exit ?_
          simp only [Exit.then, Exit.inBlock, if_true]
          obtain ⟨f1, f2, f3⟩ := hfit
          subst f1
          refine hQ E _ w (hI.st.same f2) (TmR.sub ((hT.drop nx (.tuple #[.bool false])).drop mo u1) f3) ?_ ?_
          · rw [put_defers, put_defers]; exact hd
          · rw [put_size, put_size]; exact hsz
      · exfalso
        have : 0 < (leftOf rows seen).toList.length := List.length_pos_of_mem he
        rw [Array.length_toList] at this
        omega
    · cases hm
  | succ n ih =>
    intro seen s E w a hn hI hT hd hsz hall
    obtain ⟨e', s', hm, hfit⟩ := hall _ (List.Perm.refl _)
    have hok : (isLock tl (s.H.get i) && isIt t (s.tm.get it)) = true := by
      cases hq : (Z.filter fun z => !seen.contains z.2.born).map (·.1) with
      | nil =>
        rw [List.map_eq_nil_iff] at hq
        rw [hq] at hn
        cases hn
      | cons p q =>
        rw [hq] at hm
        simp only [mrun] at hm
        split at hm
        · assumption
        · cases hm
    clear hm hfit e' s'
    have hok' := hok
    rw [Bool.and_eq_true] at hok'
    obtain ⟨hlock, hit⟩ := hok'
    obtain ⟨hrow, hold, hnd⟩ := hI.same hlock
    have hev : ∀ {a' : Act} {tm' : Tr AV} {E' : Env} {w' : World}, TmR E' w' tm' a'.tmps → tm'.get it = s.tm.get it → E'.ρ t = some ⟨r, 0, 0⟩ → ∀ {x : Operand}, xo x = some (.t it) → a'.eval x = .pointer (some ⟨r, 0, none⟩) := by
      intro a' tm' E' w' hT' htm hρ x hx
      unfold isIt at hit
      split at hit
      · rename_i p q hg
        simp only [Bool.and_eq_true, beq_iff_eq] at hit
        obtain ⟨rfl, rfl⟩ := hit
        have := ev_rel hT' hx (show St.ev tm' (.t it) = _ from htm.trans hg)
        simp only [AVRel] at this
        obtain ⟨L', q1, q2⟩ := this
        rw [hρ] at q1
        cases q1
        exact q2
      · cases hit
    have hleftL : (leftOf rows seen).toList = (Z.filter (fun z => !seen.contains z.2.born)).map (·.2) := by
      unfold leftOf
      rw [Array.toList_filter, ← hZ, List.filter_map]
      rfl
    rcases run_next_at (P := P) w o0.type r L.b clock clock seen rows clock hI.it hrow hold (Nat.le_refl _) with ⟨h0, _⟩ | ⟨e, he, w0, hw0, hnext⟩
    · exfalso
      rw [← Array.length_toList, hleftL, List.length_map, hn] at h0
      cases h0
    · obtain ⟨w', hw'⟩ : ∃ w', setBlock w0 r (.mapIter (some L.b) clock (seen.push e.born) clock) = w' := ⟨_, rfl⟩
      rw [hw'] at hnext
      obtain ⟨hI', hext⟩ := hI.turn hw0 hw'.symm
      have he' := he
      rw [hleftL] at he'
      obtain ⟨z, hz, rfl⟩ := List.mem_map.1 he'
      have hzZ : z ∈ Z := (List.mem_filter.1 hz).1
      obtain ⟨rk, rv⟩ := hZr z hzZ
      have rk' := AVRel.mono hI'.st.ext _ _ rk
      have rv' := AVRel.mono hI'.st.ext _ _ rv
      have hndZ : ((Z.filter fun z => !seen.contains z.2.born).map fun z => z.2.born).Nodup := by
        have : (Z.map fun z => z.2.born).Nodup := by rw [hborn]; exact hnd
        exact this.sublist (List.Sublist.map _ List.filter_sublist)
      have hpick := perm_pick hndZ hz
      have hnew : (Z.filter fun y => !(seen.push z.2.born).contains y.2.born) = (Z.filter fun z => !seen.contains z.2.born).filter fun y => y.2.born != z.2.born := by
        rw [List.filter_filter]
        refine List.filter_congr fun y _ => ?_
        rw [contains_push]
        cases seen.contains y.2.born <;> simp [bne]
      rw [← hnew] at hpick
      have hlen : (Z.filter fun y => !(seen.push z.2.born).contains y.2.born).length = n := by
        have := hpick.length_eq
        simp only [List.length_cons] at this
        omega
      have hall' : ∀ p : List (AV × AV), p.Perm ((Z.filter fun y => !(seen.push z.2.born).contains y.2.born).map (·.1)) → ∃ e' s', mrun (fun s => isLock tl (s.H.get i) && isIt t (s.tm.get it)) (fun s => ⟨(s.tm.set nx none).set mo none, s.H⟩) (mrnd cf fuel nx mo pr nb rest code) out (z.1 :: p) s = some (e', s') ∧ Fits eF sF e' s' :=
        fun p hp => hall _ ((hp.cons z.1).trans (by have h := hpick.symm.map Prod.fst; simpa using h))
      rw [rounds_succ]
      refine wp_seq (wp_region ?_)
      rw [hr1, wpOps_cons]
      have hTw : TmR E w' s.tm a.tmps := hT.mono hext
      refine wpOp_val ho0 hc0 rfl (w' := w') (u := .tuple #[.bool true, z.2.key, z.2.val]) ?_ ?_
      · simp only [execOp, hop0, hev hT rfl hI.ρt hx0]
        exact execV hnext
      · have hT1 : TmR E w' (s.tm.set nx (some (.tup [.bool true, z.1.1, z.1.2]))) (a.put (some nx) (.tuple #[.bool true, z.2.key, z.2.val])).tmps :=
          TmR.put (dst := some nx) hTw (by simp only [AVRel, AVRelL]; exact ⟨_, rfl, _, _, rfl, rfl, _, _, rfl, rk', _, _, rfl, rv', rfl⟩) (fun d hd' => by cases hd'; omega)
        rw [wpOps_cons]
        obtain ⟨u1, hu1, hu2⟩ := pr_sound (P := P) hI'.st.rel hT1 (compOper_inv hc1).1 (n := 0) (r := .bool true) (by simp [xop, St.ev, Tr.get_set, AR.ofV])
        refine wpOp_val ho1 hc1 rfl hu1 ?_
        have hT2 : TmR E w' ((s.tm.set nx (some (.tup [.bool true, z.1.1, z.1.2]))).set mo (some (.bool true))) ((a.put (some nx) (.tuple #[.bool true, z.2.key, z.2.val])).put (some mo) u1).tmps :=
          TmR.put (dst := some mo) hT1 hu2 (fun d hd' => by cases hd'; rw [put_size]; omega)
        simp only [wpOps, Exit.then]
        refine wp_seq ?_
        refine wp_cond_true (ev_rel hT2 hcm (x := .bool true) (by simp [St.ev, Tr.get_set])).bool_inv ?_
        refine wp_skip ?_
        simp only [Exit.then]
        refine wp_block (wp_seq (wp_region ?_))
        rw [hr2, wpOps_cons]
        obtain ⟨hrow', _, _⟩ := hI'.same hlock
        have hent := run_entry_at (P := P) w' r L.b clock seen rows clock z.2 hI'.it hrow' (by rw [← hZ]; exact List.mem_map_of_mem hzZ) hnd
        have hT2' : TmR E w' ((s.tm.set nx none).set mo none) ((a.put (some nx) (.tuple #[.bool true, z.2.key, z.2.val])).put (some mo) u1).tmps := (hTw.drop nx _).drop mo u1
        refine wpOp_val ho2 hc2 rfl (w' := w') (u := .tuple #[z.2.key, z.2.val]) ?_ ?_
        · simp only [execOp, hop2, hev hT2' (by rw [Tr.get_set_ne _ _ (fun q => n2 q.symm), Tr.get_set_ne _ _ (fun q => n1 q.symm)]) hI'.ρt hx2]
          exact execV hent
        · obtain ⟨a3, ha3⟩ : ∃ a3, ((a.put (some nx) (.tuple #[.bool true, z.2.key, z.2.val])).put (some mo) u1).put (some pr) (.tuple #[z.2.key, z.2.val]) = a3 := ⟨_, rfl⟩
          have hT3 : TmR E w' (((s.tm.set nx none).set mo none).set pr (some (.tup [z.1.1, z.1.2]))) a3.tmps := by
            rw [← ha3]
            exact TmR.put (dst := some pr) hT2' (by simp only [AVRel, AVRelL]; exact ⟨_, rfl, _, _, rfl, rk', _, _, rfl, rv', rfl⟩) (fun d hd' => by cases hd'; rw [put_size, put_size]; omega)
          have hsz3 : a3.tmps.size = nt := by rw [← ha3, put_size, put_size, put_size]; exact hsz
          have hd3 : a3.defers = d0 := by rw [← ha3, put_defers, put_defers, put_defers]; exact hd
          show wpOps P ops2 _ (List.range' 1 rest.length) _ w'
          rw [ha3]
          -- the round, of the abstract machine
          obtain ⟨e', s', hm, hfit⟩ := hall' _ (List.Perm.refl _)
          have hrnd : ∃ s2 e4 s3, xops cf rest (s.H.next + 1) (bump ⟨((s.tm.set nx none).set mo none).set pr (some (.tup [z.1.1, z.1.2])), s.H⟩ (rest.length + 1)) = some s2 ∧ xcode cf fuel code s2 = some (e4, s3) := by
            simp only [mrun, hok, if_true, mrnd] at hm
            cases hq : xops cf rest (s.H.next + 1) (bump ⟨((s.tm.set nx none).set mo none).set pr (some (.tup [z.1.1, z.1.2])), s.H⟩ (rest.length + 1)) with
            | none => simp [hq] at hm
            | some s2 =>
              cases hq' : xcode cf fuel code s2 with
              | none => simp [hq, hq'] at hm
              | some p => exact ⟨s2, p.1, p.2, rfl, hq'⟩
          obtain ⟨s2, e4, s3, hs2, hs3⟩ := hrnd
          have hR3 : Rel E (bump ⟨((s.tm.set nx none).set mo none).set pr (some (.tup [z.1.1, z.1.2])), s.H⟩ (rest.length + 1)).H w' := rel_bump _ hI'.st.rel
          refine ops_sound hcf (base := s.H.next) rest 1 _ s2 E w' a3 (fun k x hk => ?_) (fun x hx => by rw [hsz3]; exact hrest x hx) hs2 hR3 hT3 (fun k _ _ => ?_) (by show s.H.next + 1 + rest.length ≤ s.H.next + (rest.length + 1); omega) (fun E4 a4 w4 r1 r2 r3 r4 => ?_)
          · obtain ⟨o, q1, q2⟩ := g2 (k + 1) x (by simpa using hk)
            exact ⟨o, by rw [Array.getElem?_toList] at q1; rw [← q1]; congr 1; omega, q2⟩
          · cases hq : E.ρ (s.H.next + k) with
            | none => rfl
            | some L' => have := (hI'.st.rel.dom _ L' hq).1; omega
          · have st4 := rstep_step r1
            simp only [Exit.then]
            refine hbody s2 e4 s3 hs3 E4 w4 a4 (by rw [r4]; exact hsz3) r1.rel r2 _ (fun E5 a5 w5 q1 q2 q3 q4 => ?_)
            have hI5 := hI'.body (st4.trans q1)
            have hd5 : a5.defers = d0 := q3.trans (r3.trans hd3)
            have on : mrnd cf fuel nx mo pr nb rest code z.1 s = some (.normal, s3) → Code.rounds P (.seq (.region id1 ops1 false) (.seq (.cond cm .skip (.exit out)) (.block nb (.seq (.region id2 ops2 false) c')))) (Exit.inBlock out Q) (n + 1) a5 w5 := by
              intro hr
              refine ih (seen.push z.2.born) s3 E5 w5 a5 hlen hI5 q2 hd5 q4 (fun p hp => ?_)
              obtain ⟨e'', s'', hm', hfit'⟩ := hall' p hp
              simp only [mrun, hok, if_true, hr] at hm'
              exact ⟨e'', s'', hm', hfit'⟩
            cases e4 with
            | normal =>
              simp only [exOf, Exit.inBlock, Exit.then]
              exact on (by simp only [mrnd, hs2, hs3])
            | ret =>
              simp only [exOf, Exit.inBlock, Exit.then]
              simp only [mrun, hok, if_true, mrnd, hs2, hs3, Option.some.injEq, Prod.mk.injEq] at hm
              obtain ⟨rfl, rfl⟩ := hm
              obtain ⟨f1, f2, f3⟩ := hfit
              subst f1
              exact hQ E5 a5 w5 (hI5.st.same f2) (q2.sub f3) hd5 q4
            | exit j =>
              by_cases hj : j = nb
              · simp only [exOf, Exit.inBlock, Exit.then, hj, if_true]
                exact on (by simp only [mrnd, hs2, hs3, hj, if_true])
              · simp only [exOf, Exit.inBlock, Exit.then, hj, if_false]
                simp only [mrun, hok, if_true, mrnd, hs2, hs3, hj, if_false] at hm
                split
                · rename_i ho
                  simp only [ho, if_true, Option.some.injEq, Prod.mk.injEq] at hm
                  obtain ⟨rfl, rfl⟩ := hm
                  obtain ⟨f1, f2, f3⟩ := hfit
                  subst f1
                  exact hQ E5 a5 w5 (hI5.st.same f2) (q2.sub f3) hd5 q4
                · rename_i ho
                  simp only [ho, if_false, Option.some.injEq, Prod.mk.injEq] at hm
                  obtain ⟨rfl, rfl⟩ := hm
                  obtain ⟨f1, f2, f3⟩ := hfit
                  subst f1
                  exact hQ E5 a5 w5 (hI5.st.same f2) (q2.sub f3) hd5 q4
theorem rngLast_spec : ∀ {l pre : List XOper} {it : Nat} {m : XO}, rngLast l = some (pre, it, m) → l = pre ++ [⟨some it, .rng m, none⟩]
  | [], _, _, _, h => by simp [rngLast] at h
  | o :: r, pre, it, m, h => by
    unfold rngLast at h
    split at h
    · cases h
    · rename_i heq
      cases heq
      cases h
      rfl
    · rename_i o' r' _ heq
      cases heq
      obtain ⟨⟨p, x⟩, h1, h2⟩ := Option.map_eq_some_iff.1 h
      simp only [Prod.mk.injEq] at h2
      obtain ⟨rfl, rfl⟩ := h2
      rw [rngLast_spec h1]
      rfl
theorem fuse_seq_or (a b : XCode) : fuse a b = .seq a b ∨ ∃ pre it m out nx mo nb pr rest code, fuse a b = .mrange pre it m out nx mo nb pr rest code := by
  unfold fuse
  split
  · split
    · split
      · exact .inr ⟨_, _, _, _, _, _, _, _, _, _, rfl⟩
      · exact .inl rfl
    · exact .inl rfl
  · exact .inl rfl
theorem fuse_spec {a b : XCode} {pre : List XOper} {it : Nat} {m : XO} {out nx mo nb pr : Nat} {rest : List XOper} {code : XCode} (h : fuse a b = .mrange pre it m out nx mo nb pr rest code) :
    a = .reg (pre ++ [⟨some it, .rng m, none⟩]) ∧ b = .block out (.loop (.seq (.reg [⟨some nx, .nxt (.t it), none⟩, ⟨some mo, .ext (.t nx) 0, none⟩]) (.seq (.cond (.t mo) .skip (.exit out)) (.block nb (.seq (.reg (⟨some pr, .ent (.t it), none⟩ :: rest)) code))))) ∧
    nx ≠ it ∧ mo ≠ it ∧ nx ≠ mo ∧ pr ≠ it ∧ nb ≠ out := by
  unfold fuse at h
  split at h
  · split at h
    · rename_i hl
      split at h
      · rename_i hc
        obtain ⟨rfl, rfl, rfl, rfl, rfl, c1, c2, c3, c4, c5⟩ := hc
        injection h with q1 q2 q3 q4 q5 q6 q7 q8 q9 q10
        subst q1 q2 q3 q4 q5 q6 q7 q8 q9 q10
        rw [rngLast_spec hl]
        exact ⟨rfl, rfl, c1, c2, c3, c4, c5⟩
      · cases h
    · cases h
  · cases h
theorem inv_seq {c : Code} {a b : XCode} (h : compCode P c = some (.seq a b)) : ∃ x y, c = .seq x y ∧ compCode P x = some a ∧ compCode P y = some b := by
  cases c <;> simp only [compCode, bind, reduceCtorEq] at h
  case skip => cases h
  case region id ops draw =>
    obtain ⟨xs, _, h⟩ := bindSome h
    split at h
    · split at h <;> cases h
    · cases h
  case seq x y =>
    obtain ⟨xa, hxa, h⟩ := bindSome h
    obtain ⟨xb, hxb, h⟩ := bindSome h
    simp only [Option.some.injEq] at h
    rcases fuse_seq_or xa xb with q | ⟨_, _, _, _, _, _, _, _, _, _, q⟩
    · rw [q] at h
      cases h
      exact ⟨x, y, rfl, hxa, hxb⟩
    · rw [q] at h; cases h
  case cond c x y =>
    obtain ⟨_, _, h⟩ := bindSome h
    obtain ⟨_, _, h⟩ := bindSome h
    obtain ⟨_, _, h⟩ := bindSome h
    cases h
  case block id c => obtain ⟨_, _, h⟩ := bindSome h; cases h
  case loop c => obtain ⟨_, _, h⟩ := bindSome h; cases h
  case exit id => cases h
  case ret => cases h
theorem inv_reg {c : Code} {xs : List XOper} (h : compCode P c = some (.reg xs)) : ∃ id ops, c = .region id ops false ∧ ops.toList.mapM (compOper P ops) = some xs := by
  cases c <;> simp only [compCode, bind, reduceCtorEq] at h
  case skip => cases h
  case region id ops draw =>
    obtain ⟨ys, hys, h⟩ := bindSome h
    cases draw
    · simp only [Bool.false_eq_true, if_false, Option.some.injEq, XCode.reg.injEq] at h
      subst h
      exact ⟨id, ops, rfl, hys⟩
    · simp only [if_true] at h
      split at h <;> cases h
  case seq x y =>
    obtain ⟨xa, hxa, h⟩ := bindSome h
    obtain ⟨xb, hxb, h⟩ := bindSome h
    simp only [Option.some.injEq] at h
    rcases fuse_seq_or xa xb with q | ⟨_, _, _, _, _, _, _, _, _, _, q⟩
    · rw [q] at h; cases h
    · rw [q] at h; cases h
  case cond c x y =>
    obtain ⟨_, _, h⟩ := bindSome h
    obtain ⟨_, _, h⟩ := bindSome h
    obtain ⟨_, _, h⟩ := bindSome h
    cases h
  case block id c => obtain ⟨_, _, h⟩ := bindSome h; cases h
  case loop c => obtain ⟨_, _, h⟩ := bindSome h; cases h
  case exit id => cases h
  case ret => cases h
theorem inv_block {c : Code} {i : Nat} {b : XCode} (h : compCode P c = some (.block i b)) : ∃ x, c = .block i x ∧ compCode P x = some b := by
  cases c <;> simp only [compCode, bind, reduceCtorEq] at h
  case skip => cases h
  case region id ops draw =>
    obtain ⟨xs, _, h⟩ := bindSome h
    split at h
    · split at h <;> cases h
    · cases h
  case seq x y =>
    obtain ⟨xa, hxa, h⟩ := bindSome h
    obtain ⟨xb, hxb, h⟩ := bindSome h
    simp only [Option.some.injEq] at h
    rcases fuse_seq_or xa xb with q | ⟨_, _, _, _, _, _, _, _, _, _, q⟩
    · rw [q] at h; cases h
    · rw [q] at h; cases h
  case cond c x y =>
    obtain ⟨_, _, h⟩ := bindSome h
    obtain ⟨_, _, h⟩ := bindSome h
    obtain ⟨_, _, h⟩ := bindSome h
    cases h
  case block id c => obtain ⟨x, hx, h⟩ := bindSome h; cases h; exact ⟨c, rfl, hx⟩
  case loop c => obtain ⟨_, _, h⟩ := bindSome h; cases h
  case exit id => cases h
  case ret => cases h
theorem inv_loop {c : Code} {b : XCode} (h : compCode P c = some (.loop b)) : ∃ x, c = .loop x ∧ compCode P x = some b := by
  cases c <;> simp only [compCode, bind, reduceCtorEq] at h
  case skip => cases h
  case region id ops draw =>
    obtain ⟨xs, _, h⟩ := bindSome h
    split at h
    · split at h <;> cases h
    · cases h
  case seq x y =>
    obtain ⟨xa, hxa, h⟩ := bindSome h
    obtain ⟨xb, hxb, h⟩ := bindSome h
    simp only [Option.some.injEq] at h
    rcases fuse_seq_or xa xb with q | ⟨_, _, _, _, _, _, _, _, _, _, q⟩
    · rw [q] at h; cases h
    · rw [q] at h; cases h
  case cond c x y =>
    obtain ⟨_, _, h⟩ := bindSome h
    obtain ⟨_, _, h⟩ := bindSome h
    obtain ⟨_, _, h⟩ := bindSome h
    cases h
  case block id c => obtain ⟨_, _, h⟩ := bindSome h; cases h
  case loop c => obtain ⟨x, hx, h⟩ := bindSome h; cases h; exact ⟨c, rfl, hx⟩
  case exit id => cases h
  case ret => cases h
theorem inv_cond {c : Code} {x : XO} {a b : XCode} (h : compCode P c = some (.cond x a b)) : ∃ cm y z, c = .cond cm y z ∧ xo cm = some x ∧ compCode P y = some a ∧ compCode P z = some b := by
  cases c <;> simp only [compCode, bind, reduceCtorEq] at h
  case skip => cases h
  case region id ops draw =>
    obtain ⟨xs, _, h⟩ := bindSome h
    split at h
    · split at h <;> cases h
    · cases h
  case seq x y =>
    obtain ⟨xa, hxa, h⟩ := bindSome h
    obtain ⟨xb, hxb, h⟩ := bindSome h
    simp only [Option.some.injEq] at h
    rcases fuse_seq_or xa xb with q | ⟨_, _, _, _, _, _, _, _, _, _, q⟩
    · rw [q] at h; cases h
    · rw [q] at h; cases h
  case cond c y z =>
    obtain ⟨_, q1, h⟩ := bindSome h
    obtain ⟨_, q2, h⟩ := bindSome h
    obtain ⟨_, q3, h⟩ := bindSome h
    cases h
    exact ⟨c, y, z, rfl, q1, q2, q3⟩
  case block id c => obtain ⟨_, _, h⟩ := bindSome h; cases h
  case loop c => obtain ⟨_, _, h⟩ := bindSome h; cases h
  case exit id => cases h
  case ret => cases h
theorem inv_skip {c : Code} (h : compCode P c = some .skip) : c = .skip := by
  cases c <;> simp only [compCode, bind, reduceCtorEq] at h
  case skip => rfl
  case region id ops draw =>
    obtain ⟨xs, _, h⟩ := bindSome h
    split at h
    · split at h <;> cases h
    · cases h
  case seq x y =>
    obtain ⟨xa, hxa, h⟩ := bindSome h
    obtain ⟨xb, hxb, h⟩ := bindSome h
    simp only [Option.some.injEq] at h
    rcases fuse_seq_or xa xb with q | ⟨_, _, _, _, _, _, _, _, _, _, q⟩
    · rw [q] at h; cases h
    · rw [q] at h; cases h
  case cond c y z =>
    obtain ⟨_, q1, h⟩ := bindSome h
    obtain ⟨_, q2, h⟩ := bindSome h
    obtain ⟨_, q3, h⟩ := bindSome h
    cases h
  case block id c => obtain ⟨_, _, h⟩ := bindSome h; cases h
  case loop c => obtain ⟨_, _, h⟩ := bindSome h; cases h
  case exit id => cases h
  case ret => cases h
theorem inv_exit {c : Code} {i : Nat} (h : compCode P c = some (.exit i)) : c = .exit i := by
  cases c <;> simp only [compCode, bind, reduceCtorEq] at h
  case skip => cases h
  case region id ops draw =>
    obtain ⟨xs, _, h⟩ := bindSome h
    split at h
    · split at h <;> cases h
    · cases h
  case seq x y =>
    obtain ⟨xa, hxa, h⟩ := bindSome h
    obtain ⟨xb, hxb, h⟩ := bindSome h
    simp only [Option.some.injEq] at h
    rcases fuse_seq_or xa xb with q | ⟨_, _, _, _, _, _, _, _, _, _, q⟩
    · rw [q] at h; cases h
    · rw [q] at h; cases h
  case cond c y z =>
    obtain ⟨_, q1, h⟩ := bindSome h
    obtain ⟨_, q2, h⟩ := bindSome h
    obtain ⟨_, q3, h⟩ := bindSome h
    cases h
  case block id c => obtain ⟨_, _, h⟩ := bindSome h; cases h
  case loop c => obtain ⟨_, _, h⟩ := bindSome h; cases h
  case exit id => cases h; rfl
  case ret => cases h
theorem inv_range {c : Code} {out mo nb : Nat} {e1 e2 : XOper} {rest : List XOper} {code : XCode} (h : compCode P c = some (.block out (.loop (.seq (.reg [e1, e2]) (.seq (.cond (.t mo) .skip (.exit out)) (.block nb (.seq (.reg rest) code))))))) :
    ∃ id1 ops1 id2 ops2 cm c', c = .block out (.loop (.seq (.region id1 ops1 false) (.seq (.cond cm .skip (.exit out)) (.block nb (.seq (.region id2 ops2 false) c'))))) ∧ ops1.toList.mapM (compOper P ops1) = some [e1, e2] ∧ ops2.toList.mapM (compOper P ops2) = some rest ∧ xo cm = some (.t mo) ∧ compCode P c' = some code := by
  obtain ⟨y1, rfl, hy1⟩ := inv_block h
  obtain ⟨y2, rfl, hy2⟩ := inv_loop hy1
  obtain ⟨y3, y4, rfl, hy3, hy4⟩ := inv_seq hy2
  obtain ⟨id1, ops1, rfl, h1⟩ := inv_reg hy3
  obtain ⟨y5, y6, rfl, hy5, hy6⟩ := inv_seq hy4
  obtain ⟨cm, y7, y8, rfl, hcm, hy7, hy8⟩ := inv_cond hy5
  obtain rfl := inv_skip hy7
  obtain rfl := inv_exit hy8
  obtain ⟨y9, rfl, hy9⟩ := inv_block hy6
  obtain ⟨y10, c', rfl, hy10, hy11⟩ := inv_seq hy9
  obtain ⟨id2, ops2, rfl, h2⟩ := inv_reg hy10
  exact ⟨id1, ops1, id2, ops2, cm, c', rfl, h1, h2, hcm, hy11⟩
def Env.lock (E : Env) (t b : Nat) (x : Array MapEntry × Nat) : Env := ⟨fun j => if j = t then some ⟨b, 0, 0⟩ else E.ρ j, E.I, fun j => if j = t then some x else E.lk j⟩
theorem lock_ext {E : Env} {H : AHeap} {w : World} (hR : Rel E H w) {o : Obj} {x : Array MapEntry × Nat} : Env.Ext E (E.lock H.next w.heap.size x) w (w.alloc o) := by
  have hn : E.ρ H.next = none := by
    cases h : E.ρ H.next with
    | none => rfl
    | some L => exact absurd (hR.dom _ _ h).1 (Nat.lt_irrefl _)
  refine ⟨fun j L h => ?_, fun _ h => h, fun b hb => ?_, fun j y hj h => ?_⟩
  · simp only [Env.lock]
    rw [if_neg (fun e => by rw [e, hn] at h; cases h)]
    exact h
  · have := hR.imm b hb
    rw [alloc_heap, if_neg (by omega)]
  · simp only [Env.lock]
    rw [if_neg (fun e => hj (by rw [e]; exact hn))]
    exact h
theorem lock_step {E : Env} {H H2 : AHeap} {w : World} (hR : Rel E H w) {o : Obj} {x : Array MapEntry × Nat} (hnx : H2.next = H.next + 1)
    (hobj : ∀ j p, H2.get j = some p → ∃ q, H.get j = some q ∧ ∀ L, E.ρ j = some L → ObjR E w L q → ObjR (E.lock H.next w.heap.size x) (w.alloc o) L p) : Step E H w (E.lock H.next w.heap.size x) H2 (w.alloc o) := by
  have hn : E.ρ H.next = none := by
    cases h : E.ρ H.next with
    | none => rfl
    | some L => exact absurd (hR.dom _ _ h).1 (Nat.lt_irrefl _)
  have hext := lock_ext (o := o) (x := x) hR
  have hsz : (w.alloc o).heap.size = w.heap.size + 1 := by simp
  have hold : ∀ j p L, H2.get j = some p → (E.lock H.next w.heap.size x).ρ j = some L → E.ρ j = some L := by
    intro j p L hg hρ
    obtain ⟨q, hq, _⟩ := hobj j p hg
    obtain ⟨L', h1, _⟩ := hR.obj j q hq
    have h2 := hext.ρ j L' h1
    rw [hρ] at h2
    cases h2
    exact h1
  refine ⟨hext, ⟨fun j L hj => ?_, fun b hb => ?_, fun j p hg => ?_, fun j k p p' L L' hj hk hρ hρ' hne => ?_⟩, ⟨rfl, rfl, rfl, by omega, fun b hb _ => by rw [alloc_heap, if_neg (by omega)]⟩, fun j p L hg hρ => ?_, by omega, fun j L h => ?_, fun b h => .inl h⟩
  · simp only [Env.lock] at hj
    split at hj
    · rename_i e
      cases hj
      exact ⟨by omega, by simp⟩
    · have := hR.dom j L hj
      exact ⟨by omega, by omega⟩
  · have := hR.imm b hb
    omega
  · obtain ⟨q, hq, hh⟩ := hobj j p hg
    obtain ⟨L, h1, h2, h3⟩ := hR.obj j q hq
    exact ⟨L, hext.ρ j L h1, hh L h1 h2, h3⟩
  · obtain ⟨q, hq, _⟩ := hobj j p hj
    obtain ⟨q', hq', _⟩ := hobj k p' hk
    exact hR.inj j k q q' L L' hq hq' (hold j p L hj hρ) (hold k p' L' hk hρ') hne
  · obtain ⟨q, hq, _⟩ := hobj j p hg
    exact .inr ⟨j, q, L, hq, hold j p L hg hρ, rfl⟩
  · simp only [Env.lock] at h
    split at h
    · rename_i e; exact .inr (by omega)
    · exact .inl h
theorem Step.unlock {E E' : Env} {H H' : AHeap} {w w' : World} (h : Step E H w E' H' w') {i t : Nat} {es : List (AV × AV)} (hg : H'.get i = some (.lmap es t)) : Step E H w E' (H'.set i (some (.map es))) w' := by
  have old : ∀ j p, (H'.set i (some (.map es))).get j = some p → ∃ q, H'.get j = some q := by
    intro j p hj
    rw [AHeap.get_set] at hj
    split at hj
    · rename_i e; subst e; exact ⟨_, hg⟩
    · exact ⟨p, hj⟩
  refine ⟨h.ext, ⟨h.rel.dom, h.rel.imm, fun j p hj => ?_, fun j k p p' L L' hj hk hρ hρ' hne => ?_⟩, h.fr, fun j p L hj hρ => ?_, h.nx, h.ids, h.imm⟩
  · rw [AHeap.get_set] at hj
    split at hj
    · rename_i e
      subst e
      cases hj
      obtain ⟨L, q1, ⟨rows, clock, q2, q3, _⟩, q4⟩ := h.rel.obj _ _ hg
      exact ⟨L, q1, ⟨rows, clock, q2, q3⟩, q4⟩
    · exact h.rel.obj j p hj
  · obtain ⟨q, hq⟩ := old j p hj
    obtain ⟨q', hq'⟩ := old k p' hk
    exact h.rel.inj j k q q' L L' hq hq' hρ hρ' hne
  · obtain ⟨q, hq⟩ := old j p hj
    exact h.nb j q L hq hρ
theorem EntR.zip {E : Env} {w : World} : ∀ {es : List (AV × AV)} {rows : List MapEntry}, EntR E w es rows → (es.zip rows).map (·.2) = rows ∧ (es.zip rows).map (·.1) = es ∧ ∀ z ∈ es.zip rows, AVRel E w z.1.1 z.2.key ∧ AVRel E w z.1.2 z.2.val
  | [], rows, h => by
    simp only [EntR] at h
    subst h
    simp
  | (k, v) :: es, rows, h => by
    simp only [EntR] at h
    obtain ⟨e, rows', rfl, h1, h2, h3⟩ := h
    obtain ⟨q1, q2, q3⟩ := EntR.zip h3
    simp only [List.zip_cons_cons, List.map_cons]
    refine ⟨by rw [q1], by rw [q2], fun z hz => ?_⟩
    rcases List.mem_cons.1 hz with rfl | hz
    · exact ⟨h1, h2⟩
    · exact q3 z hz
set_option maxHeartbeats 2000000 in
theorem mrange_sound {cf : CF} (hcf : CFok P cf) {fuel nt : Nat} {c' : Code} {code : XCode} (hbody : ∀ s e s', xcode cf fuel code s = some (e, s') → CodeOK P c' nt s e s')
    {out nb nx mo it pr id0 id1 id2 : Nat} {m : XO} {ops0 ops1 ops2 : Array Oper} {pre rest : List XOper} {cm : Operand}
    (h0 : ops0.toList.mapM (compOper P ops0) = some (pre ++ [⟨some it, .rng m, none⟩]))
    (h1 : ops1.toList.mapM (compOper P ops1) = some [⟨some nx, .nxt (.t it), none⟩, ⟨some mo, .ext (.t nx) 0, none⟩])
    (h2 : ops2.toList.mapM (compOper P ops2) = some (⟨some pr, .ent (.t it), none⟩ :: rest)) (hcm : xo cm = some (.t mo))
    (hroom : XCode.room nt (.mrange pre it m out nx mo nb pr rest code) = true) (n1 : nx ≠ it) (n2 : mo ≠ it) (n3 : nx ≠ mo)
    {s s' : St} {e : XE} (h : xcode cf fuel (.mrange pre it m out nx mo nb pr rest code) s = some (e, s')) :
    CodeOK P (.seq (.region id0 ops0 false) (.block out (.loop (.seq (.region id1 ops1 false) (.seq (.cond cm .skip (.exit out)) (.block nb (.seq (.region id2 ops2 false) c'))))))) nt s e s' := by
  intro E w a hsz hR hT Q hQ
  simp only [XCode.room, Bool.and_eq_true, List.all_eq_true, Nat.blt_eq] at hroom
  obtain ⟨⟨⟨⟨⟨⟨hpre, hrest⟩, hit⟩, hnx⟩, hmo⟩, hpr⟩, _⟩ := hroom
  obtain ⟨l0, g0⟩ := mapM_get h0
  have hr0 : List.range ops0.size = List.range' 0 pre.length ++ [pre.length] := by
    have : ops0.size = pre.length + 1 := by simpa using l0.symm
    rw [this, List.range_eq_range', List.range'_1_concat]
    simp
  simp only [xcode] at h
  split at h
  · cases h
  · rename_i s1 hs1
    refine wp_seq (wp_region ?_)
    rw [hr0]
    refine ops_sound_k hcf (base := s.H.next) pre 0 (bump s (pre.length + 1)) s1 E w a (fun k x hk => ?_) (fun x hx => by rw [hsz]; exact hpre x hx) hs1 (rel_bump (tm := s.tm) _ hR) hT (fun k _ _ => ?_) (by show s.H.next + 0 + pre.length ≤ s.H.next + (pre.length + 1); omega) (fun E1 a1 w1 r1 r2 r3 r4 _ => ?_)
    · obtain ⟨o, q1, q2⟩ := g0 k x (by
        rw [List.getElem?_append_left (by
          rcases Nat.lt_or_ge k pre.length with q | q
          · exact q
          · rw [List.getElem?_eq_none q] at hk; cases hk)]
        exact hk)
      exact ⟨o, by simpa using q1, q2⟩
    · cases hq : E.ρ (s.H.next + k) with
      | none => rfl
      | some L => have := (hR.dom _ L hq).1; omega
    · have st1 : Step E s.H w E1 s1.H w1 := rstep_step (tm := s.tm) r1
      obtain ⟨o0, ho0, hc0⟩ := g0 pre.length ⟨some it, .rng m, none⟩ (by simp)
      rw [Array.getElem?_toList] at ho0
      obtain ⟨t, x, kt, et, hop, hx, hu⟩ : ∃ t x k e, o0.op = .range t x ∧ xo x = some m ∧ P.underlying t = some (.map k e) := by
        rcases comp_rng (compOper_inv hc0).1 rfl with ⟨t, x, m', k, e, q1, q2, q3, q4⟩ | ⟨_, _, _, _, q⟩ | ⟨_, _, _, _, q⟩
        · cases q3; exact ⟨t, x, k, e, q1, q2, q4⟩
        · cases q
        · cases q
      split at h
      · rename_i i hm
        have hmv := ev_rel r2 hx hm
        simp only [AVRel] at hmv
        obtain ⟨L, hρ, hmv⟩ := hmv
        -- what both kinds of maps share
        have main : ∀ (es : List (AV × AV)) (rows : Array MapEntry) (clock tl : Nat) (H2 : AHeap) (r0 : XE × St), w1.heap[L.b]? = some (.map rows clock) → MapR E1 w1 es rows clock → H2.next = s1.H.next + 1 →
            (∀ j p, H2.get j = some p → ∃ q, s1.H.get j = some q ∧ ∀ L', E1.ρ j = some L' → ObjR E1 w1 L' q → ObjR (E1.lock s1.H.next w1.heap.size (rows, clock)) (w1.alloc (.mapIter (some L.b) clock #[] clock)) L' p) →
            (E1.lock s1.H.next w1.heap.size (rows, clock)).ρ tl ≠ none → (E1.lock s1.H.next w1.heap.size (rows, clock)).lk tl = some (rows, clock) →
            mrounds i it s1.H.next tl nx mo out (mrnd cf fuel nx mo pr nb rest code) es ⟨s1.tm.set it (some (.ptr s1.H.next 0)), H2⟩ = some r0 →
            (∀ E' a' w', Step E s.H w E' r0.2.H w' → TmR E' w' r0.2.tm a'.tmps → a'.defers = a.defers → a'.tmps.size = nt → Q (exOf r0.1) a' w') →
            wpOps P ops0 (Exit.then ((Code.block out (.loop (.seq (.region id1 ops1 false) (.seq (.cond cm .skip (.exit out)) (.block nb (.seq (.region id2 ops2 false) c')))))).wp P Q) Q) [pre.length] a1 w1 := by
          intro es rows clock tl H2 r0 hb hM hnx2 hobj hρl hlk hrs hfin
          obtain ⟨es0, hE0, hp, _⟩ := hM
          obtain ⟨z1, z2, z3⟩ := hE0.zip
          rw [wpOps_cons]
          refine wpOp_val ho0 hc0 rfl (w' := w1.alloc (.mapIter (some L.b) clock #[] clock)) (u := .pointer (some ⟨w1.heap.size, 0, none⟩)) ?_ ?_
          · simp only [execOp, hop, hmv]
            exact execV (run_range_map w1 t kt et L.b rows clock hu hb)
          · have st2 := lock_step (x := (rows, clock)) (o := .mapIter (some L.b) clock #[] clock) r1.rel hnx2 hobj
            have hmem := meetAll_fits hrs
            have hn : E1.ρ s1.H.next = none := by
              cases h : E1.ρ s1.H.next with
              | none => rfl
              | some L => exact absurd (r1.rel.dom _ _ h).1 (Nat.lt_irrefl _)
            have hT2 : TmR (E1.lock s1.H.next w1.heap.size (rows, clock)) (w1.alloc (.mapIter (some L.b) clock #[] clock)) (s1.tm.set it (some (.ptr s1.H.next 0))) (a1.put (some it) (.pointer (some ⟨w1.heap.size, 0, none⟩))).tmps :=
              TmR.put (dst := some it) (r2.mono st2.ext) (by simp only [AVRel]; exact ⟨⟨w1.heap.size, 0, 0⟩, by simp [Env.lock], rfl⟩) (fun d hd => by cases hd; rw [r4, hsz]; exact hit)
            simp only [wpOps, Exit.then]
            refine wp_block (wp_loop_rounds (es0.length + 1) ?_)
            refine mloop hcf hbody h1 h2 hcm hnx hmo hpr hrest n1 n2 n3 (E1 := E1) (H1 := s1.H) (w1 := w1) (i := i) (t := s1.H.next) (tl := tl) (r := w1.heap.size) (L := L) (rows := rows) (clock := clock) (d0 := a.defers) (Q := Q) (eF := r0.1) (sF := r0.2)
              (es0.zip rows.toList) z1 z3 (fun E' a' w' q1 q2 q3 q4 => hfin E' a' w' (st1.trans q1) q2 q3 q4) es0.length #[] ⟨s1.tm.set it (some (.ptr s1.H.next 0)), H2⟩ (E1.lock s1.H.next w1.heap.size (rows, clock)) (w1.alloc (.mapIter (some L.b) clock #[] clock)) (a1.put (some it) (.pointer (some ⟨w1.heap.size, 0, none⟩))) ?_ ?_ hT2 ?_ ?_ (fun p hp' => ?_)
            · have : (es0.zip rows.toList).filter (fun z => !(#[] : Array Nat).contains z.2.born) = es0.zip rows.toList := List.filter_eq_self.2 (fun _ _ => by simp)
              rw [this, ← z2, List.length_map, z2]
            · refine ⟨st2, by simp [Env.lock], st2.ext.ρ _ _ hρ, hρl, hlk, fun j p L' hg hρ' e => ?_, fun hI => ?_, Nat.le_refl _, by simp, ?_⟩
              · obtain ⟨q, hq, _⟩ := hobj j p hg
                obtain ⟨L'', q1, _⟩ := r1.rel.obj j q hq
                have q2 := st2.ext.ρ _ _ q1
                rw [hρ'] at q2
                cases q2
                have := (r1.rel.dom j L' q1).2
                omega
              · have := r1.rel.imm _ hI
                omega
              · rw [alloc_heap, if_pos rfl]
            · rw [put_defers]; exact r3
            · rw [put_size, r4]; exact hsz
            · have : (es0.zip rows.toList).filter (fun z => !(#[] : Array Nat).contains z.2.born) = es0.zip rows.toList := List.filter_eq_self.2 (fun _ _ => by simp)
              rw [this, z2] at hp'
              exact hmem _ (List.mem_map.2 ⟨p, perms_mem (hp'.trans hp), rfl⟩)
        have hlkn : ∀ y, (E1.lock s1.H.next w1.heap.size y).lk s1.H.next = some y := fun y => by simp [Env.lock]
        have hlkr : ∀ y, (E1.lock s1.H.next w1.heap.size y).ρ s1.H.next ≠ none := fun y => by simp [Env.lock]
        split at h
        · rename_i es hg
          obtain ⟨r0, hr0', hun⟩ := bindSome h
          obtain ⟨L', q1, ⟨rows, clock, q2, q3⟩, _⟩ := r1.rel.obj _ _ hg
          rw [hρ] at q1
          cases q1
          have hob : ∀ j p, (⟨s1.H.m.set i (some (.lmap es s1.H.next)), s1.H.next + 1⟩ : AHeap).get j = some p → ∃ q, s1.H.get j = some q ∧ ∀ L', E1.ρ j = some L' → ObjR E1 w1 L' q → ObjR (E1.lock s1.H.next w1.heap.size (rows, clock)) (w1.alloc (.mapIter (some L.b) clock #[] clock)) L' p := by
            intro j p hj
            have hext := lock_ext (o := .mapIter (some L.b) clock #[] clock) (x := (rows, clock)) r1.rel
            have hj' : (if j = i then some (AObj.lmap es s1.H.next) else s1.H.get j) = some p := (Tr.get_set _ _ _ _).symm.trans hj
            have hal : ∀ L' : Loc, E1.ρ j = some L' → (w1.alloc (.mapIter (some L.b) clock #[] clock)).heap[L'.b]? = w1.heap[L'.b]? := fun L' q => by
              have := (r1.rel.dom j L' q).2
              rw [alloc_heap, if_neg (by omega)]
            split at hj'
            · rename_i e
              subst e
              cases hj'
              refine ⟨_, hg, fun L' q4 q5 => ?_⟩
              rw [hρ] at q4
              cases q4
              exact ⟨rows, clock, (hal L hρ).trans q2, q3.mono hext, hlkr _, hlkn _⟩
            · exact ⟨p, hj', fun L' q4 q5 => ObjR.mono hext (hal L' q4) q5⟩
          refine main es rows clock s1.H.next _ r0 q2 q3 rfl hob (hlkr _) (hlkn _) hr0' (fun E' a' w' q4 q5 q6 q7 => ?_)
          unfold unlockA at hun
          split at hun
          · rename_i es' t' hg'
            split at hun
            · rename_i ht
              cases hun
              exact hQ E' a' w' (q4.unlock hg') q5 q6 q7
            · cases hun
          · cases hun
        · rename_i es tl hg
          obtain ⟨L', q1, ⟨rows, clock, q2, q3, q8, q9⟩, _⟩ := r1.rel.obj _ _ hg
          rw [hρ] at q1
          cases q1
          have hext := lock_ext (o := .mapIter (some L.b) clock #[] clock) (x := (rows, clock)) r1.rel
          refine main es rows clock tl ⟨s1.H.m, s1.H.next + 1⟩ (e, s') q2 q3 rfl (fun j p hj => ⟨p, hj, fun L' q4 q5 => ObjR.mono hext (by
            have := (r1.rel.dom j L' q4).2
            rw [alloc_heap, if_neg (by omega)]) q5⟩) (hext.dom q8) (hext.lk _ _ q8 q9) h (fun E' a' w' q4 q5 q6 q7 => hQ E' a' w' q4 q5 q6 q7)
        · cases h
      · cases h
end Go.Eng
end
section
namespace Go.Eng
variable {P : Program}
section
variable {cf : CF}
theorem loop_sound {c : Code} {nt : Nat} {body : St → Option (XE × St)} (hb : ∀ s e s', body s = some (e, s') → CodeOK P c nt s e s') : ∀ (k : Nat) (s : St) (e : XE) (s' : St), loopF body k s = some (e, s') →
    ∀ (E : Env) (w : World) (a : Act), a.tmps.size = nt → Rel E s.H w → TmR E w s.tm a.tmps → ∀ Q : Exit → Act → World → Prop,
    (∀ E' a' w', Step E s.H w E' s'.H w' → TmR E' w' s'.tm a'.tmps → a'.defers = a.defers → a'.tmps.size = nt → Q (exOf e) a' w') → Code.rounds P c Q k a w
  | 0, s, e, s', h => by cases h
  | k + 1, s, e, s', h => by
    intro E w a hsz hR hT Q hQ
    rw [rounds_succ]
    simp only [loopF] at h
    split at h
    · rename_i s1 hs1
      refine hb s _ s1 hs1 E w a hsz hR hT _ (fun E1 a1 w1 h1 h2 h3 h4 => ?_)
      exact loop_sound hb k s1 e s' h E1 w1 a1 h4 h1.rel h2 Q (fun E' a' w' q1 q2 q3 q4 => hQ E' a' w' (h1.trans q1) q2 (q3.trans h3) q4)
    · rename_i r hne
      refine hb s e s' h E w a hsz hR hT _ (fun E1 a1 w1 h1 h2 h3 h4 => ?_)
      cases e with
      | normal => exact absurd h (hne _)
      | exit id => exact hQ E1 a1 w1 h1 h2 h3 h4
      | ret => exact hQ E1 a1 w1 h1 h2 h3 h4
theorem code_sound (hmix : P.follows .mixedOrders = true) (hcf : CFok P cf) (fuel nt : Nat) : ∀ (c : Code) (xc : XCode), compCode P c = some xc → xc.room nt = true → ∀ (s : St) (e : XE) (s' : St), xcode cf fuel xc s = some (e, s') → CodeOK P c nt s e s'
  | .skip, xc, hc, hr, s, e, s', h => by
    simp only [compCode, Option.some.injEq] at hc
    subst hc
    simp only [xcode, Option.some.injEq, Prod.mk.injEq] at h
    obtain ⟨rfl, rfl⟩ := h
    intro E w a hsz hR hT Q hQ
    exact wp_skip (hQ E a w (Step.refl hR) hT rfl hsz)
  | .region id ops draw, xc, hc, hr, s, e, s', h => by
    intro E w a hsz hR hT Q hQ
    simp only [compCode, bind] at hc
    obtain ⟨xs, hxs, hc⟩ := bindSome hc
    have hb : (bump s xs.length).H.next = s.H.next + xs.length := rfl
    have hRb : Rel E (bump s xs.length).H w := ⟨fun i L hi => by
      have := hR.dom i L hi
      rw [hb]
      exact ⟨by omega, this.2⟩, hR.imm, hR.obj, hR.inj⟩
    obtain ⟨l1, l2⟩ := mapM_get hxs
    cases draw with
    | true =>
      simp only [if_true] at hc
      split at hc
      · rename_i hok
        cases hc
        simp only [xcode] at h
        obtain ⟨s1, hs1, he⟩ := Option.map_eq_some_iff.1 h
        cases he
        simp only [XCode.room, List.all_eq_true] at hr
        refine regd_sound hmix hcf hxs hok hs1 (fun x hx => by rw [hsz]; exact hr x hx) hR hT (fun E' a' w' q1 q2 q3 q4 => hQ E' a' w' q1 q2 q3 (q4.trans hsz))
      · cases hc
    | false =>
      simp only [Bool.false_eq_true, if_false] at hc
      cases hc
      simp only [xcode] at h
      obtain ⟨s1, hs1, he⟩ := Option.map_eq_some_iff.1 h
      cases he
      simp only [XCode.room, List.all_eq_true] at hr
      refine wp_region ?_
      have hlen : ops.size = xs.length := by rw [l1]; simp
      rw [List.range_eq_range', hlen]
      refine ops_sound hcf (base := s.H.next) xs 0 (bump s xs.length) s' E w a (fun k x hk => ?_) (fun x hx => by rw [hsz]; exact hr x hx) hs1 hRb hT (fun k _ _ => ?_) (by rw [hb]; omega) (fun E' a' w' r1 r2 r3 r4 => ?_)
      · obtain ⟨o, q1, q2⟩ := l2 k x hk
        exact ⟨o, by simpa using q1, q2⟩
      · cases hq : E.ρ (s.H.next + k) with
        | none => rfl
        | some L => have := (hR.dom _ L hq).1; omega
      · refine hQ E' a' w' ⟨r1.ext, r1.rel, ⟨r1.fr.os, r1.fr.tape, r1.fr.output, r1.fr.size, r1.fr.block⟩, r1.nb, ?_, r1.ids, r1.imm⟩ r2 r3 (r4.trans hsz)
        have := r1.nx
        rw [hb] at this
        omega
  | .seq x y, xc, hc, hr, s, e, s', h => by
    intro E w a hsz hR hT Q hQ
    simp only [compCode, bind] at hc
    obtain ⟨xa, hxa, hc⟩ := bindSome hc
    obtain ⟨xb, hxb, hc⟩ := bindSome hc
    simp only [Option.some.injEq] at hc
    rcases fuse_seq_or xa xb with hf | ⟨pre, it, m, out, nx, mo, nb, pr, rest, code, hf⟩
    · rw [hf] at hc
      subst hc
      simp only [XCode.room, Bool.and_eq_true] at hr
      simp only [xcode] at h
      refine wp_seq ?_
      split at h
      · rename_i s1 hs1
        refine code_sound hmix hcf fuel nt x xa hxa hr.1 s _ s1 hs1 E w a hsz hR hT _ (fun E1 a1 w1 h1 h2 h3 h4 => ?_)
        exact code_sound hmix hcf fuel nt y xb hxb hr.2 s1 e s' h E1 w1 a1 h4 h1.rel h2 Q (fun E' a' w' q1 q2 q3 q4 => hQ E' a' w' (h1.trans q1) q2 (q3.trans h3) q4)
      · rename_i r hne
        refine code_sound hmix hcf fuel nt x xa hxa hr.1 s e s' h E w a hsz hR hT _ (fun E1 a1 w1 h1 h2 h3 h4 => ?_)
        cases e with
        | normal => exact absurd h (hne _)
        | exit id => exact hQ E1 a1 w1 h1 h2 h3 h4
        | ret => exact hQ E1 a1 w1 h1 h2 h3 h4
    · rw [hf] at hc
      subst hc
      obtain ⟨ea, eb, n1, n2, n3, _, _⟩ := fuse_spec hf
      rw [ea] at hxa
      rw [eb] at hxb
      obtain ⟨id0, ops0, ex, h0⟩ := inv_reg hxa
      obtain ⟨id1, ops1, id2, ops2, cm, c', ey, h1, h2, hcm, hc'⟩ := inv_range hxb
      have hrc : code.room nt = true := by
        simp only [XCode.room, Bool.and_eq_true] at hr
        exact hr.2
      have hlt : SizeOf.sizeOf c' < SizeOf.sizeOf (Code.seq x y) := by
        rw [ey]
        simp only [Code.seq.sizeOf_spec, Code.block.sizeOf_spec, Code.loop.sizeOf_spec]
        omega
      have hcs : ∀ s e s', xcode cf fuel code s = some (e, s') → CodeOK P c' nt s e s' := fun s e s' hs => code_sound hmix hcf fuel nt c' code hc' hrc s e s' hs
      rw [ex, ey]
      exact mrange_sound hcf hcs h0 h1 h2 hcm hr n1 n2 n3 h E w a hsz hR hT Q hQ
  | .cond c x y, xc, hc, hr, s, e, s', h => by
    intro E w a hsz hR hT Q hQ
    simp only [compCode, bind] at hc
    obtain ⟨c', hc', hc⟩ := bindSome hc
    obtain ⟨xa, hxa, hc⟩ := bindSome hc
    obtain ⟨xb, hxb, hc⟩ := bindSome hc
    cases hc
    simp only [XCode.room, Bool.and_eq_true] at hr
    simp only [xcode] at h
    split at h
    · rename_i hv
      exact wp_cond_true (ev_rel hT hc' hv).bool_inv (code_sound hmix hcf fuel nt x xa hxa hr.1 s e s' h E w a hsz hR hT Q hQ)
    · rename_i hv
      exact wp_cond_false (ev_rel hT hc' hv).bool_inv (code_sound hmix hcf fuel nt y xb hxb hr.2 s e s' h E w a hsz hR hT Q hQ)
    · cases h
  | .block id c, xc, hc, hr, s, e, s', h => by
    intro E w a hsz hR hT Q hQ
    simp only [compCode, bind] at hc
    obtain ⟨xa, hxa, hc⟩ := bindSome hc
    cases hc
    simp only [XCode.room] at hr
    simp only [xcode] at h
    refine wp_block ?_
    split at h
    · rename_i i s1 hs1
      refine code_sound hmix hcf fuel nt c xa hxa hr s _ s1 hs1 E w a hsz hR hT _ (fun E1 a1 w1 h1 h2 h3 h4 => ?_)
      split at h
      · rename_i hid
        cases h
        simp only [exOf, Exit.inBlock, hid, if_true]
        exact hQ E1 a1 w1 h1 h2 h3 h4
      · rename_i hid
        cases h
        simp only [exOf, Exit.inBlock, hid, if_false]
        exact hQ E1 a1 w1 h1 h2 h3 h4
    · rename_i r hne
      refine code_sound hmix hcf fuel nt c xa hxa hr s e s' h E w a hsz hR hT _ (fun E1 a1 w1 h1 h2 h3 h4 => ?_)
      cases e with
      | normal => exact hQ E1 a1 w1 h1 h2 h3 h4
      | exit i => exact absurd h (hne _ _)
      | ret => exact hQ E1 a1 w1 h1 h2 h3 h4
  | .loop c, xc, hc, hr, s, e, s', h => by
    intro E w a hsz hR hT Q hQ
    simp only [compCode, bind] at hc
    obtain ⟨xa, hxa, hc⟩ := bindSome hc
    cases hc
    simp only [XCode.room] at hr
    simp only [xcode] at h
    exact wp_loop_rounds fuel (loop_sound (fun s e s' hs => code_sound hmix hcf fuel nt c xa hxa hr s e s' hs) fuel s e s' h E w a hsz hR hT Q hQ)
  | .exit id, xc, hc, hr, s, e, s', h => by
    simp only [compCode, Option.some.injEq] at hc
    subst hc
    simp only [xcode, Option.some.injEq, Prod.mk.injEq] at h
    obtain ⟨rfl, rfl⟩ := h
    intro E w a hsz hR hT Q hQ
    exact wp_exit (hQ E a w (Step.refl hR) hT rfl hsz)
  | .ret, xc, hc, hr, s, e, s', h => by
    simp only [compCode, Option.some.injEq] at hc
    subst hc
    simp only [xcode, Option.some.injEq, Prod.mk.injEq] at h
    obtain ⟨rfl, rfl⟩ := h
    intro E w a hsz hR hT Q hQ
    exact wp_ret (hQ E a w (Step.refl hR) hT rfl hsz)
  | .rangeFunc .., xc, hc, _, _, _, _, _ => by simp [compCode] at hc
  | .scope _, xc, hc, _, _, _, _, _ => by simp [compCode] at hc
  | .label _, xc, hc, _, _, _, _, _ => by simp [compCode] at hc
  | .goto _, xc, hc, _, _, _, _, _ => by simp [compCode] at hc
  | .refuse _, xc, hc, _, _, _, _, _ => by simp [compCode] at hc
termination_by c => SizeOf.sizeOf c
decreasing_by all_goals (first | exact hlt | (simp_wf; omega) | (simp_wf; done))
theorem argsT_get : ∀ (l : List AV) (n : Nat) (t : Tr AV) (i : Nat), (argsT l n t).get i = if n ≤ i ∧ i < n + l.length then l[i - n]? else t.get i
  | [], n, t, i => by
    simp only [argsT, List.length_nil, Nat.add_zero]
    rw [if_neg (by omega)]
  | x :: l, n, t, i => by
    simp only [argsT, List.length_cons]
    rw [argsT_get l (n + 1)]
    by_cases h : n + 1 ≤ i ∧ i < n + 1 + l.length
    · rw [if_pos h, if_pos (by omega), show i - n = (i - (n + 1)) + 1 by omega, List.getElem?_cons_succ]
    · rw [if_neg h, Tr.get_set]
      by_cases e : i = n
      · subst e
        rw [if_pos rfl, if_pos (by omega)]
        simp
      · rw [if_neg e, if_neg (by omega)]
theorem cell_result {E : Env} {w : World} {H : AHeap} (hR : Rel E H w) {t : TypeId} {n : Option Nat} (hs : shapeOf P t = some n) {x r : AV} {u : Value} (hx : AVRel E w x u) (h : loadA H n x = some r) :
    ∃ q, (do loadVar t (← asAddr u) : Sem Value).run P w = .ok q w ∧ AVRel E w r q := by
  obtain ⟨q, h1, h2⟩ := load_sound hR hs hx h
  refine ⟨q, ?_, h2⟩
  have : ∃ a, u = .pointer (some a) := by
    unfold loadA at h
    split at h
    · cases h
    · rename_i c hc
      obtain ⟨b, o, us, rfl, _⟩ := cellsAt_sound hR hc hx
      exact ⟨_, rfl⟩
  obtain ⟨a, rfl⟩ := this
  exact h1
def resM (tmps : Array Value) : ResultVar → Sem Value
  | .tmp t => pure (tmps.getD t undef)
  | .cell a t => do loadVar t (← asAddr (tmps.getD a undef))
theorem results_eq (fn : Func) (tmps : Array Value) : results fn tmps = (do
    let vs ← fn.results.mapM (resM tmps)
    pure (if h : vs.size = 1 then vs[0] else .tuple vs)) := by
  rfl
theorem res_sound {E : Env} {w : World} {s : St} (hR : Rel E s.H w) {tmps : Array Value} (hT : TmR E w s.tm tmps) : ∀ {rs : List ResultVar} {xr : List XRes} {l : List AV}, rs.mapM (compRes P) = some xr → resL s xr = some l →
    ∃ vs, (rs.mapM (resM tmps)).run P w = .ok vs w ∧ AVRelL E w l vs
  | [], xr, l, h, h' => by
    simp at h
    subst h
    simp only [resL, Option.some.injEq] at h'
    subst h'
    exact ⟨[], by simp, by simp [AVRelL]⟩
  | r :: rs, xr, l, h, h' => by
    rw [List.mapM_cons] at h
    simp only [bind] at h
    obtain ⟨y, hy, h⟩ := bindSome h
    obtain ⟨ys, hys, h⟩ := bindSome h
    cases h
    simp only [resL, bind] at h'
    obtain ⟨x, hx, h'⟩ := bindSome h'
    obtain ⟨xs, hxs, h'⟩ := bindSome h'
    cases h'
    obtain ⟨vs, q1, q2⟩ := res_sound hR hT hys hxs
    have hone : ∃ v, (resM tmps r).run P w = .ok v w ∧ AVRel E w x v := by
      cases r with
      | tmp t =>
        simp only [compRes, Option.some.injEq] at hy
        subst hy
        simp only [resA] at hx
        obtain ⟨u, hu1, hu2⟩ := hT t x hx
        refine ⟨u, ?_, hu2⟩
        simp [resM, Array.getD_eq_getD_getElem?, hu1]
      | cell a t =>
        simp only [compRes, bind] at hy
        obtain ⟨n, hn, hy⟩ := bindSome hy
        cases hy
        simp only [resA] at hx
        obtain ⟨p, hp, hx⟩ := bindSome hx
        obtain ⟨u, hu1, hu2⟩ := hT a p hp
        obtain ⟨q, h1, h2⟩ := cell_result hR hn hu2 hx
        refine ⟨q, ?_, h2⟩
        have : tmps.getD a undef = u := by simp [Array.getD_eq_getD_getElem?, hu1]
        simp only [resM, this]
        exact h1
    obtain ⟨v, h1, h2⟩ := hone
    refine ⟨v :: vs, ?_, ?_⟩
    · rw [List.mapM_cons]
      simp [h1, q1]
    · simp only [AVRelL]
      exact ⟨v, vs, rfl, h2, q2⟩
theorem xfunc_sound (hmix : P.follows .mixedOrders = true) (hcf : CFok P cf) (fuel : Nat) {f : Nat} {fn : XFunc} (hc : compFunc P f = some fn) {args : List AV} {H H' : AHeap} {v : AV} (h : xfunc cf fuel fn args H = some (v, H')) : CallOK P f args H v H' := by
  unfold compFunc at hc
  simp only [bind] at hc
  obtain ⟨fd, hfd, hc⟩ := bindSome hc
  obtain ⟨c, hbody, hc⟩ := bindSome hc
  split at hc
  · cases hc
  · rename_i hname
    obtain ⟨xc, hxc, hc⟩ := bindSome hc
    split at hc
    · cases hc
    · rename_i hroom
      obtain ⟨rs, hrs, hc⟩ := bindSome hc
      cases hc
      refine ⟨⟨fd, hfd, by rw [hbody]; rfl, by simpa using hname⟩, fun E w us hR hus => ?_⟩
      unfold xfunc at h
      split at h
      · cases h
      · rename_i hnp
        simp only [not_or, ne_eq, Decidable.not_not, Nat.not_lt] at hnp
        split at h
        · rename_i e s1 hs1
          have hlen := hus.length
          have hsz : (us.toArray ++ Array.replicate (fd.ntmps - us.toArray.size) undef).size = fd.ntmps := by
            have := hnp.2
            simp only [Array.size_append, Array.size_replicate, List.size_toArray]
            omega
          have hT : TmR E w (argsT args 0 .e) (us.toArray ++ Array.replicate (fd.ntmps - us.toArray.size) undef) := by
            intro t x hx
            rw [argsT_get] at hx
            simp only [Nat.zero_le, Nat.zero_add, true_and, Nat.sub_zero] at hx
            split at hx
            · rename_i hlt
              obtain ⟨u, h1, h2⟩ := hus.get hx
              refine ⟨u, ?_, h2⟩
              rw [Array.getElem?_append_left (by simp only [List.size_toArray]; omega)]
              simpa using h1
            · simp [Tr.get] at hx
          refine calls_of_wp hfd hbody ?_
          refine code_sound hmix hcf fuel fd.ntmps c xc hxc (by simpa using hroom) ⟨argsT args 0 .e, H⟩ e s1 hs1 E w _ hsz hR hT _ (fun E' a' w' h1 h2 h3 h4 => ?_)
          have key : (e = .normal ∨ e = .ret) → ∃ l, resL s1 rs = some l ∧ (match l with | [x] => some (x, s1.H) | l => some (.tup l, s1.H)) = some (v, H') := by
            intro he
            have : (match resL s1 rs with | some [x] => some (x, s1.H) | some l => some (.tup l, s1.H) | none => none) = some (v, H') := by
              rcases he with rfl | rfl <;> exact h
            cases hl : resL s1 rs with
            | none => rw [hl] at this; cases this
            | some l =>
              rw [hl] at this
              refine ⟨l, rfl, ?_⟩
              match l, this with
              | [], q => exact q
              | [x], q => exact q
              | x :: y :: l, q => exact q
          have fin : (e = .normal ∨ e = .ret) → a'.defers = [] ∧ ∃ u, (results fd a'.tmps).run P w' = .ok u w' ∧ ∃ u' E', Ending.returned u = .returned u' ∧ Step E H w E' H' w' ∧ AVRel E' w' v u' := by
            intro he
            obtain ⟨l, hl, hv⟩ := key he
            refine ⟨h3, ?_⟩
            obtain ⟨vs, q1, q2⟩ := res_sound h1.rel h2 hrs hl
            have hm : (fd.results.mapM (resM a'.tmps)).run P w' = .ok vs.toArray w' := by
              rw [Array.mapM_eq_mapM_toList]
              simp [q1]
            match l, hv, q2 with
            | [x], hv, q2 =>
              cases hv
              simp only [AVRelL] at q2
              obtain ⟨u, us', rfl, q3, rfl⟩ := q2
              refine ⟨u, ?_, u, E', rfl, h1, q3⟩
              simp only [results_eq, Sem.run_bind, hm]
              simp
            | [], hv, q2 =>
              cases hv
              have hl2 := q2.length
              refine ⟨.tuple vs.toArray, ?_, _, E', rfl, h1, by simp only [AVRel]; exact ⟨_, rfl, by simpa using q2⟩⟩
              simp only [results_eq, Sem.run_bind, hm]
              simp only [List.length_nil] at hl2
              simp [hl2]
            | x :: y :: l, hv, q2 =>
              cases hv
              have hl2 := q2.length
              refine ⟨.tuple vs.toArray, ?_, _, E', rfl, h1, by simp only [AVRel]; exact ⟨_, rfl, by simpa using q2⟩⟩
              simp only [results_eq, Sem.run_bind, hm]
              simp only [List.length_cons] at hl2
              simp [hl2]
          cases e with
          | normal => exact fin (.inl rfl)
          | ret => exact fin (.inr rfl)
          | exit id => cases h
        · cases h
theorem xcall_sound (hmix : P.follows .mixedOrders = true) {F : Nat → Option XFunc} (hF : ∀ f fn, F f = some fn → compFunc P f = some fn) (fuel : Nat) : ∀ depth, CFok P (xcall F fuel depth)
  | 0 => fun f args H v H' h => by cases h
  | k + 1 => fun f args H v H' h => by
    simp only [xcall] at h
    split at h
    · rename_i fn hfn
      exact xfunc_sound hmix (xcall_sound hmix hF fuel k) fuel (hF f fn hfn) h
    · cases h
end
end Go.Eng
end
section
namespace Go.Eng
variable {P : Program}
def wrapL : List AV → AV
  | [x] => x
  | l => .tup l
def xcallK (K : CF) (F : Nat → Option XFunc) (fuel : Nat) : Nat → CF
  | 0, f, args, H => K f args H
  | k + 1, f, args, H => match K f args H with
    | some r => some r
    | none => match F f with
      | some fn => xfunc (xcallK K F fuel k) fuel fn args H
      | none => none
theorem xcallK_sound (hmix : P.follows .mixedOrders = true) {K : CF} (hK : CFok P K) {F : Nat → Option XFunc} (hF : ∀ f fn, F f = some fn → compFunc P f = some fn) (fuel : Nat) : ∀ k, CFok P (xcallK K F fuel k)
  | 0 => hK
  | k + 1 => by
    intro f args H v H' h
    unfold xcallK at h
    split at h
    · rename_i r hr
      cases h
      exact hK _ _ _ _ _ hr
    · split at h
      · rename_i fn hfn
        exact xfunc_sound hmix (xcallK_sound hmix hK hF fuel k) fuel (hF _ _ hfn) h
      · cases h
theorem loop_ex {α : Type} {body : St → Option (XE × St)} (I : α → St → Prop) (μ : α → Nat) (Q : XE → St → Prop)
    (h : ∀ i s, I i s → ∃ e s', body s = some (e, s') ∧ ((e = .normal ∧ ∃ j, I j s' ∧ μ j < μ i) ∨ (e ≠ .normal ∧ Q e s'))) : ∀ (n : Nat) (i : α) (s : St), μ i < n → I i s → ∃ e s', loopF body n s = some (e, s') ∧ Q e s' := by
  intro n
  induction n with
  | zero => intro i s h; omega
  | succ n ih =>
    intro i s hn hI
    obtain ⟨e, s1, h1, h2⟩ := h i s hI
    rcases h2 with ⟨rfl, j, hj, hlt⟩ | ⟨hne, hq⟩
    · obtain ⟨e', s', h3, h4⟩ := ih j s1 (by omega) hj
      exact ⟨e', s', by simp only [loopF, h1]; exact h3, h4⟩
    · refine ⟨e, s1, ?_, hq⟩
      cases e with
      | normal => exact absurd rfl hne
      | exit id => simp only [loopF, h1]
      | ret => simp only [loopF, h1]
theorem ev_t (tm : Tr AV) (n : Nat) : St.ev tm (.t n) = tm.get n := rfl
end Go.Eng
end
section
namespace Go.Eng
theorem wrapI (n : Int) (h1 : -9223372036854775808 ≤ n) (h2 : n < 9223372036854775808) : wrapA .i64 n = n := by
  simp only [wrapA, IntKind.wrap, IntKind.bits, IntKind.signed]
  simp
  omega
theorem idxOk_nat (i len : Nat) : idxOk (i : Int) len = decide (i < len) := by
  show Nat.blt i len = _
  rw [Bool.eq_iff_iff]
  simp [Nat.blt_eq]
theorem idxOk_lt {i len : Nat} (h : i < len) : idxOk (i : Int) len = true := by rw [idxOk_nat]; exact decide_eq_true h
theorem bndA_nat {y m : Nat} {k : IntKind} (h : m ≤ y) : bndA y (.int k (m : Int)) = some m := by
  show (if Nat.ble m y then some m else none) = some m
  rw [if_pos (by simpa using h)]
def Row (z : Nat) (H : AHeap) (v : AV) (l : Nat) (cs : List AV) : Prop :=
  cs.length = l * z ∧ ((v = .nils ∧ l = 0) ∨ ∃ i full, v = .sl i 0 l openCap ∧ H.get i = some (.cells full (some z)) ∧ full.take (l * z) = cs ∧ l * z ≤ full.length ∧ i < H.next)
def AV.own : AV → Option Nat
  | .sl i _ _ _ => some i
  | .map i => some i
  | .ptr i _ => some i
  | _ => none
theorem Row.nil (z : Nat) (H : AHeap) : Row z H .nils 0 [] := ⟨by simp, .inl ⟨rfl, rfl⟩⟩
theorem Row.frame {z : Nat} {H H' : AHeap} {v : AV} {l : Nat} {cs : List AV} (h : Row z H v l cs) (hn : H.next ≤ H'.next) (hg : ∀ i, v.own = some i → H'.get i = H.get i) : Row z H' v l cs := by
  refine ⟨h.1, ?_⟩
  rcases h.2 with h | ⟨i, full, rfl, h1, h2, h3, h4⟩
  · exact .inl h
  · exact .inr ⟨i, full, rfl, (hg i rfl).trans h1, h2, h3, by omega⟩
theorem Row.len {z : Nat} {H : AHeap} {v : AV} {l : Nat} {cs : List AV} (h : Row z H v l cs) : lenA v = some l := by
  rcases h.2 with ⟨rfl, rfl⟩ | ⟨i, full, rfl, _⟩ <;> rfl
theorem Row.own_lt {z : Nat} {H : AHeap} {v : AV} {l : Nat} {cs : List AV} (h : Row z H v l cs) {i : Nat} (hi : v.own = some i) : i < H.next := by
  rcases h.2 with ⟨rfl, rfl⟩ | ⟨j, full, rfl, _, _, _, h4⟩
  · cases hi
  · cases hi; exact h4
theorem Row.app {z bytes : Nat} {H : AHeap} {v y : AV} {l n : Nat} {cs new : List AV} (h : Row z H v l cs) (hz : 0 < z) (hl : l + n ≤ 2 ^ 30) (hn : 0 < n) (hb : bytes ≤ 2 ^ 16) (hy : lenA y = some n) (hs : srcA H z n y = some new) (hnl : new.length = n * z) (ho : new.all AV.oneCell = true) :
    ∃ v' H', appA H z bytes v y = .eff v' H' ∧ Row z H' v' (l + n) (cs ++ new) ∧ H.next ≤ H'.next ∧ (∀ j, j < H.next → v.own ≠ some j → H'.get j = H.get j) ∧ (∀ i, v'.own = some i → v.own = some i ∨ H.next ≤ i) := by
  obtain ⟨hcl, h⟩ := h
  unfold appA
  rw [hy]
  simp only [hs, ho, Bool.not_true, Bool.false_eq_true, false_or]
  rw [if_neg (by omega)]
  rcases h with ⟨rfl, rfl⟩ | ⟨i, full, rfl, hg, hf, hfl, hi⟩
  · simp only
    rw [if_neg (by omega), if_neg (by omega)]
    refine ⟨_, _, rfl, ⟨by simp [hnl, hcl], .inr ⟨H.next, new, by simp, by rw [AHeap.get_add, if_pos rfl], ?_, by simp [hnl], Nat.lt_succ_self _⟩⟩, Nat.le_succ _, fun j hj _ => by rw [AHeap.get_add, if_neg (by omega)], fun i hi => ?_⟩
    · have hc0 : cs = [] := List.eq_nil_of_length_eq_zero (by simpa using hcl)
      rw [Nat.zero_add, ← hnl, hc0]
      simp
    · simp only [AV.own, Option.some.injEq] at hi
      exact .inr (by omega)
  · simp only
    rw [if_neg (by omega)]
    simp only [hg]
    rw [if_neg (by omega), if_neg (by omega), if_neg (by decide)]
    have c1 : ((some z : Option Nat) == some z) = true := by simp
    have c2 : ((openCap - openCap) * z == 0) = true := by simp
    have c3 : (z == 0) = false := by simp; omega
    rw [if_neg (by rw [c1, c2, c3]; simp)]
    have ht : full.take (l * z) = cs := hf
    by_cases hfit : 0 + (l + n) * z ≤ full.length
    · rw [if_pos hfit]
      refine ⟨_, _, rfl, ⟨by rw [List.length_append, hcl, hnl, Nat.add_mul], .inr ⟨i, _, rfl, by rw [AHeap.get_set, if_pos rfl], ?_, ?_, hi⟩⟩, Nat.le_refl _, fun j hj hne => by rw [AHeap.get_set, if_neg (fun e => hne (by simp [AV.own, e]))], fun j hj => .inl hj⟩
      · simp only [overA, Nat.zero_add]
        rw [ht, List.take_append_of_le_length (by simp [hcl, hnl, Nat.add_mul]), ]
        rw [List.take_of_length_le (by simp [hcl, hnl, Nat.add_mul])]
      · simp only [overA, Nat.zero_add, List.length_append, List.length_take, List.length_drop, hnl]
        rw [Nat.add_mul] at hfit ⊢
        omega
    · rw [if_neg hfit]
      refine ⟨_, _, rfl, ⟨by rw [List.length_append, hcl, hnl, Nat.add_mul], .inr ⟨H.next, _, rfl, by rw [AHeap.get_add]; exact if_pos rfl, ?_, ?_, Nat.lt_succ_self _⟩⟩, Nat.le_succ _, fun j hj hne => ?_, fun j hj => ?_⟩
      · simp only [List.drop_zero]
        rw [ht, List.take_of_length_le (by simp [hcl, hnl, Nat.add_mul])]
      · simp only [List.drop_zero]
        rw [ht, List.length_append, hcl, hnl, Nat.add_mul]
        exact Nat.le_refl _
      · rw [AHeap.get_add, if_neg (by show ¬ j = H.next; omega), AHeap.get_set, if_neg (fun e => hne (by simp [AV.own, e]))]
      · simp only [AV.own, Option.some.injEq] at hj
        exact .inr (by rw [← hj]; exact Nat.le_refl _)
theorem Row.front {z : Nat} {H : AHeap} {v : AV} {l m : Nat} {cs : List AV} (h : Row z H v l cs) (hm : m ≤ l) (h0 : 0 < l) (ev : XO → Option AV) (x : XO) (k : IntKind) (hx : ev x = some (.int k (m : Int))) :
    ∃ v', cutA ev z v none (some x) none = some v' ∧ Row z H v' m (cs.take (m * z)) ∧ v'.own = v.own := by
  obtain ⟨hcl, h⟩ := h
  rcases h with ⟨rfl, rfl⟩ | ⟨i, full, rfl, hg, hf, hfl, hi⟩
  · omega
  · have hmz : m * z ≤ l * z := Nat.mul_le_mul_right z hm
    refine ⟨.sl i 0 m openCap, ?_, ⟨by rw [List.length_take, hcl]; omega, .inr ⟨i, full, rfl, hg, ?_, by omega, hi⟩⟩, rfl⟩
    · unfold cutA
      simp only
      rw [if_neg (by decide)]
      simp only [bounds, obnd, hiBnd, hx, Option.bind_some, bndA_nat hm]
      rw [Nat.sub_zero, if_pos (by decide)]
      simp
    · rw [← hf, List.take_take, Nat.min_eq_left hmz]
theorem Row.cell {z : Nat} {H : AHeap} {v : AV} {l j : Nat} {cs : List AV} (h : Row z H v l cs) (hj : j < l) (hz : 0 < z) (k : IntKind) :
    ∃ i, iaddrA z v (.int k (j : Int)) = some (.ptr i (j * z)) ∧ v.own = some i ∧ ∀ t, t < z → loadA H none (.ptr i (j * z + t)) = cs[j * z + t]? := by
  obtain ⟨hcl, h⟩ := h
  rcases h with ⟨rfl, rfl⟩ | ⟨i, full, rfl, hg, hf, hfl, hi⟩
  · omega
  · refine ⟨i, ?_, rfl, fun t ht => ?_⟩
    · simp only [iaddrA, idxOk_lt hj, if_true, Nat.zero_add]
      simp
    · have : j * z + z ≤ l * z := by
        have := Nat.mul_le_mul_right z (show j + 1 ≤ l from hj)
        rwa [Nat.add_mul, Nat.one_mul] at this
      simp only [loadA, cellsAt, hg]
      rw [List.getElem?_drop, ← hf, List.getElem?_take, if_pos (by omega), Nat.add_zero]
end Go.Eng
end
section
namespace Go.Eng
def AHeap.bump (H : AHeap) (k : Nat) : AHeap := ⟨H.m, H.next + k⟩
theorem get_bump (H : AHeap) (k j : Nat) : (H.bump k).get j = H.get j := rfl
theorem next_bump (H : AHeap) (k : Nat) : (H.bump k).next = H.next + k := rfl
theorem next_set (H : AHeap) (i : Nat) (o : Option AObj) : (H.set i o).next = H.next := rfl
theorem next_add (H : AHeap) (o : AObj) : (H.add o).next = H.next + 1 := rfl
def W (cf : CF) (fuel : Nat) (c : XCode) (s : St) (Q : XE → St → Prop) : Prop := ∃ e s', xcode cf fuel c s = some (e, s') ∧ Q e s'
def WO (cf : CF) (ops : List XOper) (n : Nat) (s : St) (Q : St → Prop) : Prop := ∃ s', xops cf ops n s = some s' ∧ Q s'
section
variable {cf : CF} {fuel : Nat} {s : St} {Q : XE → St → Prop}
theorem W.mono {c : XCode} {Q' : XE → St → Prop} (h : W cf fuel c s Q) (hq : ∀ e s', Q e s' → Q' e s') : W cf fuel c s Q' := by
  obtain ⟨e, s', h1, h2⟩ := h
  exact ⟨e, s', h1, hq _ _ h2⟩
theorem W.skip (h : Q .normal s) : W cf fuel .skip s Q := ⟨_, _, rfl, h⟩
theorem W.ret (h : Q .ret s) : W cf fuel .ret s Q := ⟨_, _, rfl, h⟩
theorem W.exit {id : Nat} (h : Q (.exit id) s) : W cf fuel (.exit id) s Q := ⟨_, _, rfl, h⟩
theorem W.seq {a b : XCode} (h : W cf fuel a s fun e s' => (e = .normal → W cf fuel b s' Q) ∧ (e ≠ .normal → Q e s')) : W cf fuel (.seq a b) s Q := by
  obtain ⟨e, s1, h1, h2, h3⟩ := h
  by_cases he : e = .normal
  · subst he
    obtain ⟨e', s', h4, h5⟩ := h2 rfl
    exact ⟨e', s', by simp only [xcode, h1]; exact h4, h5⟩
  · refine ⟨e, s1, ?_, h3 he⟩
    cases e with
    | normal => exact absurd rfl he
    | exit id => simp only [xcode, h1]
    | ret => simp only [xcode, h1]
theorem W.cond {c : XO} {a b : XCode} {tm : Tr AV} {H : AHeap} {v : Bool} (hc : St.ev tm c = some (.bool v)) (ht : v = true → W cf fuel a ⟨tm, H⟩ Q) (hf : v = false → W cf fuel b ⟨tm, H⟩ Q) : W cf fuel (.cond c a b) ⟨tm, H⟩ Q := by
  cases v with
  | true =>
    obtain ⟨e, s', h1, h2⟩ := ht rfl
    exact ⟨e, s', by simp only [xcode, hc]; exact h1, h2⟩
  | false =>
    obtain ⟨e, s', h1, h2⟩ := hf rfl
    exact ⟨e, s', by simp only [xcode, hc]; exact h1, h2⟩
theorem W.block {id : Nat} {c : XCode} (h : W cf fuel c s fun e s' => (e = .exit id → Q .normal s') ∧ (e ≠ .exit id → Q e s')) : W cf fuel (.block id c) s Q := by
  obtain ⟨e, s1, h1, h2, h3⟩ := h
  cases e with
  | normal => exact ⟨.normal, s1, by simp only [xcode, h1], h3 (by simp)⟩
  | ret => exact ⟨.ret, s1, by simp only [xcode, h1], h3 (by simp)⟩
  | exit i =>
    by_cases hi : i = id
    · subst hi
      exact ⟨.normal, s1, by simp only [xcode, h1, if_true], h2 rfl⟩
    · exact ⟨.exit i, s1, by simp only [xcode, h1]; rw [if_neg hi], h3 (by simpa using hi)⟩
theorem W.loop {α : Type} {c : XCode} (I : α → St → Prop) (μ : α → Nat) (i : α) (hI : I i s) (hm : μ i < fuel) (h : ∀ i s, I i s → W cf fuel c s fun e s' => (e = .normal → ∃ j, I j s' ∧ μ j < μ i) ∧ (e ≠ .normal → Q e s')) : W cf fuel (.loop c) s Q := by
  obtain ⟨e, s', h1, h2⟩ := loop_ex I μ Q (fun i s hi => by
    obtain ⟨e, s', h1, h2, h3⟩ := h i s hi
    by_cases he : e = .normal
    · exact ⟨e, s', h1, .inl ⟨he, h2 he⟩⟩
    · exact ⟨e, s', h1, .inr ⟨he, h3 he⟩⟩) fuel i s hm hI
  exact ⟨e, s', h1, h2⟩
theorem W.reg {ops : List XOper} {tm : Tr AV} {H : AHeap} (k : Nat) (hk : ops.length = k) (h : WO cf ops H.next ⟨tm, H.bump k⟩ fun s' => Q .normal s') : W cf fuel (.reg ops) ⟨tm, H⟩ Q := by
  obtain ⟨s', h1, h2⟩ := h
  subst hk
  have h1' : xops cf ops H.next (Go.Eng.bump ⟨tm, H⟩ ops.length) = some s' := h1
  exact ⟨.normal, s', by simp only [xcode, h1', Option.map_some], h2⟩
theorem WO.nil {n : Nat} {Q : St → Prop} (h : Q s) : WO cf [] n s Q := ⟨s, rfl, h⟩
theorem WO.op {d : Nat} {op : XOp} {r : List XOper} {tm : Tr AV} {H : AHeap} {n : Nat} {Q : St → Prop} {v : AV} {H1 : AHeap} (h : xval cf (St.ev tm) H n op = some (v, H1)) (k : WO cf r (n + 1) ⟨tm.set d (some v), H1⟩ Q) : WO cf (⟨some d, op, none⟩ :: r) n ⟨tm, H⟩ Q := by
  obtain ⟨s', h1, h2⟩ := k
  exact ⟨s', by simp only [xops, xstep, wantedA, h]; exact h1, h2⟩
theorem WO.opn {op : XOp} {r : List XOper} {tm : Tr AV} {H : AHeap} {n : Nat} {Q : St → Prop} {v : AV} {H1 : AHeap} (h : xval cf (St.ev tm) H n op = some (v, H1)) (k : WO cf r (n + 1) ⟨tm, H1⟩ Q) : WO cf (⟨none, op, none⟩ :: r) n ⟨tm, H⟩ Q := by
  obtain ⟨s', h1, h2⟩ := k
  exact ⟨s', by simp only [xops, xstep, wantedA, h]; exact h1, h2⟩
theorem WO.gop {d : Nat} {op : XOp} {r : List XOper} {tm : Tr AV} {H : AHeap} {n : Nat} {Q : St → Prop} {v : AV} {H1 : AHeap} {g : Nat} {b : Bool} (hg : tm.get g = some (.bool b)) (h : xval cf (St.ev tm) H n op = some (v, H1)) (k : WO cf r (n + 1) ⟨tm.set d (some v), H1⟩ Q) : WO cf (⟨some d, op, some (g, b)⟩ :: r) n ⟨tm, H⟩ Q := by
  obtain ⟨s', h1, h2⟩ := k
  exact ⟨s', by simp only [xops, xstep, wantedA, hg, beq_self_eq_true, h]; exact h1, h2⟩
theorem WO.gno {d : Nat} {op : XOp} {r : List XOper} {tm : Tr AV} {H : AHeap} {n : Nat} {Q : St → Prop} {g : Nat} {b c : Bool} (hg : tm.get g = some (.bool c)) (hne : (c == b) = false) (k : WO cf r (n + 1) ⟨tm.set d (some undefA), H⟩ Q) : WO cf (⟨some d, op, some (g, b)⟩ :: r) n ⟨tm, H⟩ Q := by
  obtain ⟨s', h1, h2⟩ := k
  exact ⟨s', by simp only [xops, xstep, wantedA, hg, hne]; exact h1, h2⟩
theorem W.condT {c : XO} {a b : XCode} {tm : Tr AV} {H : AHeap} (hc : St.ev tm c = some (.bool true)) (h : W cf fuel a ⟨tm, H⟩ Q) : W cf fuel (.cond c a b) ⟨tm, H⟩ Q := W.cond hc (fun _ => h) (fun q => by cases q)
theorem W.condF {c : XO} {a b : XCode} {tm : Tr AV} {H : AHeap} (hc : St.ev tm c = some (.bool false)) (h : W cf fuel b ⟨tm, H⟩ Q) : W cf fuel (.cond c a b) ⟨tm, H⟩ Q := W.cond hc (fun q => by cases q) (fun _ => h)
theorem W.rg {ops : List XOper} {tm : Tr AV} {H : AHeap} (k : Nat) (hk : ops.length = k) (h : ∀ H1 : AHeap, (∀ j, H1.get j = H.get j) → H1.next = H.next + k → WO cf ops H.next ⟨tm, H1⟩ fun s' => Q .normal s') : W cf fuel (.reg ops) ⟨tm, H⟩ Q :=
  W.reg k hk (h (H.bump k) (fun _ => rfl) rfl)
theorem pN {A : Prop} {B : Prop} (h : A) : (XE.normal = XE.normal → A) ∧ (XE.normal ≠ XE.normal → B) := ⟨fun _ => h, fun q => absurd rfl q⟩
theorem pR {A : Prop} {B : Prop} (h : B) : (XE.ret = XE.normal → A) ∧ (XE.ret ≠ XE.normal → B) := ⟨fun q => (by cases q), fun _ => h⟩
theorem pX {i : Nat} {A : Prop} {B : Prop} (h : B) : (XE.exit i = XE.normal → A) ∧ (XE.exit i ≠ XE.normal → B) := ⟨fun q => (by cases q), fun _ => h⟩
theorem bN {i : Nat} {A : Prop} {B : Prop} (h : B) : (XE.normal = XE.exit i → A) ∧ (XE.normal ≠ XE.exit i → B) := ⟨fun q => (by cases q), fun _ => h⟩
theorem bR {i : Nat} {A : Prop} {B : Prop} (h : B) : (XE.ret = XE.exit i → A) ∧ (XE.ret ≠ XE.exit i → B) := ⟨fun q => (by cases q), fun _ => h⟩
theorem bX {i : Nat} {A : Prop} {B : Prop} (h : A) : (XE.exit i = XE.exit i → A) ∧ (XE.exit i ≠ XE.exit i → B) := ⟨fun _ => h, fun q => absurd rfl q⟩
theorem bO {i j : Nat} (hij : j ≠ i) {A : Prop} {B : Prop} (h : B) : (XE.exit j = XE.exit i → A) ∧ (XE.exit j ≠ XE.exit i → B) := ⟨fun q => (by cases q; exact absurd rfl hij), fun _ => h⟩
theorem op_mv {n : Nat} {H : AHeap} {v : AV} {ev : XO → Option AV} {x : XO} (hx : ev x = some v) : xval cf ev H n (.mv x) = some (v, H) := by
  simp only [xval, xop, hx, AR.ofV]
theorem op_bin {n : Nat} {H : AHeap} {a b v : AV} {ev : XO → Option AV} {o : BinOp} {x y : XO} (hx : ev x = some a) (hy : ev y = some b) (h : binA o a b = some v) : xval cf ev H n (.bin o x y) = some (v, H) := by
  simp only [xval, xop, hx, hy, h, AR.ofV]
theorem op_sidx {n i : Nat} {k : IntKind} {H : AHeap} {s : List UInt8} {b : UInt8} {ev : XO → Option AV} {x y : XO} (hx : ev x = some (.str s)) (hy : ev y = some (.int k (i : Int))) (h : s[i]? = some b) : xval cf ev H n (.sidx x y) = some (.int .u8 b.toNat, H) := by
  have hi : i < s.length := by
    rcases Nat.lt_or_ge i s.length with q | q
    · exact q
    · rw [List.getElem?_eq_none q] at h; cases h
  simp only [xval, xop, hx, hy, idxOk_lt hi, if_true, Int.toNat_natCast, h, Option.map_some, AR.ofV]
theorem op_slen {n : Nat} {H : AHeap} {s : List UInt8} {ev : XO → Option AV} {x : XO} (hx : ev x = some (.str s)) : xval cf ev H n (.slen x) = some (.int .i64 (s.length : Int), H) := by
  simp only [xval, xop, hx]
theorem op_faddr {n o i p : Nat} {H : AHeap} {ev : XO → Option AV} {x : XO} (hx : ev x = some (.ptr i p)) : xval cf ev H n (.faddr o x) = some (.ptr i (p + o), H) := by
  simp only [xval, xop, hx]
theorem op_nilc {n i p : Nat} {H : AHeap} {ev : XO → Option AV} {x : XO} (hx : ev x = some (.ptr i p)) : xval cf ev H n (.nilc x) = some (.ptr i p, H) := by
  simp only [xval, xop, hx]
theorem op_pick {n : Nat} {H : AHeap} {v w : AV} {ev : XO → Option AV} {x y z : XO} (hx : ev x = some w) (h : (w = .bool true ∧ ev y = some v) ∨ (w = .bool false ∧ ev z = some v)) : xval cf ev H n (.pick x y z) = some (v, H) := by
  rcases h with ⟨rfl, h⟩ | ⟨rfl, h⟩ <;> simp only [xval, xop, hx, h, AR.ofV]
theorem op_ext {n i : Nat} {H : AHeap} {l : List AV} {v : AV} {ev : XO → Option AV} {x : XO} (hx : ev x = some (.tup l)) (h : l[i]? = some v) : xval cf ev H n (.ext x i) = some (v, H) := by
  simp only [xval, xop, hx, h, AR.ofV]
theorem op_un {n : Nat} {H : AHeap} {a v : AV} {ev : XO → Option AV} {o : UnOp} {x : XO} (hx : ev x = some a) (h : unA o a = some v) : xval cf ev H n (.un o x) = some (v, H) := by
  simp only [xval, xop, hx, Option.bind_some, h, AR.ofV]
theorem op_loadc {n i o : Nat} {c : List AV} {opn : Option Nat} {v : AV} {H : AHeap} {ev : XO → Option AV} {x : XO} (hx : ev x = some (.ptr i o)) (hH : H.get i = some (.cells c opn)) (h : c[o]? = some v) : xval cf ev H n (.load none x) = some (v, H) := by
  simp only [xval, xop, hx, Option.bind_some, loadA, cellsAt, hH, List.getElem?_drop, Nat.add_zero, h, AR.ofV]
theorem op_aaddr {len z n i p j : Nat} {k : IntKind} {H : AHeap} {ev : XO → Option AV} {x y : XO} (hx : ev x = some (.ptr i p)) (hy : ev y = some (.int k (j : Int))) (h : j < len) : xval cf ev H n (.aaddr len z x y) = some (.ptr i (p + j * z), H) := by
  simp only [xval, xop, hx, hy, aaddrA, idxOk_lt h, if_true, Int.toNat_natCast, AR.ofV]
theorem op_load {n : Nat} {m : Option Nat} {H : AHeap} {a v : AV} {ev : XO → Option AV} {x : XO} (hx : ev x = some a) (h : loadA H m a = some v) : xval cf ev H n (.load m x) = some (v, H) := by
  simp only [xval, xop, hx, Option.bind_some, h, AR.ofV]
theorem op_cut {z n : Nat} {H : AHeap} {v v' : AV} {ev : XO → Option AV} {x : XO} {lo hi mx : Option XO} (hx : ev x = some v) (h : cutA ev z v lo hi mx = some v') : xval cf ev H n (.cut z x lo hi mx) = some (v', H) := by
  simp only [xval, xop, hx, Option.bind_some, h, AR.ofV]
theorem op_call {n g : Nat} {H H1 : AHeap} {v : AV} {ev : XO → Option AV} {x : XO} {xs : List XO} {cs l : List AV} (hx : ev x = some (.fn g cs)) (hl : evL ev xs = some l) (h : cf g (l ++ cs) H = some (v, H1)) : xval cf ev H n (.call x xs) = some (v, H1) := by
  simp only [xval, hx, hl, h]
theorem WO.front {d z n l m : Nat} {x y : XO} {kd : IntKind} {r : List XOper} {tm : Tr AV} {H : AHeap} {Q : St → Prop} {v : AV} {cs : List AV} (hR : Row z H v l cs) (hx : St.ev tm x = some v) (hy : St.ev tm y = some (.int kd (m : Int))) (hm : m ≤ l) (h0 : 0 < l)
    (k : ∀ v', Row z H v' m (cs.take (m * z)) → v'.own = v.own → WO cf r (n + 1) ⟨tm.set d (some v'), H⟩ Q) : WO cf (⟨some d, .cut z x none (some y) none, none⟩ :: r) n ⟨tm, H⟩ Q := by
  obtain ⟨v', h1, h2, h3⟩ := hR.front hm h0 (St.ev tm) y kd hy
  exact WO.op (op_cut hx h1) (k v' h2 h3)
theorem W.condT' {c : XO} {a b : XCode} {tm : Tr AV} {H : AHeap} {v : AV} (hc : St.ev tm c = some v) (hv : v = .bool true) (h : W cf fuel a ⟨tm, H⟩ Q) : W cf fuel (.cond c a b) ⟨tm, H⟩ Q := W.condT (hv ▸ hc) h
theorem W.condF' {c : XO} {a b : XCode} {tm : Tr AV} {H : AHeap} {v : AV} (hc : St.ev tm c = some v) (hv : v = .bool false) (h : W cf fuel b ⟨tm, H⟩ Q) : W cf fuel (.cond c a b) ⟨tm, H⟩ Q := W.condF (hv ▸ hc) h
theorem WO.gop' {d : Nat} {op : XOp} {r : List XOper} {tm : Tr AV} {H : AHeap} {n : Nat} {Q : St → Prop} {v u : AV} {H1 : AHeap} {g : Nat} {b : Bool} (hg : tm.get g = some u) (hu : u = .bool b) (h : xval cf (St.ev tm) H n op = some (v, H1)) (k : WO cf r (n + 1) ⟨tm.set d (some v), H1⟩ Q) : WO cf (⟨some d, op, some (g, b)⟩ :: r) n ⟨tm, H⟩ Q := WO.gop (hu ▸ hg) h k
theorem WO.gno' {d : Nat} {op : XOp} {r : List XOper} {tm : Tr AV} {H : AHeap} {n : Nat} {Q : St → Prop} {u : AV} {g : Nat} {b : Bool} (hg : tm.get g = some u) (hu : u = .bool (!b)) (k : WO cf r (n + 1) ⟨tm.set d (some undefA), H⟩ Q) : WO cf (⟨some d, op, some (g, b)⟩ :: r) n ⟨tm, H⟩ Q := WO.gno (hu ▸ hg) (by cases b <;> rfl) k
theorem xfunc_of {fn : XFunc} {args : List AV} {H : AHeap} (hn : args.length = fn.np) (ht : args.length ≤ fn.nt) {Q : AV → AHeap → Prop}
    (h : W cf fuel fn.code ⟨argsT args 0 .e, H⟩ fun e s' => (∀ id, e ≠ .exit id) ∧ ∃ l, resL s' fn.res = some l ∧ Q (wrapL l) s'.H) : ∃ v H', xfunc cf fuel fn args H = some (v, H') ∧ Q v H' := by
  obtain ⟨e, s', h1, h2, l, h3, h4⟩ := h
  refine ⟨_, _, ?_, h4⟩
  unfold xfunc
  rw [if_neg (by omega)]
  simp only [h1, h3]
  cases e with
  | exit id => exact absurd rfl (h2 id)
  | normal =>
    match l with
    | [] => rfl
    | [x] => rfl
    | x :: y :: l => rfl
  | ret =>
    match l with
    | [] => rfl
    | [x] => rfl
    | x :: y :: l => rfl
end
attribute [irreducible] W WO
end Go.Eng
end
section
namespace Go.Eng
section
variable {cf : CF} {fuel : Nat} {Q : XE → St → Prop}
theorem xtrace_last : ∀ (ops : List XOper) (n : Nat) (s s' : St), xops cf ops n s = some s' → ∃ tr, xtrace cf ops n s = some tr ∧ tr.getLast? = some s'
  | [], n, s, s', h => by
    simp only [xops, Option.some.injEq] at h
    subst h
    exact ⟨[s], rfl, rfl⟩
  | o :: r, n, s, s', h => by
    simp only [xops] at h
    split at h
    · rename_i s1 h1
      obtain ⟨tr, h2, h3⟩ := xtrace_last r (n + 1) s1 s' h
      refine ⟨s :: tr, by simp only [xtrace, h1, h2, Option.map_some], ?_⟩
      rw [List.getLast?_cons, h3]
      rfl
    · cases h
theorem W.regd0 {ops : List XOper} {tm : Tr AV} {H : AHeap} (k : Nat) (hk : ops.length = k) (h : WO cf ops H.next ⟨tm, H.bump k⟩ fun s' => Q .normal s') : W cf fuel (.regd ops [] []) ⟨tm, H⟩ Q := by
  unfold WO at h
  unfold W
  obtain ⟨s', h1, h2⟩ := h
  subst hk
  obtain ⟨tr, h3, h4⟩ := xtrace_last _ _ _ _ h1
  have h3' : xtrace cf ops H.next (Go.Eng.bump ⟨tm, H⟩ ops.length) = some tr := h3
  refine ⟨.normal, s', ?_, h2⟩
  simp only [xcode, xregionD, h3']
  simp [freshOk, h4]
def WT (cf : CF) (ops : List XOper) (n : Nat) (s : St) (Q : List St → Prop) : Prop := ∃ tr, xtrace cf ops n s = some tr ∧ Q tr
theorem WT.nil {n : Nat} {s : St} {Q : List St → Prop} (h : Q [s]) : WT cf [] n s Q := ⟨[s], rfl, h⟩
theorem WT.op {d : Nat} {op : XOp} {r : List XOper} {tm : Tr AV} {H : AHeap} {n : Nat} {Q : List St → Prop} {v : AV} {H1 : AHeap} (h : xval cf (St.ev tm) H n op = some (v, H1)) (k : WT cf r (n + 1) ⟨tm.set d (some v), H1⟩ fun tr => Q (⟨tm, H⟩ :: tr)) : WT cf (⟨some d, op, none⟩ :: r) n ⟨tm, H⟩ Q := by
  obtain ⟨tr, h1, h2⟩ := k
  exact ⟨_, by simp only [xtrace, xstep, wantedA, h, putT, h1, Option.map_some], h2⟩
theorem WT.opn {op : XOp} {r : List XOper} {tm : Tr AV} {H : AHeap} {n : Nat} {Q : List St → Prop} {v : AV} {H1 : AHeap} (h : xval cf (St.ev tm) H n op = some (v, H1)) (k : WT cf r (n + 1) ⟨tm, H1⟩ fun tr => Q (⟨tm, H⟩ :: tr)) : WT cf (⟨none, op, none⟩ :: r) n ⟨tm, H⟩ Q := by
  obtain ⟨tr, h1, h2⟩ := k
  exact ⟨_, by simp only [xtrace, xstep, wantedA, h, putT, h1, Option.map_some], h2⟩
theorem W.regd {ops : List XOper} {lo : List (Nat × List Nat × List Nat)} {nn : List Nat} {tm : Tr AV} {H : AHeap} (k : Nat) (hk : ops.length = k)
    (h : WT cf ops H.next ⟨tm, H.bump k⟩ fun tr => lo.all (looseOk ops tr H.next nn) = true ∧ freshOk ops tr H.next nn = true ∧ ∃ s', tr.getLast? = some s' ∧ Q .normal s') : W cf fuel (.regd ops lo nn) ⟨tm, H⟩ Q := by
  unfold WT at h
  unfold W
  obtain ⟨tr, h1, h2, h3, s', h4, h5⟩ := h
  subst hk
  have h1' : xtrace cf ops H.next (Go.Eng.bump ⟨tm, H⟩ ops.length) = some tr := h1
  refine ⟨.normal, s', ?_, h5⟩
  simp only [xcode, xregionD, h1', h2, h3, Bool.and_self, if_true, h4, Option.map_some]
end
theorem op_store {cf : CF} {m n i o : Nat} {c : List AV} {opn : Option Nat} {v : AV} {H : AHeap} {ev : XO → Option AV} {a x : XO} (ha : ev a = some (.ptr i o)) (hx : ev x = some v) (hH : H.get i = some (.cells c opn)) (hl : v.cells.length = n) (h1 : v.cells.all AV.oneCell = true) (hf : o + n ≤ c.length) :
    xval cf ev H m (.store n a x) = some (undefA, H.set i (some (.cells (overA c o v.cells) opn))) := by
  have h : storeA H n (.ptr i o) v = some (H.set i (some (.cells (overA c o v.cells) opn))) := by
    simp only [storeA, hl, h1, hH]
    rw [if_neg (by simp), if_pos hf]
  simp only [xval, xop, ha, hx, h]
theorem op_loadn {cf : CF} {m n i o : Nat} {c : List AV} {opn : Option Nat} {H : AHeap} {ev : XO → Option AV} {x : XO} (hx : ev x = some (.ptr i o)) (hH : H.get i = some (.cells c opn)) (hf : o + n ≤ c.length) :
    xval cf ev H m (.load (some n) x) = some (.agg ((c.drop o).take n), H) := by
  have h : loadA H (some n) (.ptr i o) = some (.agg ((c.drop o).take n)) := by
    simp only [loadA, cellsAt, hH]
    rw [if_pos (by simp only [List.length_drop]; omega)]
  simp only [xval, xop, hx, Option.bind_some, h, AR.ofV]
theorem op_alloc {cf : CF} {m : Nat} {z : List AV} {H : AHeap} {ev : XO → Option AV} : xval cf ev H m (.alloc z) = some (.ptr m 0, H.set m (some (.cells z none))) := by
  simp only [xval, xop]
theorem WO.alloc {cf : CF} {d n : Nat} {z : List AV} {r : List XOper} {tm : Tr AV} {H : AHeap} {Q : St → Prop} (k : ∀ H1 : AHeap, H1.get n = some (.cells z none) → (∀ j, j ≠ n → H1.get j = H.get j) → H1.next = H.next → WO cf r (n + 1) ⟨tm.set d (some (.ptr n 0)), H1⟩ Q) : WO cf (⟨some d, .alloc z, none⟩ :: r) n ⟨tm, H⟩ Q :=
  WO.op op_alloc (k _ (by rw [AHeap.get_set, if_pos rfl]) (fun j hj => by rw [AHeap.get_set, if_neg hj]) rfl)
theorem WO.store {cf : CF} {n m i o : Nat} {a x : XO} {v : AV} {c : List AV} {opn : Option Nat} {r : List XOper} {tm : Tr AV} {H : AHeap} {Q : St → Prop} (ha : St.ev tm a = some (.ptr i o)) (hx : St.ev tm x = some v) (hH : H.get i = some (.cells c opn)) (hl : v.cells.length = m) (h1 : v.cells.all AV.oneCell = true) (hf : o + m ≤ c.length)
    (k : ∀ H1 : AHeap, H1.get i = some (.cells (overA c o v.cells) opn) → (∀ j, j ≠ i → H1.get j = H.get j) → H1.next = H.next → WO cf r (n + 1) ⟨tm, H1⟩ Q) : WO cf (⟨none, .store m a x, none⟩ :: r) n ⟨tm, H⟩ Q :=
  WO.opn (op_store ha hx hH hl h1 hf) (k _ (by rw [AHeap.get_set, if_pos rfl]) (fun j hj => by rw [AHeap.get_set, if_neg hj]) rfl)
theorem evL1 {ev : XO → Option AV} {x : XO} {v : AV} (h : ev x = some v) : evL ev [x] = some [v] := by simp [evL, h]
theorem evL2 {ev : XO → Option AV} {x y : XO} {v w : AV} (h : ev x = some v) (h2 : ev y = some w) : evL ev [x, y] = some [v, w] := by simp [evL, h, h2]
def Same (H H' : AHeap) : Prop := H.next ≤ H'.next ∧ ∀ j, j < H.next → H'.get j = H.get j
theorem Same.refl (H : AHeap) : Same H H := ⟨Nat.le_refl _, fun _ _ => rfl⟩
theorem Same.trans {H1 H2 H3 : AHeap} (a : Same H1 H2) (b : Same H2 H3) : Same H1 H3 := ⟨Nat.le_trans a.1 b.1, fun j hj => (b.2 j (Nat.lt_of_lt_of_le hj a.1)).trans (a.2 j hj)⟩
theorem Same.bump (H : AHeap) (k : Nat) : Same H (H.bump k) := ⟨Nat.le_add_right _ _, fun _ _ => rfl⟩
theorem Same.set {H H' : AHeap} (h : Same H H') {i : Nat} (hi : H.next ≤ i) (o : Option AObj) : Same H (H'.set i o) := ⟨h.1, fun j hj => by rw [AHeap.get_set, if_neg (by omega)]; exact h.2 j hj⟩
theorem Row.same {z : Nat} {H H' : AHeap} {v : AV} {l : Nat} {cs : List AV} (h : Row z H v l cs) (s : Same H H') : Row z H' v l cs := h.frame s.1 (fun i hi => s.2 i (h.own_lt hi))
theorem Row.bump {z : Nat} {H : AHeap} {v : AV} {l : Nat} {cs : List AV} (h : Row z H v l cs) (k : Nat) : Row z (H.bump k) v l cs := h.same (Same.bump H k)
end Go.Eng
end
namespace Go.Eng
def E0 (w : World) : Env := ⟨fun _ => none, fun b => b < w.heap.size, fun _ => none⟩
theorem rel0 (w : World) : Rel (E0 w) ⟨.e, 0⟩ w :=
  ⟨fun i L h => (by cases h), fun b h => h, fun i o h => (by simp [AHeap.get, Tr.get] at h), fun i j o o' L L' h => (by simp [AHeap.get, Tr.get] at h)⟩
theorem below0 {w w' : World} {E' : Env} {H' : AHeap} (h : Step (E0 w) ⟨.e, 0⟩ w E' H' w') : Go.RowKit.Below w.heap.size w w' :=
  ⟨h.fr.os, h.fr.tape, h.fr.output, h.fr.size, fun k hk => h.fr.block k hk (fun i o L hg => (by simp [AHeap.get, Tr.get] at hg))⟩
mutual
def AV.plain : AV → Bool
  | .bool _ | .int _ _ | .str _ => true
  | .agg l | .tup l => AV.plainL l
  | _ => false
def AV.plainL : List AV → Bool
  | [] => true
  | x :: r => x.plain && AV.plainL r
end
mutual
theorem plain_rel {E E' : Env} {w w' : World} : ∀ {v : AV} {u : Value}, v.plain = true → AVRel E w v u → AVRel E' w' v u
  | .bool _, _, _, h => by simpa [AVRel] using h
  | .int _ _, _, _, h => by simpa [AVRel] using h
  | .str _, _, _, h => by simpa [AVRel] using h
  | .agg l, _, hp, h => by
    simp only [AV.plain] at hp
    simp only [AVRel] at h ⊢
    obtain ⟨us, h1, h2⟩ := h
    exact ⟨us, h1, plain_relL hp h2⟩
  | .tup l, _, hp, h => by
    simp only [AV.plain] at hp
    simp only [AVRel] at h ⊢
    obtain ⟨us, h1, h2⟩ := h
    exact ⟨us, h1, plain_relL hp h2⟩
  | .ptr .., _, hp, _ => by simp [AV.plain] at hp
  | .nilp, _, hp, _ => by simp [AV.plain] at hp
  | .sl .., _, hp, _ => by simp [AV.plain] at hp
  | .nils, _, hp, _ => by simp [AV.plain] at hp
  | .map _, _, hp, _ => by simp [AV.plain] at hp
  | .nilm, _, hp, _ => by simp [AV.plain] at hp
  | .fn .., _, hp, _ => by simp [AV.plain] at hp
  | .nilf, _, hp, _ => by simp [AV.plain] at hp
  | .ifc .., _, hp, _ => by simp [AV.plain] at hp
  | .nili, _, hp, _ => by simp [AV.plain] at hp
  | .imm .., _, hp, _ => by simp [AV.plain] at hp
  | .iptr .., _, hp, _ => by simp [AV.plain] at hp
  | .glob .., _, hp, _ => by simp [AV.plain] at hp
theorem plain_relL {E E' : Env} {w w' : World} : ∀ {l : List AV} {us : List Value}, AV.plainL l = true → AVRelL E w l us → AVRelL E' w' l us
  | [], _, _, h => by simpa [AVRelL] using h
  | x :: l, _, hp, h => by
    simp only [AV.plainL, Bool.and_eq_true] at hp
    simp only [AVRelL] at h ⊢
    obtain ⟨u, us, h1, h2, h3⟩ := h
    exact ⟨u, us, h1, plain_rel hp.1 h2, plain_relL hp.2 h3⟩
end
theorem step_of_below {E : Env} {H : AHeap} {w w' : World} (hR : Rel E H w) (hb : Go.RowKit.Below w.heap.size w w') : Step E H w E H w' := by
  have hext : Env.Ext E E w w' := ⟨fun _ _ h => h, fun _ h => h, fun b hbI => hb.block b (hR.imm b hbI), fun _ _ _ h => h⟩
  have hsz := hb.size
  refine ⟨hext, ⟨fun j L hj => ?_, fun b hbI => ?_, fun j p hj => ?_, hR.inj⟩, ⟨hb.os, hb.tape, hb.output, hsz, fun b hbI _ => hb.block b hbI⟩, fun j p L hj hρ => .inr ⟨j, p, L, hj, hρ, rfl⟩, Nat.le_refl _, fun j L h => .inl h, fun _ h => .inl h⟩
  · have := hR.dom j L hj
    exact ⟨this.1, by omega⟩
  · have := hR.imm b hbI
    omega
  · obtain ⟨L, q1, q2, q3⟩ := hR.obj j p hj
    exact ⟨L, q1, ObjR.mono hext (hb.block _ (hR.dom j L q1).2) q2, q3⟩
theorem frame0 {P : Program} {f : Nat} {args args0 : List AV} {v : AV} {H H1 : AHeap} (h : CallOK P f args0 ⟨.e, 0⟩ v H1) (hv : v.plain = true) (ha : ∀ E w us, Rel E H w → AVRelL E w args us → AVRelL (E0 w) w args0 us) : CallOK P f args H v H := by
  refine ⟨h.1, fun E w us hR hus => ?_⟩
  refine (h.2 (E0 w) w us (rel0 w) (ha E w us hR hus)).mono ?_
  rintro e w' ⟨u, E', rfl, hst, hvr⟩
  exact ⟨u, E, rfl, step_of_below hR (below0 hst), plain_rel hv hvr⟩
theorem freeze {E : Env} {H : AHeap} {w : World} (hR : Rel E H w) {v : AV} {u : Value} (hv : AVRel E w v u) {z l : Nat} {cs : List AV} (hl : lenA v = some l) (hs : srcA H z l v = some cs) (hns : ∀ s, v ≠ .str s) (hp : AV.plainL cs = true) (hcl : l = 0 → cs = []) :
    AVRel (E0 w) w (.imm cs l false) u := by
  unfold srcA at hs
  split at hs
  · simp only [lenA, Option.some.injEq] at hl
    subst hl
    simp only [if_true, Option.some.injEq] at hs
    subst hs
    simp only [AVRel] at hv ⊢
    exact .inl ⟨trivial, trivial, none, 0, hv, fun q => by cases q⟩
  · rename_i i o l' c
    simp only [lenA, Option.some.injEq] at hl
    subst hl
    split at hs
    · rename_i cells opn hg
      split at hs
      · cases hs
        obtain ⟨L, ad, c', C, t, fz, us, hρ, rfl, hsl, hlc, hb, hr, hcell, _⟩ := row_sound hR hv hg
        simp only [AVRel]
        by_cases h0 : l' = 0
        · exact .inl ⟨h0, hcl h0, some ad, c', by rw [h0], fun q => by cases q⟩
        · obtain rfl := hsl.addr hlc h0
          refine .inr ⟨L.b, L.s + o, c', (us.drop o).take (l' * z), rfl, (hR.dom i L hρ).2, fun j x hj => ?_, ?_, hlc, fun q => by cases q⟩
          · rw [List.getElem?_take] at hj
            split at hj
            · rw [List.getElem?_drop] at hj
              have := hcell _ x hj
              simp only [World.cell?, hb]
              rw [show L.s + o + j = L.s + (o + j) by omega]
              exact this
            · cases hj
          · exact plain_relL hp ((hr.drop o).take (l' * z))
      · cases hs
    · cases hs
  · rename_i cs' l' full
    simp only [lenA, Option.some.injEq] at hl
    subst hl
    split at hs
    · cases hs
      simp only [AVRel] at hv ⊢
      rcases hv with ⟨h0, h1, a, c, h2, _⟩ | ⟨b, s, c, us, h1, h2, h3, h4, h5, _⟩
      · subst h0 h1
        exact .inl ⟨rfl, hcl rfl, a, c, h2, fun q => by cases q⟩
      · refine .inr ⟨b, s, c, us.take (l' * z), h1, hR.imm b h2, fun j x hj => ?_, plain_relL hp (h4.take _), h5, fun q => by cases q⟩
        rw [List.getElem?_take] at hj
        split at hj
        · exact h3 j x hj
        · cases hj
    · cases hs
  · rename_i s
    exact absurd rfl (hns s)
  · cases hs
end Go.Eng
