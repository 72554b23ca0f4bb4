/- Walks over what is known of the temporaries: a list of names and values; decisions split. No condition. -/
import Derived.Test.YtpbighinamljbaaCalm
set_option linter.unusedSimpArgs false
set_option linter.unusedVariables false
namespace Go.Eng
abbrev KL0 := List (Nat × AV)
def look : KL0 → Nat → Option AV
  | [], _ => none
  | (e, v) :: r, d => match Nat.beq d e with
    | true => some v
    | false => look r d
def evK (l : KL0) : XO → Option AV
  | .t d => look l d
  | .k v => some v
/-- What is known of the temporaries. -/
def Kw (tm : Tr AV) (l : KL0) : Prop := ∀ d v, look l d = some v → tm.get d = some v
theorem Kw.nil (tm : Tr AV) : Kw tm [] := fun d v h => by cases h
theorem Kw.set {tm : Tr AV} {l : KL0} (h : Kw tm l) (d : Nat) (v : AV) : Kw (tm.set d (some v)) ((d, v) :: l) := by
  intro e u he
  unfold look at he
  split at he
  · rename_i q
    have : e = d := by simpa using q
    subst this
    cases he
    exact Tr.get_set_self _ _ _
  · rename_i q
    have : e ≠ d := by
      intro w
      subst w
      simp at q
    rw [Tr.get_set_ne _ _ this]
    exact h e u he
theorem Kw.ev {tm : Tr AV} {l : KL0} (h : Kw tm l) {x : XO} {v : AV} (hx : evK l x = some v) : St.ev tm x = some v := by
  cases x with
  | t d => exact h d v hx
  | k u => exact hx
/-- One list of what is known says all of another. -/
def Sub (l' l : KL0) : Prop := ∀ d v, look l d = some v → look l' d = some v
theorem Sub.nil (l : KL0) : Sub l [] := fun d v h => by cases h
theorem Sub.cons {l l' : KL0} {d : Nat} {v : AV} (h : look l' d = some v) (k : Sub l' l) : Sub l' ((d, v) :: l) := by
  intro e u he
  unfold look at he
  split at he
  · rename_i q
    have : e = d := by simpa using q
    subst this
    cases he
    exact h
  · exact k e u he
theorem Sub.refl (l : KL0) : Sub l l := fun _ _ h => h
theorem Kw.sub {tm : Tr AV} {l l' : KL0} (h : Kw tm l') (s : Sub l' l) : Kw tm l := fun d v q => h d v (s d v q)
def allSm (l : KL0) (xs : List XO) : Bool := xs.all fun x => (evK l x).isSome
theorem xval_kw {cf : CF} {tm : Tr AV} {l : KL0} (h : Kw tm l) {H : AHeap} {n : Nat} {y : XOp} (ha : allSm l y.opnds = true) : xval cf (St.ev tm) H n y = xval cf (evK l) H n y := by
  refine xval_congr fun x hx => ?_
  have := List.all_eq_true.1 ha x hx
  cases q : evK l x with
  | none => rw [q] at this; cases this
  | some v => exact h.ev q
/-- What an operation gives, from what is known. -/
def XV (cf : CF) (l : KL0) (H : AHeap) (n : Nat) (y : XOp) : Option (AV × AHeap) := xval cf (evK l) H n y
/-- A run that leaves the heap alone: its reads may stand anywhere. -/
theorem loose_calm {cf : CF} {ops : List XOper} {lo : List (Nat × List Nat × List Nat)} {tm : Tr AV} {H : AHeap} {n b : Nat} {tr : List St} (h1 : xtrace cf ops n ⟨tm, H⟩ = some tr) (h2 : ∀ t ∈ tr, t.H = H) (hlo : lo.all (looseB ops) = true) : lo.all (looseOk ops tr b []) = true := by
  rw [List.all_eq_true] at hlo ⊢
  intro l hl
  have hb := hlo l hl
  unfold looseB at hb
  rw [Bool.and_eq_true, Bool.and_eq_true] at hb
  obtain ⟨⟨b1, b2⟩, b3⟩ := hb
  have b1' : l.2.2 = [] := by simpa using b1
  have hlen := xtrace_len _ _ _ _ h1
  have hin : ∀ i ∈ (l.1 :: (l.2.1 ++ l.2.1.map (· + 1))), ∃ si, tr[i]? = some si ∧ si.H = H := by
    intro i hi
    rw [List.all_eq_true] at b2
    have := b2 i hi
    have hi' : i < tr.length := by rw [hlen]; have := Nat.le_of_ble_eq_true this; omega
    exact ⟨tr[i], List.getElem?_eq_getElem hi', h2 _ (List.getElem_mem hi')⟩
  split at b3
  · rename_i d m x g ho
    obtain ⟨t, t', q1, q2⟩ := xtrace_at _ _ _ _ h1 _ _ ho
    have ht : t.H = H := h2 t (List.mem_of_getElem? q1)
    unfold looseOk
    rw [ho, q1]
    dsimp only
    unfold xstep at q2
    generalize wantedA t.tm { dst := d, op := XOp.load m x, guard := g } = wd at q2 ⊢
    cases wd with
    | none => cases q2
    | some wb =>
      cases wb with
      | false => rfl
      | true =>
        dsimp only at q2 ⊢
        have hv : ∃ y, ∀ n, xop (St.ev t.tm) t.H n (XOp.load m x) = .v y := by
          cases hx : (St.ev t.tm x).bind (loadA t.H m) with
          | none => simp only [xval, xop, hx, AR.ofV] at q2; cases q2
          | some y => exact ⟨y, fun n => by simp only [xop, hx, AR.ofV]⟩
        obtain ⟨y, hy⟩ := hv
        rw [hy 0]
        dsimp only
        rw [List.all_eq_true]
        intro i hi
        obtain ⟨si, s1, s2⟩ := hin i hi
        rw [s1]
        dsimp only
        rw [b1', List.filter_nil]
        simp only [AHeap.less]
        rw [s2, ← ht, hy 0]
        exact AV.beq_refl y
  · cases b3
/-- Code, from what is known. -/
def WK (cf : CF) (fuel : Nat) (c : XCode) (l : KL0) (H : AHeap) (Q : XE → KL0 → AHeap → Prop) : Prop :=
  ∀ tm, Kw tm l → W cf fuel c ⟨tm, H⟩ fun e s' => ∃ l', Kw s'.tm l' ∧ Q e l' s'.H
def WKO (cf : CF) (ops : List XOper) (n : Nat) (l : KL0) (H : AHeap) (Q : KL0 → AHeap → Prop) : Prop :=
  ∀ tm, Kw tm l → WO cf ops n ⟨tm, H⟩ fun s' => ∃ l', Kw s'.tm l' ∧ Q l' s'.H
/-- A run that leaves the heap alone. -/
def WKC (cf : CF) (ops : List XOper) (n : Nat) (l : KL0) (H : AHeap) (Q : KL0 → Prop) : Prop :=
  ∀ tm, Kw tm l → WC cf ops n tm H fun s' => s'.H = H ∧ ∃ l', Kw s'.tm l' ∧ Q l'
/-- An operation that writes nothing and makes nothing, but for what it calls. -/
def calmB (o : XOper) : Bool := match o.op with
  | .call .. => true
  | y => match y.cls with
    | .p | .r => true
    | _ => false
section
variable {cf : CF} {fuel n : Nat} {l : KL0} {H : AHeap} {Q : XE → KL0 → AHeap → Prop} {R : KL0 → AHeap → Prop} {S : KL0 → Prop}
theorem WK.mono {c : XCode} {Q' : XE → KL0 → AHeap → Prop} (h : WK cf fuel c l H Q) (hq : ∀ e l' H', Q e l' H' → Q' e l' H') : WK cf fuel c l H Q' :=
  fun tm ht => (h tm ht).mono fun e s' ⟨l', h1, h2⟩ => ⟨l', h1, hq _ _ _ h2⟩
theorem WK.sub {c : XCode} {l' : KL0} (s : Sub l l') (h : WK cf fuel c l' H Q) : WK cf fuel c l H Q := fun tm ht => h tm (ht.sub s)
theorem WK.skip (h : Q .normal l H) : WK cf fuel .skip l H Q := fun tm ht => W.skip ⟨l, ht, h⟩
theorem WK.ret (h : Q .ret l H) : WK cf fuel .ret l H Q := fun tm ht => W.ret ⟨l, ht, h⟩
theorem WK.exit {id : Nat} (h : Q (.exit id) l H) : WK cf fuel (.exit id) l H Q := fun tm ht => W.exit ⟨l, ht, h⟩
theorem WK.seq {a b : XCode} (h : WK cf fuel a l H fun e l' H' => (e = .normal → WK cf fuel b l' H' Q) ∧ (e ≠ .normal → Q e l' H')) : WK cf fuel (.seq a b) l H Q :=
  fun tm ht => W.seq ((h tm ht).mono fun e s' ⟨l', h1, h2, h3⟩ => ⟨fun q => h2 q s'.tm h1, fun q => ⟨l', h1, h3 q⟩⟩)
theorem WK.block {id : Nat} {c : XCode} (h : WK cf fuel c l H fun e l' H' => (e = .exit id → Q .normal l' H') ∧ (e ≠ .exit id → Q e l' H')) : WK cf fuel (.block id c) l H Q :=
  fun tm ht => W.block ((h tm ht).mono fun e s' ⟨l', h1, h2, h3⟩ => ⟨fun q => ⟨l', h1, h2 q⟩, fun q => ⟨l', h1, h3 q⟩⟩)
theorem WK.condT {c : XO} {a b : XCode} {v : Bool} (hc : evK l c = some (.bool v)) (hv : v = true) (h : WK cf fuel a l H Q) : WK cf fuel (.cond c a b) l H Q :=
  fun tm ht => by subst hv; exact W.condT (ht.ev hc) (h tm ht)
theorem WK.condF {c : XO} {a b : XCode} {v : Bool} (hc : evK l c = some (.bool v)) (hv : v = false) (h : WK cf fuel b l H Q) : WK cf fuel (.cond c a b) l H Q :=
  fun tm ht => by subst hv; exact W.condF (ht.ev hc) (h tm ht)
theorem WK.condD {c : XO} {a b : XCode} {p : Prop} {_ : Decidable p} (hc : evK l c = some (.bool (decide p))) (h1 : p → WK cf fuel a l H Q) (h2 : ¬ p → WK cf fuel b l H Q) : WK cf fuel (.cond c a b) l H Q := by
  by_cases q : p
  · exact WK.condT hc (decide_eq_true q) (h1 q)
  · exact WK.condF hc (decide_eq_false q) (h2 q)
theorem WK.condB {c : XO} {a b : XCode} {v : Bool} (hc : evK l c = some (.bool v)) (h1 : v = true → WK cf fuel a l H Q) (h2 : v = false → WK cf fuel b l H Q) : WK cf fuel (.cond c a b) l H Q := by
  cases q : v with
  | true => exact WK.condT hc q (h1 q)
  | false => exact WK.condF hc q (h2 q)
theorem WK.condN {c : XO} {a b : XCode} {v : Bool} (hc : evK l c = some (.bool (!v))) (h1 : v = false → WK cf fuel a l H Q) (h2 : v = true → WK cf fuel b l H Q) : WK cf fuel (.cond c a b) l H Q := by
  cases q : v with
  | true => exact WK.condF hc (by rw [q]; rfl) (h2 q)
  | false => exact WK.condT hc (by rw [q]; rfl) (h1 q)
/-- A loop: what is known and what holds of the heap, at an index. -/
theorem WK.loop {α : Type} {c : XCode} (L : α → KL0) (P : α → AHeap → Prop) (μ : α → Nat) (i : α) (hl : Sub l (L i)) (hP : P i H) (hm : μ i < fuel)
    (h : ∀ i H, P i H → WK cf fuel c (L i) H fun e l' H' => (e = .normal → ∃ j, Sub l' (L j) ∧ P j H' ∧ μ j < μ i) ∧ (e ≠ .normal → Q e l' H')) : WK cf fuel (.loop c) l H Q := by
  intro tm ht
  refine W.loop (fun i s => Kw s.tm (L i) ∧ P i s.H) μ i ⟨ht.sub hl, hP⟩ hm (fun i s ⟨h1, h2⟩ => ?_)
  obtain ⟨tm1, H1⟩ := s
  refine (h i H1 h2 tm1 h1).mono fun e s' ⟨l', q1, q2, q3⟩ => ⟨fun he => ?_, fun he => ⟨l', q1, q3 he⟩⟩
  obtain ⟨j, r1, r2, r3⟩ := q2 he
  exact ⟨j, ⟨q1.sub r1, r2⟩, r3⟩
/-- Where paths meet. -/
theorem WK.cut {α : Type} {a b : XCode} (L : α → KL0) (P : α → AHeap → Prop) (h : WK cf fuel a l H fun e l' H' => (e = .normal → ∃ x, Sub l' (L x) ∧ P x H') ∧ (e ≠ .normal → Q e l' H')) (k : ∀ x H', P x H' → WK cf fuel b (L x) H' Q) : WK cf fuel (.seq a b) l H Q :=
  WK.seq (h.mono fun e l' H' ⟨h1, h2⟩ => ⟨fun he => by
    obtain ⟨x, q1, q2⟩ := h1 he
    exact (k x H' q2).sub q1, h2⟩)
/-- A goal that is to wait. -/
def Stop (p : Prop) : Prop := p
theorem Stop.mk {p : Prop} (h : p) : Stop p := h
theorem WK.stop1 {id : Nat} {c b : XCode} (h : Stop (WK cf fuel (.seq (.block id (.loop c)) b) l H Q)) : WK cf fuel (.seq (.block id (.loop c)) b) l H Q := h
theorem WK.stop2 {id : Nat} {o : List XOper} {c b : XCode} (h : Stop (WK cf fuel (.seq (.seq (.reg o) (.block id (.loop c))) b) l H Q)) : WK cf fuel (.seq (.seq (.reg o) (.block id (.loop c))) b) l H Q := h
theorem WK.stop3 {id : Nat} {o o' : List XOper} {x : XO} {c y b : XCode} (h : Stop (WK cf fuel (.seq (.seq (.reg o) (.cond x (.seq (.reg o') (.block id (.loop c))) y)) b) l H Q)) : WK cf fuel (.seq (.seq (.reg o) (.cond x (.seq (.reg o') (.block id (.loop c))) y)) b) l H Q := h
theorem WK.reg {ops : List XOper} {k : Nat} (hk : ops.length = k) (h : WKO cf ops H.next l (H.bump k) fun l' H' => Q .normal l' H') : WK cf fuel (.reg ops) l H Q :=
  fun tm ht => W.reg k hk (h tm ht)
theorem WK.regC {ops : List XOper} {lo : List (Nat × List Nat × List Nat)} {k : Nat} (_ : ops.all calmB = true) (hk : ops.length = k) (hlo : lo.all (looseB ops) = true) (h : WKC cf ops H.next l (H.bump k) fun l' => Q .normal l' (H.bump k)) : WK cf fuel (.regd ops lo []) l H Q := by
  intro tm ht
  refine W.regd k hk ?_
  have h1 := h tm ht
  unfold WC at h1
  obtain ⟨tr, q1, q1', s', q2, q3, l', q4, q5⟩ := h1
  unfold WT
  refine ⟨tr, q1, ?_, by simp [freshOk], s', q2, l', q4, by rw [q3]; exact q5⟩
  exact loose_calm q1 q1' hlo
theorem WK.regd0 {ops : List XOper} {k : Nat} (hk : ops.length = k) (h : WKO cf ops H.next l (H.bump k) fun l' H' => Q .normal l' H') : WK cf fuel (.regd ops [] []) l H Q :=
  fun tm ht => W.regd0 k hk (h tm ht)
theorem WKO.nil (h : R l H) : WKO cf [] n l H R := fun tm ht => WO.nil ⟨l, ht, h⟩
theorem WKO.op {d : Nat} {op : XOp} {r : List XOper} {v : AV} {H1 : AHeap} (h : XV cf l H n op = some (v, H1)) (ha : allSm l op.opnds = true) (k : WKO cf r (n + 1) ((d, v) :: l) H1 R) : WKO cf (⟨some d, op, none⟩ :: r) n l H R :=
  fun tm ht => WO.op ((xval_kw ht ha).trans h) (k _ (ht.set d v))
theorem WKO.opn {op : XOp} {r : List XOper} {v : AV} {H1 : AHeap} (h : XV cf l H n op = some (v, H1)) (ha : allSm l op.opnds = true) (k : WKO cf r (n + 1) l H1 R) : WKO cf (⟨none, op, none⟩ :: r) n l H R :=
  fun tm ht => WO.opn ((xval_kw ht ha).trans h) (k _ ht)
theorem WKO.callV {d g : Nat} {x : XO} {xs : List XO} {cs as : List AV} {P : AV → AHeap → Prop} {r : List XOper} (hx : evK l x = some (.fn g cs)) (hl : evL (evK l) xs = some as) (ha : allSm l (x :: xs) = true) (h : ∃ v H', cf g (as ++ cs) H = some (v, H') ∧ P v H')
    (k : ∀ v H', P v H' → WKO cf r (n + 1) ((d, v) :: l) H' R) : WKO cf (⟨some d, .call x xs, none⟩ :: r) n l H R := by
  obtain ⟨v, H', h1, h2⟩ := h
  exact WKO.op (H1 := H') (op_call hx hl h1) ha (k v H' h2)
theorem WKO.gop {d g : Nat} {b c : Bool} {op : XOp} {r : List XOper} {v : AV} {H1 : AHeap} (hg : look l g = some (.bool c)) (hc : c = b) (h : XV cf l H n op = some (v, H1)) (ha : allSm l op.opnds = true) (k : WKO cf r (n + 1) ((d, v) :: l) H1 R) : WKO cf (⟨some d, op, some (g, b)⟩ :: r) n l H R :=
  fun tm ht => WO.gop' (ht _ _ hg) (by rw [hc]) ((xval_kw ht ha).trans h) (k _ (ht.set d v))
theorem WKO.gcallV {d f g : Nat} {b c : Bool} {x : XO} {xs : List XO} {cs as : List AV} {P : AV → AHeap → Prop} {r : List XOper} (hg : look l g = some (.bool c)) (hc : c = b) (hx : evK l x = some (.fn f cs)) (hl : evL (evK l) xs = some as) (ha : allSm l (x :: xs) = true) (h : ∃ v H', cf f (as ++ cs) H = some (v, H') ∧ P v H')
    (k : ∀ v H', P v H' → WKO cf r (n + 1) ((d, v) :: l) H' R) : WKO cf (⟨some d, .call x xs, some (g, b)⟩ :: r) n l H R := by
  obtain ⟨v, H', h1, h2⟩ := h
  exact WKO.gop (H1 := H') hg hc (op_call hx hl h1) ha (k v H' h2)
theorem WKO.gnoT {d g : Nat} {c : Bool} {op : XOp} {r : List XOper} (hg : look l g = some (.bool c)) (hc : c = false) (k : WKO cf r (n + 1) ((d, undefA) :: l) H R) : WKO cf (⟨some d, op, some (g, true)⟩ :: r) n l H R :=
  fun tm ht => WO.gno' (ht _ _ hg) (by rw [hc]; rfl) (k _ (ht.set d undefA))
theorem WKO.gnoF {d g : Nat} {c : Bool} {op : XOp} {r : List XOper} (hg : look l g = some (.bool c)) (hc : c = true) (k : WKO cf r (n + 1) ((d, undefA) :: l) H R) : WKO cf (⟨some d, op, some (g, false)⟩ :: r) n l H R :=
  fun tm ht => WO.gno' (ht _ _ hg) (by rw [hc]; rfl) (k _ (ht.set d undefA))
theorem WKO.gsp {d g : Nat} {b : Bool} {op : XOp} {p : Prop} {_ : Decidable p} {r : List XOper} (hg : look l g = some (.bool (decide p))) (h1 : p → WKO cf (⟨some d, op, some (g, b)⟩ :: r) n l H R) (h2 : ¬ p → WKO cf (⟨some d, op, some (g, b)⟩ :: r) n l H R) : WKO cf (⟨some d, op, some (g, b)⟩ :: r) n l H R := by
  by_cases q : p
  · exact h1 q
  · exact h2 q
theorem WKO.gspB {d g : Nat} {b c : Bool} {op : XOp} {r : List XOper} (hg : look l g = some (.bool c)) (h1 : c = true → WKO cf (⟨some d, op, some (g, b)⟩ :: r) n l H R) (h2 : c = false → WKO cf (⟨some d, op, some (g, b)⟩ :: r) n l H R) : WKO cf (⟨some d, op, some (g, b)⟩ :: r) n l H R := by
  cases q : c
  · exact h2 q
  · exact h1 q
theorem WKO.gnu {d g : Nat} {b : Bool} {op : XOp} {r : List XOper} (hg : look l g = some undefA) (k : WKO cf r (n + 1) ((d, undefA) :: l) H R) : WKO cf (⟨some d, op, some (g, b)⟩ :: r) n l H R := by
  intro tm ht
  have h := k _ (ht.set d undefA)
  unfold WO at h ⊢
  obtain ⟨s', h1, h2⟩ := h
  refine ⟨s', ?_, h2⟩
  have : xstep cf ⟨tm, H⟩ n ⟨some d, op, some (g, b)⟩ = some ⟨tm.set d (some undefA), H⟩ := by
    simp only [xstep, wantedA, ht _ _ hg, undefA, putT]
  simp only [xops, this]
  exact h1
theorem WKC.nil (h : S l) : WKC cf [] n l H S := fun tm ht => WC.nil ⟨rfl, l, ht, h⟩
theorem WKC.gop {d g : Nat} {b c : Bool} {op : XOp} {r : List XOper} {v : AV} (hg : look l g = some (.bool c)) (hc : c = b) (h : XV cf l H n op = some (v, H)) (ha : allSm l op.opnds = true) (k : WKC cf r (n + 1) ((d, v) :: l) H S) : WKC cf (⟨some d, op, some (g, b)⟩ :: r) n l H S :=
  fun tm ht => WC.gop' (ht _ _ hg) (by rw [hc]) ((xval_kw ht ha).trans h) (k _ (ht.set d v))
theorem WKC.gnoT {d g : Nat} {c : Bool} {op : XOp} {r : List XOper} (hg : look l g = some (.bool c)) (hc : c = false) (k : WKC cf r (n + 1) ((d, undefA) :: l) H S) : WKC cf (⟨some d, op, some (g, true)⟩ :: r) n l H S :=
  fun tm ht => WC.gno' (ht _ _ hg) (by rw [hc]; rfl) (k _ (ht.set d undefA))
theorem WKC.gnoF {d g : Nat} {c : Bool} {op : XOp} {r : List XOper} (hg : look l g = some (.bool c)) (hc : c = true) (k : WKC cf r (n + 1) ((d, undefA) :: l) H S) : WKC cf (⟨some d, op, some (g, false)⟩ :: r) n l H S :=
  fun tm ht => WC.gno' (ht _ _ hg) (by rw [hc]; rfl) (k _ (ht.set d undefA))
theorem WKC.gnu {d g : Nat} {b : Bool} {op : XOp} {r : List XOper} (hg : look l g = some undefA) (k : WKC cf r (n + 1) ((d, undefA) :: l) H S) : WKC cf (⟨some d, op, some (g, b)⟩ :: r) n l H S :=
  fun tm ht => WC.step (tm1 := tm.set d (some undefA)) (by simp only [xstep, wantedA, ht _ _ hg, undefA, putT]) (k _ (ht.set d undefA))
theorem WKC.gsp {d g : Nat} {b : Bool} {op : XOp} {p : Prop} {_ : Decidable p} {r : List XOper} (hg : look l g = some (.bool (decide p))) (h1 : p → WKC cf (⟨some d, op, some (g, b)⟩ :: r) n l H S) (h2 : ¬ p → WKC cf (⟨some d, op, some (g, b)⟩ :: r) n l H S) : WKC cf (⟨some d, op, some (g, b)⟩ :: r) n l H S := by
  by_cases q : p
  · exact h1 q
  · exact h2 q
theorem WKC.gspB {d g : Nat} {b c : Bool} {op : XOp} {r : List XOper} (hg : look l g = some (.bool c)) (h1 : c = true → WKC cf (⟨some d, op, some (g, b)⟩ :: r) n l H S) (h2 : c = false → WKC cf (⟨some d, op, some (g, b)⟩ :: r) n l H S) : WKC cf (⟨some d, op, some (g, b)⟩ :: r) n l H S := by
  cases q : c
  · exact h2 q
  · exact h1 q
theorem notT {c : Bool} (h : c = false) : (!c) = true := by rw [h]; rfl
theorem notF {c : Bool} (h : c = true) : (!c) = false := by rw [h]; rfl
theorem known {p G : Prop} (_ : p) (g : G) : p → G := fun _ => g
/-! ### functions -/
def argsL : List AV → Nat → KL0
  | [], _ => []
  | x :: r, n => (n, x) :: argsL r (n + 1)
theorem argsT_lt : ∀ (as : List AV) (n d : Nat) (t : Tr AV), d < n → (argsT as n t).get d = t.get d
  | [], _, _, _, _ => rfl
  | x :: r, n, d, t, h => by
    unfold argsT
    rw [argsT_lt r (n + 1) d _ (by omega), Tr.get_set_ne _ _ (by omega)]
theorem args_kw : ∀ (as : List AV) (n : Nat) (t : Tr AV), Kw (argsT as n t) (argsL as n)
  | [], _, _ => Kw.nil _
  | x :: r, n, t => by
    intro d v h
    unfold argsL at h
    unfold look at h
    unfold argsT
    split at h
    · rename_i q
      have : d = n := by simpa using q
      subst this
      rw [argsT_lt _ _ _ _ (by omega), Tr.get_set_self]
      exact h
    · exact args_kw r (n + 1) _ d v h
def resK1 (l : KL0) (H : AHeap) : XRes → Option AV
  | .t n => look l n
  | .c a n => (look l a).bind (loadA H n)
def resK (l : KL0) (H : AHeap) : List XRes → Option (List AV)
  | [] => some []
  | r :: rs => (resK1 l H r).bind fun x => (resK l H rs).bind fun xs => some (x :: xs)
theorem resK_L {tm : Tr AV} (ht : Kw tm l) : ∀ {rs : List XRes} {xs : List AV}, resK l H rs = some xs → resL ⟨tm, H⟩ rs = some xs
  | [], xs, h => h
  | r :: rs, xs, h => by
    unfold resK at h
    simp only [Option.bind_eq_some_iff] at h
    obtain ⟨x, h1, ys, h2, h3⟩ := h
    have h4 : resA ⟨tm, H⟩ r = some x := by
      cases r with
      | t n => exact ht _ _ h1
      | c a n =>
        simp only [resK1, Option.bind_eq_some_iff] at h1
        obtain ⟨y, q1, q2⟩ := h1
        simp only [resA, ht _ _ q1, Option.bind_some, q2]
    simp only [resL, h4, resK_L ht h2, bind, Option.bind_some]
    exact h3
theorem xfunc_ofK {fn : XFunc} {args : List AV} (hn : args.length = fn.np) (ht : args.length ≤ fn.nt) {Q : AV → AHeap → Prop}
    (h : WK cf fuel fn.code (argsL args 0) H fun e l' H' => (∀ id, e ≠ .exit id) ∧ ∃ r, resK l' H' fn.res = some r ∧ Q (wrapL r) H') : ∃ v H', xfunc cf fuel fn args H = some (v, H') ∧ Q v H' :=
  xfunc_of hn ht ((h _ (args_kw args 0 .e)).mono fun e s' ⟨l', h1, h2, r, h3, h4⟩ => ⟨h2, r, resK_L h1 h3, h4⟩)
end
/-! ### numbers from 0 on -/
def nA (n : Nat) : AV := .int .i64 (n : Int)
section
variable {cf : CF} {n a b : Nat} {H : AHeap} {l : KL0} {x y : XO}
theorem k_addN (hx : evK l x = some (nA a)) (hy : evK l y = some (nA b)) (h : a + b < 9223372036854775808) : XV cf l H n (.bin .add x y) = some (nA (a + b), H) :=
  op_bin hx hy (by
    show some (AV.int .i64 (wrapA .i64 ((a : Int) + (b : Int)))) = _
    rw [wrapI _ (by omega) (by omega)]
    rfl)
theorem k_subN (hx : evK l x = some (nA a)) (hy : evK l y = some (nA b)) (h : b ≤ a) (h' : a < 9223372036854775808) : XV cf l H n (.bin .sub x y) = some (nA (a - b), H) :=
  op_bin hx hy (by
    show some (AV.int .i64 (wrapA .i64 ((a : Int) - (b : Int)))) = _
    rw [wrapI _ (by omega) (by omega), show (a : Int) - (b : Int) = ((a - b : Nat) : Int) by omega]
    rfl)
theorem k_mulN (hx : evK l x = some (nA a)) (hy : evK l y = some (nA b)) (h : a * b < 9223372036854775808) : XV cf l H n (.bin .mul x y) = some (nA (a * b), H) :=
  op_bin hx hy (by
    show some (AV.int .i64 (wrapA .i64 ((a : Int) * (b : Int)))) = _
    rw [← Int.natCast_mul, wrapI _ (by omega) (by omega)]
    rfl)
theorem k_quoN (hx : evK l x = some (nA a)) (hy : evK l y = some (nA b)) (h : 0 < b) (h' : a < 9223372036854775808) : XV cf l H n (.bin .quo x y) = some (nA (a / b), H) :=
  op_bin hx hy (by
    show (if (b : Int) = 0 then none else some (AV.int .i64 (wrapA .i64 ((a : Int).tdiv (b : Int))))) = _
    have e : (a : Int).tdiv (b : Int) = ((a / b : Nat) : Int) := (Int.ofNat_tdiv a b).symm
    have := Nat.div_le_self a b
    rw [if_neg (by omega), e, wrapI _ (Int.le_trans (by decide) (Int.natCast_nonneg _)) (by omega)]
    rfl)
theorem k_remN (hx : evK l x = some (nA a)) (hy : evK l y = some (nA b)) (h : 0 < b) : XV cf l H n (.bin .rem x y) = some (nA (a % b), H) :=
  op_bin hx hy (by
    show (if (b : Int) = 0 then none else some (AV.int .i64 ((a : Int).tmod (b : Int)))) = _
    rw [if_neg (by omega), ← Int.ofNat_tmod]
    rfl)
theorem k_lssN (hx : evK l x = some (nA a)) (hy : evK l y = some (nA b)) : XV cf l H n (.bin .lss x y) = some (.bool (decide (a < b)), H) :=
  op_bin hx hy (by show some (AV.bool (decide ((a : Int) < (b : Int)))) = _; simp)
theorem k_leqN (hx : evK l x = some (nA a)) (hy : evK l y = some (nA b)) : XV cf l H n (.bin .leq x y) = some (.bool (decide (a ≤ b)), H) :=
  op_bin hx hy (by show some (AV.bool (decide ((a : Int) ≤ (b : Int)))) = _; simp)
theorem k_gtrN (hx : evK l x = some (nA a)) (hy : evK l y = some (nA b)) : XV cf l H n (.bin .gtr x y) = some (.bool (decide (a > b)), H) :=
  op_bin hx hy (by show some (AV.bool (decide ((a : Int) > (b : Int)))) = _; simp)
theorem k_geqN (hx : evK l x = some (nA a)) (hy : evK l y = some (nA b)) : XV cf l H n (.bin .geq x y) = some (.bool (decide (a ≥ b)), H) :=
  op_bin hx hy (by show some (AV.bool (decide ((a : Int) ≥ (b : Int)))) = _; simp)
theorem k_eqlN (hx : evK l x = some (nA a)) (hy : evK l y = some (nA b)) : XV cf l H n (.bin .eql x y) = some (.bool (decide (a = b)), H) :=
  op_bin hx hy (by
    show some (AV.bool ((a : Int) == (b : Int))) = _
    congr 2
    rw [Bool.eq_iff_iff]
    simp
    omega)
theorem k_neqN (hx : evK l x = some (nA a)) (hy : evK l y = some (nA b)) : XV cf l H n (.bin .neq x y) = some (.bool (decide (a ≠ b)), H) :=
  op_bin hx hy (by
    show some (AV.bool ((a : Int) != (b : Int))) = _
    congr 2
    rw [Bool.eq_iff_iff]
    simp
    omega)
theorem k_notD {p : Prop} {_ : Decidable p} (hx : evK l x = some (.bool (decide p))) : XV cf l H n (.un .not x) = some (.bool (decide (¬ p)), H) :=
  op_un hx (by
    show some (AV.bool (!decide p)) = _
    simp)
theorem k_pickT {y z : XO} {c : Bool} {v : AV} (hx : evK l x = some (.bool c)) (hc : c = true) (h : evK l y = some v) : XV cf l H n (.pick x y z) = some (v, H) := op_pick hx (.inl ⟨by rw [hc], h⟩)
theorem k_pickF {y z : XO} {c : Bool} {v : AV} (hx : evK l x = some (.bool c)) (hc : c = false) (h : evK l z = some v) : XV cf l H n (.pick x y z) = some (v, H) := op_pick hx (.inr ⟨by rw [hc], h⟩)
theorem k_mv {v : AV} (hx : evK l x = some v) : XV cf l H n (.mv x) = some (v, H) := op_mv hx
theorem k_bin {u v w : AV} {o : BinOp} (hx : evK l x = some u) (hy : evK l y = some v) (h : binA o u v = some w) : XV cf l H n (.bin o x y) = some (w, H) := op_bin hx hy h
theorem k_un {u v : AV} {o : UnOp} (hx : evK l x = some u) (h : unA o u = some v) : XV cf l H n (.un o x) = some (v, H) := op_un hx h
theorem k_ext {i : Nat} {r : List AV} {v : AV} (hx : evK l x = some (.tup r)) (h : r[i]? = some v) : XV cf l H n (.ext x i) = some (v, H) := op_ext hx h
theorem k_lenL {u : AV} {m : Nat} (hx : evK l x = some u) (h : lenN u = some m) : XV cf l H n (.len x) = some (nA m, H) := op_lenL hx h
theorem k_call {g : Nat} {H1 : AHeap} {v : AV} {xs : List XO} {cs r : List AV} (hx : evK l x = some (.fn g cs)) (hl : evL (evK l) xs = some r) (h : cf g (r ++ cs) H = some (v, H1)) : XV cf l H n (.call x xs) = some (v, H1) := op_call hx hl h
theorem k_faddr {o i p : Nat} (hx : evK l x = some (.ptr i p)) : XV cf l H n (.faddr o x) = some (.ptr i (p + o), H) := op_faddr hx
theorem k_nilc {i p : Nat} (hx : evK l x = some (.ptr i p)) : XV cf l H n (.nilc x) = some (.ptr i p, H) := op_nilc hx
theorem k_eqn {neg : Bool} {k : NK} {u v : AV} {b c : Bool} (hx : evK l x = some u) (hy : evK l y = some v) (h : eqnA k u v = some b) (hc : (b != neg) = c) : XV cf l H n (.eqn neg k x y) = some (.bool c, H) := by
  show xval cf (evK l) H n _ = _
  simp only [xval, xop, hx, hy, h, hc]
theorem k_build {z : List AV} {ps : List (Nat × Nat × XO)} {v : AV} (h : ((evParts (evK l) ps).bind fun q => (fillA z q).map .agg) = some v) : XV cf l H n (.build z ps) = some (v, H) := by
  show xval cf (evK l) H n _ = _
  simp only [xval, xop, h, AR.ofV]
theorem k_any {y : XOp} {r : AV × AHeap} (h : xval cf (evK l) H n y = some r) : XV cf l H n y = some r := h
end
attribute [irreducible] XV Stop WK WKO WKC
end Go.Eng
