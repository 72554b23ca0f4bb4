/- Ranges over maps, walked: whatever the order, one end. No condition. -/
import Derived.Test.YtpbighinamljbaaJC
import Derived.Test.YtpbighinamljbaaJE
set_option linter.unusedSimpArgs false
set_option linter.unusedVariables false
namespace Go.Eng
theorem insAll_mem {α : Type} {x : α} : ∀ {l r : List α}, r ∈ insAll x l → r.Perm (x :: l)
  | [], r, h => by simp only [insAll, List.mem_singleton] at h; rw [h]
  | y :: l, r, h => by
    simp only [insAll, List.mem_cons, List.mem_map] at h
    rcases h with rfl | ⟨q, hq, rfl⟩
    · exact .refl _
    · exact ((insAll_mem hq).cons y).trans (.swap x y l)
theorem permsL_mem {α : Type} : ∀ {l r : List α}, r ∈ permsL l → r.Perm l
  | [], r, h => by simp only [permsL, List.mem_singleton] at h; rw [h]
  | x :: l, r, h => by
    simp only [permsL, List.mem_flatMap] at h
    obtain ⟨q, hq, hr⟩ := h
    exact (insAll_mem hr).trans ((permsL_mem hq).cons x)
theorem dropE_self (e : AV × AV) (l : List (AV × AV)) : dropE e (e :: l) = some l := by simp [dropE, AV.beq_refl]
theorem permEq_refl : ∀ l : List (AV × AV), permEq l l = true
  | [] => rfl
  | e :: l => by simp only [permEq, dropE_self]; exact permEq_refl l
theorem objEq_refl : ∀ o : Option AObj, objEq o o = true
  | none => rfl
  | some (.cells c o) => by simp [objEq, AV.beqL_refl]
  | some (.map es) => by simp [objEq, permEq_refl]
  | some (.lmap es t) => by simp [objEq, permEq_refl]
theorem objEq_none {o : Option AObj} (h : objEq none o = true) : o = none := by
  cases o with
  | none => rfl
  | some x => cases x <;> simp [objEq] at h
theorem objEq_none' {o : Option AObj} (h : objEq o none = true) : o = none := by
  cases o with
  | none => rfl
  | some x => cases x <;> simp [objEq] at h
theorem noneB_of {α : Type} : ∀ {t : Tr α}, (∀ k, t.get k = none) → t.noneB = true
  | .e, _ => rfl
  | .n l v r, h => by
    have h0 : v = none := by simpa [Tr.get] using h 0
    have hl : ∀ k, l.get k = none := fun k => by
      have := h (2 * k + 1)
      simp only [Tr.get] at this
      rwa [if_pos (by simp), show 2 * k / 2 = k by omega] at this
    have hr : ∀ k, r.get k = none := fun k => by
      have := h (2 * k + 1 + 1)
      simp only [Tr.get] at this
      rwa [if_neg (by simp), show (2 * k + 1) / 2 = k by omega] at this
    simp [Tr.noneB, noneB_of hl, noneB_of hr, h0]
theorem trEq_of : ∀ {t t' : Tr AObj}, (∀ k, objEq (t.get k) (t'.get k) = true) → trEq t t' = true
  | .e, t', h => by
    cases t' <;> exact noneB_of fun k => objEq_none (by have := h k; rwa [Tr.get_e] at this)
  | .n l v r, .e, h => noneB_of (t := .n l v r) fun k => objEq_none' (by have := h k; rwa [Tr.get_e] at this)
  | .n l v r, .n l' v' r', h => by
    have h0 : objEq v v' = true := by simpa [Tr.get] using h 0
    have hl : trEq l l' = true := trEq_of fun k => by
      have := h (2 * k + 1)
      simp only [Tr.get] at this
      rwa [if_pos (by simp), if_pos (by simp), show 2 * k / 2 = k by omega] at this
    have hr : trEq r r' = true := trEq_of fun k => by
      have := h (2 * k + 1 + 1)
      simp only [Tr.get] at this
      rwa [if_neg (by simp), if_neg (by simp), show (2 * k + 1) / 2 = k by omega] at this
    simp [trEq, h0, hl, hr]
theorem tmMeet_get : ∀ {t t' : Tr AV} {d : Nat} {v : AV}, t.get d = some v → t'.get d = some v → (tmMeet t t').get d = some v
  | .e, _, d, v, h, _ => by simp [Tr.get] at h
  | .n _ _ _, .e, d, v, _, h => by simp [Tr.get] at h
  | .n l x r, .n l' x' r', 0, v, h, h' => by
    simp only [Tr.get] at h h'
    simp only [tmMeet, Tr.get, h, h', AV.beq_refl, if_true]
  | .n l x r, .n l' x' r', d + 1, v, h, h' => by
    simp only [Tr.get] at h h'
    simp only [tmMeet, Tr.get]
    split
    · rename_i q
      rw [if_pos q] at h h'
      exact tmMeet_get h h'
    · rename_i q
      rw [if_neg q] at h h'
      exact tmMeet_get h h'
theorem meetR_ex : ∀ (l : List (Option (XE × St))) (s : St) (P : St → Prop), P s → (∀ q ∈ l, ∃ s', q = some (.normal, s') ∧ P s') → (∀ s s', P s → P s' → trEq s.H.m s'.H.m = true) →
    ∀ s0 : St, s0.H.m = s.H.m → s.H.next ≤ s0.H.next → (∀ d v, (∀ t, P t → t.tm.get d = some v) → s0.tm.get d = some v) →
    ∃ s1, meetR .normal s0 l = some (.normal, s1) ∧ s1.H.m = s.H.m ∧ s.H.next ≤ s1.H.next ∧ ∀ d v, (∀ t, P t → t.tm.get d = some v) → s1.tm.get d = some v
  | [], s, P, hs, _, _, s0, h1, h2, h3 => ⟨s0, rfl, h1, h2, h3⟩
  | q :: l, s, P, hs, hl, ht, s0, h1, h2, h3 => by
    obtain ⟨s', rfl, hs'⟩ := hl q (by simp)
    obtain ⟨s1, q1, q2, q3, q4⟩ := meetR_ex l s P hs (fun q hq => hl q (by simp [hq])) ht ⟨tmMeet s0.tm s'.tm, ⟨s0.H.m, Nat.max s0.H.next s'.H.next⟩⟩ h1 (Nat.le_trans h2 (Nat.le_max_left _ _)) (fun d v hd => tmMeet_get (h3 d v hd) (hd s' hs'))
    refine ⟨s1, ?_, q2, q3, q4⟩
    have e : (XE.beq .normal .normal && trEq s0.H.m s'.H.m) = true := by rw [h1, ht s s' hs hs']; rfl
    rw [meetR, if_pos e]
    exact q1
theorem meetAll_ex {l : List (Option (XE × St))} {P : St → Prop} (hne : l ≠ []) (hl : ∀ q ∈ l, ∃ s', q = some (.normal, s') ∧ P s') (ht : ∀ s s', P s → P s' → trEq s.H.m s'.H.m = true) :
    ∃ s s1, P s ∧ meetAll l = some (.normal, s1) ∧ s1.H.m = s.H.m ∧ s.H.next ≤ s1.H.next ∧ ∀ d v, (∀ t, P t → t.tm.get d = some v) → s1.tm.get d = some v := by
  cases l with
  | nil => exact absurd rfl hne
  | cons q l =>
    obtain ⟨s, rfl, hs⟩ := hl q (by simp)
    obtain ⟨s1, h⟩ := meetR_ex l s P hs (fun q hq => hl q (by simp [hq])) ht s rfl (Nat.le_refl _) (fun d v hd => hd s hs)
    exact ⟨s, s1, hs, h⟩
/-- Temporaries that are not named stay known. -/
def notIn (a b : Nat) (l : KL0) : Bool := l.all fun p => !(Nat.beq p.1 a) && !(Nat.beq p.1 b)
theorem look_ne {l : KL0} {a b d : Nat} {v : AV} (h : notIn a b l = true) (hd : look l d = some v) : d ≠ a ∧ d ≠ b := by
  induction l with
  | nil => cases hd
  | cons p l ih =>
    obtain ⟨e, u⟩ := p
    simp only [notIn, List.all_cons, Bool.and_eq_true, Bool.not_eq_true'] at h
    unfold look at hd
    split at hd
    · rename_i q
      have : d = e := by simpa using q
      subst this
      obtain ⟨⟨h1, h2⟩, _⟩ := h
      exact ⟨fun w => by subst w; simp at h1, fun w => by subst w; simp at h2⟩
    · exact ih (by unfold notIn; exact h.2) hd
theorem Kw.drop {tm : Tr AV} {l : KL0} {a b : Nat} (h : Kw tm l) (hn : notIn a b l = true) : Kw ((tm.set a none).set b none) l := fun d v hd => by
  obtain ⟨h1, h2⟩ := look_ne hn hd
  rw [Tr.get_set_ne _ _ h2, Tr.get_set_ne _ _ h1]
  exact h d v hd
section
variable {cf : CF} {fuel : Nat}
/-- One order's run. -/
theorem mrun_ex {i it t tl nx mo out : Nat} {rnd : AV × AV → St → Option (XE × St)} {es : List (AV × AV)} (L : List (AV × AV) → KL0) (I : List (AV × AV) → AHeap → Prop)
    (hlk : ∀ done H, I done H → isLock tl (H.get i) = true) (hit : ∀ done, look (L done) it = some (.ptr t 0)) (hnm : ∀ done, notIn nx mo (L done) = true)
    (hstep : ∀ done e todo, (done ++ e :: todo).Perm es → ∀ s, Kw s.tm (L done) → I done s.H → ∃ s', rnd e s = some (.normal, s') ∧ Kw s'.tm (L (done ++ [e])) ∧ I (done ++ [e]) s'.H) :
    ∀ (todo done : List (AV × AV)) (s : St), (done ++ todo).Perm es → Kw s.tm (L done) → I done s.H →
      ∃ s', mrun (fun s => isLock tl (s.H.get i) && isIt t (s.tm.get it)) (fun s => ⟨(s.tm.set nx none).set mo none, s.H⟩) rnd out todo s = some (.normal, s') ∧ Kw s'.tm (L (done ++ todo)) ∧ I (done ++ todo) s'.H
  | [], done, s, hp, hk, hI => by
    have hok : (isLock tl (s.H.get i) && isIt t (s.tm.get it)) = true := by rw [hlk done _ hI, hk _ _ (hit done)]; simp [isIt]
    refine ⟨⟨(s.tm.set nx none).set mo none, s.H⟩, by simp only [mrun, hok, if_true], ?_, by simpa using hI⟩
    rw [List.append_nil]
    exact hk.drop (hnm done)
  | e :: todo, done, s, hp, hk, hI => by
    have hok : (isLock tl (s.H.get i) && isIt t (s.tm.get it)) = true := by rw [hlk done _ hI, hk _ _ (hit done)]; simp [isIt]
    obtain ⟨s1, h1, h2, h3⟩ := hstep done e todo hp s hk hI
    obtain ⟨s', q1, q2, q3⟩ := mrun_ex L I hlk hit hnm hstep todo (done ++ [e]) s1 (by simpa using hp) h2 h3
    refine ⟨s', ?_, by simpa using q2, by simpa using q3⟩
    simp only [mrun, hok, if_true, h1]
    exact q1
theorem mrounds_ex {i it t tl nx mo out : Nat} {rnd : AV × AV → St → Option (XE × St)} {es : List (AV × AV)} {s : St} (L : List (AV × AV) → KL0) (I : List (AV × AV) → AHeap → Prop) (Lf : KL0)
    (hlk : ∀ done H, I done H → isLock tl (H.get i) = true) (hit : ∀ done, look (L done) it = some (.ptr t 0)) (hnm : ∀ done, notIn nx mo (L done) = true)
    (hstep : ∀ done e todo, (done ++ e :: todo).Perm es → ∀ s, Kw s.tm (L done) → I done s.H → ∃ s', rnd e s = some (.normal, s') ∧ Kw s'.tm (L (done ++ [e])) ∧ I (done ++ [e]) s'.H)
    (h0 : Kw s.tm (L [])) (hI0 : I [] s.H) (hmeet : ∀ r r' H H', r.Perm es → r'.Perm es → I r H → I r' H' → ∀ k, objEq (H.get k) (H'.get k) = true) (hf : ∀ r, r.Perm es → Sub (L r) Lf) :
    ∃ r H1 s1, r.Perm es ∧ I r H1 ∧ mrounds i it t tl nx mo out rnd es s = some (.normal, s1) ∧ s1.H.m = H1.m ∧ H1.next ≤ s1.H.next ∧ Kw s1.tm Lf := by
  have hall : ∀ q ∈ (permsL es).map (fun r => mrun (fun s => isLock tl (s.H.get i) && isIt t (s.tm.get it)) (fun s => ⟨(s.tm.set nx none).set mo none, s.H⟩) rnd out r s), ∃ s', q = some (.normal, s') ∧ ∃ r, r.Perm es ∧ Kw s'.tm (L r) ∧ I r s'.H := by
    intro q hq
    obtain ⟨r, hr, rfl⟩ := List.mem_map.1 hq
    obtain ⟨s', h1, h2, h3⟩ := mrun_ex (out := out) L I hlk hit hnm hstep r [] s (by simpa using permsL_mem hr) h0 hI0
    exact ⟨s', h1, r, permsL_mem hr, by simpa using h2, by simpa using h3⟩
  obtain ⟨s0, s1, ⟨r, p1, p2, p3⟩, q1, q2, q3, q4⟩ := meetAll_ex (P := fun s' => ∃ r, r.Perm es ∧ Kw s'.tm (L r) ∧ I r s'.H) (by
    intro w
    have := List.map_eq_nil_iff.1 w
    have hm := perms_mem (List.Perm.refl es)
    rw [this] at hm
    cases hm) hall (fun s s' ⟨r, a1, _, a3⟩ ⟨r', b1, _, b3⟩ => trEq_of (hmeet r r' _ _ a1 b1 a3 b3))
  exact ⟨r, s0.H, s1, p1, p3, q1, q2, q3, fun d v hd => q4 d v fun t ⟨r, a1, a2, _⟩ => a2 d v (hf r a1 d v hd)⟩
theorem WKO.use {ops : List XOper} {n : Nat} {l : KL0} {H : AHeap} {R : KL0 → AHeap → Prop} (h : WKO cf ops n l H R) {tm : Tr AV} (ht : Kw tm l) : ∃ s', xops cf ops n ⟨tm, H⟩ = some s' ∧ ∃ l', Kw s'.tm l' ∧ R l' s'.H := by
  unfold WKO at h
  have := h tm ht
  unfold WO at this
  exact this
theorem WK.use {c : XCode} {l : KL0} {H : AHeap} {Q : XE → KL0 → AHeap → Prop} (h : WK cf fuel c l H Q) {tm : Tr AV} (ht : Kw tm l) : ∃ e s', xcode cf fuel c ⟨tm, H⟩ = some (e, s') ∧ ∃ l', Kw s'.tm l' ∧ Q e l' s'.H := by
  unfold WK at h
  have := h tm ht
  unfold W at this
  exact this
/-- The code of one round. -/
def rndF (cf : CF) (fuel : Nat) (nx mo pr nb : Nat) (rest : List XOper) (code : XCode) (e : AV × AV) (s : St) : Option (XE × St) :=
  match xops cf rest (s.H.next + 1) (Go.Eng.bump ⟨((s.tm.set nx none).set mo none).set pr (some (.tup [e.1, e.2])), s.H⟩ (rest.length + 1)) with
  | none => none
  | some s2 => match xcode cf fuel code s2 with
    | some (.exit i, s3) => if i = nb then some (.normal, s3) else some (.exit i, s3)
    | r => r
theorem rnd_ex {nx mo pr nb k : Nat} {rest : List XOper} {code : XCode} {e : AV × AV} {s : St} {L : KL0} {Q : KL0 → AHeap → Prop} (hk : Kw s.tm L) (hnm : notIn nx mo L = true) (hlen : rest.length + 1 = k)
    (h : WKO cf rest (s.H.next + 1) ((pr, .tup [e.1, e.2]) :: L) (s.H.bump k) fun l3 H3 => WK cf fuel code l3 H3 fun x l4 H4 => (x = .normal ∨ x = .exit nb) ∧ Q l4 H4) :
    ∃ s', rndF cf fuel nx mo pr nb rest code e s = some (.normal, s') ∧ ∃ l4, Kw s'.tm l4 ∧ Q l4 s'.H := by
  subst hlen
  obtain ⟨s2, q1, l3, q2, q3⟩ := h.use ((hk.drop hnm).set pr _)
  obtain ⟨x, s3, r1, l4, r2, r3, r4⟩ := q3.use q2
  refine ⟨s3, ?_, l4, r2, r4⟩
  have q1' : xops cf rest (s.H.next + 1) (Go.Eng.bump ⟨((s.tm.set nx none).set mo none).set pr (some (.tup [e.1, e.2])), s.H⟩ (rest.length + 1)) = some s2 := q1
  have r1' : xcode cf fuel code s2 = some (x, s3) := r1
  unfold rndF
  simp only [q1', r1']
  rcases r3 with rfl | rfl <;> simp
/-- A range over a map that is not being ranged over. -/
theorem WK.mrange {pre rest : List XOper} {it : Nat} {m : XO} {out nx mo nb pr k k' : Nat} {code : XCode} {l : KL0} {H : AHeap} {Q : XE → KL0 → AHeap → Prop} (hlen : pre.length + 1 = k) (hlen' : rest.length + 1 = k')
    (h : WKO cf pre H.next l (H.bump k) fun l1 H1 => ∃ (i : Nat) (es : List (AV × AV)) (L : List (AV × AV) → KL0) (I : List (AV × AV) → AHeap → Prop) (Lf : KL0), evK l1 m = some (.map i) ∧ H1.get i = some (.map es) ∧
      Sub ((it, .ptr H1.next 0) :: l1) (L []) ∧ I [] ⟨H1.m.set i (some (.lmap es H1.next)), H1.next + 1⟩ ∧
      (∀ done H2, I done H2 → H2.get i = some (.lmap es H1.next)) ∧ (∀ done, look (L done) it = some (.ptr H1.next 0)) ∧ (∀ done, notIn nx mo (L done) = true) ∧
      (∀ done e todo, (done ++ e :: todo).Perm es → ∀ H2, I done H2 → WKO cf rest (H2.next + 1) ((pr, .tup [e.1, e.2]) :: L done) (H2.bump k') fun l3 H3 => WK cf fuel code l3 H3 fun x l4 H4 => (x = .normal ∨ x = .exit nb) ∧ Sub l4 (L (done ++ [e])) ∧ I (done ++ [e]) H4) ∧
      (∀ r r' H2 H3, r.Perm es → r'.Perm es → I r H2 → I r' H3 → ∀ j, objEq (H2.get j) (H3.get j) = true) ∧ (∀ r, r.Perm es → Sub (L r) Lf) ∧
      (∀ r H2 H3, r.Perm es → I r H2 → (∀ j, H3.get j = if j = i then some (.map es) else H2.get j) → H2.next ≤ H3.next → Q .normal Lf H3)) :
    WK cf fuel (.mrange pre it m out nx mo nb pr rest code) l H Q := by
  subst hlen
  unfold WK
  intro tm ht
  obtain ⟨s1, q1, l1, q2, i, es, L, I, Lf, hm, hi, hs0, hI0, hlk, hit, hnm, hstep, hmeet, hf, hQ⟩ := h.use ht
  obtain ⟨r, H1, s2, p1, p2, p3, p4, p5, p6⟩ := mrounds_ex (out := out) (i := i) (t := s1.H.next) (tl := s1.H.next) (rnd := rndF cf fuel nx mo pr nb rest code) (s := ⟨s1.tm.set it (some (.ptr s1.H.next 0)), ⟨s1.H.m.set i (some (.lmap es s1.H.next)), s1.H.next + 1⟩⟩) L I Lf
    (fun done H2 q => by rw [hlk done H2 q]; simp [isLock]) hit hnm (fun done e todo hp s hk hI => by
      obtain ⟨s', a1, l4, a2, a3, a4⟩ := rnd_ex hk (hnm done) hlen' (hstep done e todo hp s.H hI)
      exact ⟨s', a1, a2.sub a3, a4⟩) ((q2.set it _).sub hs0) hI0 hmeet hf
  have hget : s2.H.get i = some (.lmap es s1.H.next) := by
    unfold AHeap.get
    rw [p4]
    exact hlk r H1 p2
  unfold W
  refine ⟨.normal, ⟨s2.tm, s2.H.set i (some (.map es))⟩, ?_, Lf, p6, hQ r H1 _ p1 p2 (fun j => ?_) p5⟩
  · have q1' : xops cf pre H.next (Go.Eng.bump ⟨tm, H⟩ (pre.length + 1)) = some s1 := q1
    have p3' : mrounds i it s1.H.next s1.H.next nx mo out (fun (e : AV × AV) (s : St) =>
        match xops cf rest (s.H.next + 1) (Go.Eng.bump ⟨((s.tm.set nx none).set mo none).set pr (some (.tup [e.1, e.2])), s.H⟩ (rest.length + 1)) with
        | none => none
        | some s2 => match xcode cf fuel code s2 with
          | some (.exit i, s3) => if i = nb then some (.normal, s3) else some (.exit i, s3)
          | r => r) es ⟨s1.tm.set it (some (.ptr s1.H.next 0)), ⟨s1.H.m.set i (some (.lmap es s1.H.next)), s1.H.next + 1⟩⟩ = some (.normal, s2) := p3
    simp only [xcode, q1', q2.ev hm, hi]
    refine (congrArg (fun z => z.bind (unlockA i s1.H.next)) p3').trans ?_
    show unlockA i s1.H.next (.normal, s2) = _
    simp only [unlockA, hget, if_true]
  · rw [AHeap.get_set]
    split
    · rfl
    · unfold AHeap.get
      rw [p4]
/-- A range over a map that is being ranged over, whose rounds leave the heap alone. -/
theorem WK.mrangeL {pre rest : List XOper} {it : Nat} {m : XO} {out nx mo nb pr k k' : Nat} {code : XCode} {l : KL0} {H : AHeap} {Q : XE → KL0 → AHeap → Prop} (hlen : pre.length + 1 = k) (hlen' : rest.length + 1 = k')
    (h : WKO cf pre H.next l (H.bump k) fun l1 H1 => ∃ (i tl : Nat) (es : List (AV × AV)) (L : List (AV × AV) → KL0) (Lf : KL0), evK l1 m = some (.map i) ∧ H1.get i = some (.lmap es tl) ∧
      Sub ((it, .ptr H1.next 0) :: l1) (L []) ∧ (∀ done, look (L done) it = some (.ptr H1.next 0)) ∧ (∀ done, notIn nx mo (L done) = true) ∧
      (∀ done e todo, (done ++ e :: todo).Perm es → ∀ H2 : AHeap, H2.m = H1.m → H1.next ≤ H2.next → WKO cf rest (H2.next + 1) ((pr, .tup [e.1, e.2]) :: L done) (H2.bump k') fun l3 H3 => WK cf fuel code l3 H3 fun x l4 H4 => (x = .normal ∨ x = .exit nb) ∧ Sub l4 (L (done ++ [e])) ∧ H4.m = H1.m ∧ H1.next ≤ H4.next) ∧
      (∀ r, r.Perm es → Sub (L r) Lf) ∧ (∀ H3 : AHeap, H3.m = H1.m → H1.next ≤ H3.next → Q .normal Lf H3)) :
    WK cf fuel (.mrange pre it m out nx mo nb pr rest code) l H Q := by
  subst hlen
  unfold WK
  intro tm ht
  obtain ⟨s1, q1, l1, q2, i, tl, es, L, Lf, hm, hi, hs0, hit, hnm, hstep, hf, hQ⟩ := h.use ht
  have hg : ∀ H2 : AHeap, H2.m = s1.H.m → ∀ j, H2.get j = s1.H.get j := fun H2 q j => by unfold AHeap.get; rw [q]
  obtain ⟨r, H1, s2, p1, p2, p3, p4, p5, p6⟩ := mrounds_ex (out := out) (i := i) (t := s1.H.next) (tl := tl) (rnd := rndF cf fuel nx mo pr nb rest code) (s := ⟨s1.tm.set it (some (.ptr s1.H.next 0)), ⟨s1.H.m, s1.H.next + 1⟩⟩) L (fun _ H2 => H2.m = s1.H.m ∧ s1.H.next ≤ H2.next) Lf
    (fun done H2 q => by rw [hg H2 q.1, hi]; simp [isLock]) hit hnm (fun done e todo hp s hk hI => by
      obtain ⟨s', a1, l4, a2, a3, a4⟩ := rnd_ex hk (hnm done) hlen' (hstep done e todo hp s.H hI.1 hI.2)
      exact ⟨s', a1, a2.sub a3, a4⟩) ((q2.set it _).sub hs0) ⟨rfl, Nat.le_succ _⟩ (fun r r' H2 H3 _ _ a b j => by rw [hg H2 a.1, hg H3 b.1]; exact objEq_refl _) hf
  unfold W
  refine ⟨.normal, s2, ?_, Lf, p6, hQ s2.H (p4.trans p2.1) (Nat.le_trans p2.2 p5)⟩
  have q1' : xops cf pre H.next (Go.Eng.bump ⟨tm, H⟩ (pre.length + 1)) = some s1 := q1
  have p3' : mrounds i it s1.H.next tl nx mo out (fun (e : AV × AV) (s : St) =>
      match xops cf rest (s.H.next + 1) (Go.Eng.bump ⟨((s.tm.set nx none).set mo none).set pr (some (.tup [e.1, e.2])), s.H⟩ (rest.length + 1)) with
      | none => none
      | some s2 => match xcode cf fuel code s2 with
        | some (.exit i, s3) => if i = nb then some (.normal, s3) else some (.exit i, s3)
        | r => r) es ⟨s1.tm.set it (some (.ptr s1.H.next 0)), ⟨s1.H.m, s1.H.next + 1⟩⟩ = some (.normal, s2) := p3
  simp only [xcode, q1', q2.ev hm, hi]
  exact p3'
end
end Go.Eng
/- What is known of some objects, and what is left as it was: rules for walks. No condition. -/
set_option linter.unusedSimpArgs false
set_option linter.unusedVariables false
namespace Go.Eng
/-- Objects that are known, below a bound; all that was there before stays, but for some. -/
structure HF (H0 : AHeap) (mod : List Nat) (T : Nat) (fs : List (Nat × AObj)) (H : AHeap) : Prop where
  obj : ∀ p ∈ fs, H.get p.1 = some p.2
  lt : ∀ p ∈ fs, p.1 < T
  nd : (fs.map (·.1)).Nodup
  base : H0.next ≤ T
  le : T ≤ H.next
  fr : ∀ k, k < H0.next → k ∉ mod → H.get k = H0.get k
section
variable {cf : CF} {n : Nat} {H0 H H' : AHeap} {mod : List Nat} {T : Nat} {fs : List (Nat × AObj)} {l : KL0} {x y : XO} {r : List XOper} {R : KL0 → AHeap → Prop}
theorem HF.up (h : HF H0 mod T fs H) (hm : H'.m = H.m) (hn : H.next ≤ H'.next) : HF H0 mod T fs H' := by
  have hg : ∀ k, H'.get k = H.get k := fun k => by unfold AHeap.get; rw [hm]
  exact ⟨fun p hp => (hg _).trans (h.obj p hp), h.lt, h.nd, h.base, Nat.le_trans h.le hn, fun k h1 h2 => (hg k).trans (h.fr k h1 h2)⟩
theorem HF.sub {gs : List (Nat × AObj)} {T' : Nat} (h : HF H0 mod T fs H) (hs : gs.Sublist fs) (hT : T ≤ T') (hn : T' ≤ H.next) : HF H0 mod T' gs H :=
  ⟨fun p hp => h.obj p (hs.subset hp), fun p hp => Nat.lt_of_lt_of_le (h.lt p (hs.subset hp)) hT, h.nd.sublist (hs.map _), Nat.le_trans h.base hT, hn, h.fr⟩
/-- Behind a call that leaves these as they were. -/
theorem HF.call {mod' : List Nat} (h : HF H0 mod T fs H) (hf : ∀ k, k < H.next → k ∉ mod' → H'.get k = H.get k) (hn : H.next ≤ H'.next) (hm : ∀ k, k ∈ mod' → k ∈ mod ∨ H0.next ≤ k) (hd : ∀ p ∈ fs, p.1 ∉ mod') : HF H0 mod T fs H' :=
  ⟨fun p hp => (hf _ (Nat.lt_of_lt_of_le (h.lt p hp) h.le) (hd p hp)).trans (h.obj p hp), h.lt, h.nd, h.base, Nat.le_trans h.le hn, fun k h1 h2 => (hf k (Nat.lt_of_lt_of_le h1 (Nat.le_trans h.base h.le)) (fun w => by
    rcases hm k w with w | w
    · exact h2 w
    · omega)).trans (h.fr k h1 h2)⟩
/-- A further object is known. -/
theorem HF.add {i : Nat} {o : AObj} (h : HF H0 mod T fs H) (hg : H.get i = some o) (hi : i < T) (hn : i ∉ fs.map (·.1)) : HF H0 mod T ((i, o) :: fs) H where
  obj := fun p hp => by
    rcases List.mem_cons.1 hp with rfl | hp
    · exact hg
    · exact h.obj p hp
  lt := fun p hp => by
    rcases List.mem_cons.1 hp with rfl | hp
    · exact hi
    · exact h.lt p hp
  nd := by rw [List.map_cons, List.nodup_cons]; exact ⟨hn, h.nd⟩
  base := h.base
  le := h.le
  fr := h.fr
/-- A new object. -/
theorem HF.new {o : AObj} {H1 : AHeap} (h : HF H0 mod T fs H) (hT : T ≤ n) (hn : n < H1.next) (h1 : H1.get n = some o) (h2 : ∀ k, k ≠ n → H1.get k = H.get k) : HF H0 mod (n + 1) ((n, o) :: fs) H1 where
  obj := fun p hp => by
    rcases List.mem_cons.1 hp with rfl | hp
    · exact h1
    · rw [h2 _ (by have := h.lt p hp; omega)]; exact h.obj p hp
  lt := fun p hp => by
    rcases List.mem_cons.1 hp with rfl | hp
    · exact Nat.lt_succ_self _
    · have := h.lt p hp; omega
  nd := by
    rw [List.map_cons, List.nodup_cons]
    refine ⟨fun w => ?_, h.nd⟩
    obtain ⟨p, hp, e⟩ := List.mem_map.1 w
    have := h.lt p hp
    simp only at e
    omega
  base := by have := h.base; omega
  le := hn
  fr := fun k hk hm => (h2 k (by have := h.base; omega)).trans (h.fr k hk hm)
/-- An object is written. -/
theorem HF.put {gs : List (Nat × AObj)} {i : Nat} {o o' : AObj} {H1 : AHeap} (h : HF H0 mod T (gs ++ (i, o) :: fs) H) (hi : i ∈ mod ∨ H0.next ≤ i) (hn : H1.next = H.next) (h1 : H1.get i = some o') (h2 : ∀ k, k ≠ i → H1.get k = H.get k) : HF H0 mod T (gs ++ (i, o') :: fs) H1 where
  obj := fun p hp => by
    have hnd := h.nd
    rw [List.map_append, List.map_cons, List.nodup_append] at hnd
    obtain ⟨_, nd2, nd3⟩ := hnd
    rw [List.nodup_cons] at nd2
    rcases List.mem_append.1 hp with hp | hp
    · rw [h2 _ (fun e => nd3 _ (List.mem_map.2 ⟨p, hp, rfl⟩) _ (List.mem_cons_self ..) e)]
      exact h.obj p (List.mem_append.2 (.inl hp))
    · rcases List.mem_cons.1 hp with rfl | hp
      · exact h1
      · rw [h2 _ (fun e => nd2.1 (List.mem_map.2 ⟨p, hp, e⟩))]
        exact h.obj p (List.mem_append.2 (.inr (List.mem_cons_of_mem _ hp)))
  lt := fun p hp => by
    rcases List.mem_append.1 hp with hp | hp
    · exact h.lt p (List.mem_append.2 (.inl hp))
    · rcases List.mem_cons.1 hp with rfl | hp
      · exact h.lt (i, o) (List.mem_append.2 (.inr (List.mem_cons_self ..)))
      · exact h.lt p (List.mem_append.2 (.inr (List.mem_cons_of_mem _ hp)))
  nd := by
    have := h.nd
    rwa [List.map_append, List.map_cons] at this ⊢
  base := h.base
  le := by rw [hn]; exact h.le
  fr := fun k hk hm => (h2 k (fun e => by
    subst e
    rcases hi with hi | hi
    · exact hm hi
    · omega)).trans (h.fr k hk hm)
/-! ### reads -/
theorem k_ldO {i p : Nat} {c : List AV} {opn : Option Nat} {v : AV} (hx : evK l x = some (.ptr i p)) (hF : HF H0 mod T fs H) (hm : H'.m = H.m) (ho : (i, .cells c opn) ∈ fs) (hc : c[p]? = some v) : XV cf l H' n (.load none x) = some (v, H') :=
  k_any (op_loadc hx (by unfold AHeap.get; rw [hm]; exact hF.obj _ ho) hc)
theorem k_ldA {i m : Nat} {c : List AV} {opn : Option Nat} (hx : evK l x = some (.ptr i 0)) (hF : HF H0 mod T fs H) (hm : H'.m = H.m) (ho : (i, .cells c opn) ∈ fs) (hc : c.length = m) : XV cf l H' n (.load (some m) x) = some (.agg c, H') := by
  have hg : H'.get i = some (.cells c opn) := by unfold AHeap.get; rw [hm]; exact hF.obj _ ho
  have := op_loadn (cf := cf) (m := n) (n := m) (i := i) (o := 0) (ev := evK l) (x := x) hx hg (by omega)
  rw [List.drop_zero, List.take_of_length_le (by omega)] at this
  exact k_any this
/-! ### writes -/
theorem WKO.newO {d : Nat} {op : XOp} {v : AV} {o : AObj} (hop : xval cf (evK l) H' n op = some (v, H'.set n (some o))) (ha : allSm l op.opnds = true) (hF : HF H0 mod T fs H) (hm : H'.m = H.m) (hn : H.next ≤ H'.next) (hT : T ≤ n) (hlt : n < H'.next)
    (k : ∀ H1, HF H0 mod (n + 1) ((n, o) :: fs) H1 → H1.next = H'.next → WKO cf r (n + 1) ((d, v) :: l) H1 R) : WKO cf (⟨some d, op, none⟩ :: r) n l H' R :=
  WKO.op (k_any hop) ha (k (H'.set n (some o)) ((hF.up hm hn).new hT (by rw [next_set]; exact hlt) (by rw [AHeap.get_set, if_pos rfl]) (fun k hk => by rw [AHeap.get_set, if_neg hk])) rfl)
theorem WKO.boxO {d : Nat} {v : AV} (hx : evK l x = some v) (hF : HF H0 mod T fs H) (hm : H'.m = H.m) (hn : H.next ≤ H'.next) (hT : T ≤ n) (hlt : n < H'.next)
    (k : ∀ H1, HF H0 mod (n + 1) ((n, .cells v.cells none) :: fs) H1 → H1.next = H'.next → WKO cf r (n + 1) ((d, .ptr n 0) :: l) H1 R) : WKO cf (⟨some d, .box x, none⟩ :: r) n l H' R :=
  WKO.newO (op := .box x) (by simp only [xval, xop, hx]) (by simp [allSm, XOp.opnds, hx]) hF hm hn hT hlt k
theorem WKO.alO {d : Nat} {z : List AV} (hF : HF H0 mod T fs H) (hm : H'.m = H.m) (hn : H.next ≤ H'.next) (hT : T ≤ n) (hlt : n < H'.next)
    (k : ∀ H1, HF H0 mod (n + 1) ((n, .cells z none) :: fs) H1 → H1.next = H'.next → WKO cf r (n + 1) ((d, .ptr n 0) :: l) H1 R) : WKO cf (⟨some d, .alloc z, none⟩ :: r) n l H' R :=
  WKO.newO (op := .alloc z) (by simp only [xval, xop]) rfl hF hm hn hT hlt k
theorem WKO.mapO {d : Nat} (hF : HF H0 mod T fs H) (hm : H'.m = H.m) (hn : H.next ≤ H'.next) (hT : T ≤ n) (hlt : n < H'.next)
    (k : ∀ H1, HF H0 mod (n + 1) ((n, .map []) :: fs) H1 → H1.next = H'.next → WKO cf r (n + 1) ((d, .map n) :: l) H1 R) : WKO cf (⟨some d, .mkmap, none⟩ :: r) n l H' R :=
  WKO.newO (op := .mkmap) (by simp only [xval, xop]) rfl hF hm hn hT hlt k
theorem WKO.bsO {d m : Nat} {z new : List AV} {ps : List (Nat × Nat × XO)} (hps : (evParts (evK l) ps).bind (fillA (List.replicate m z).flatten) = some new) (ha : allSm l (XOp.bslice z ps m).opnds = true) (hF : HF H0 mod T fs H) (hm : H'.m = H.m) (hn : H.next ≤ H'.next) (hT : T ≤ n) (hlt : n < H'.next)
    (k : ∀ H1, HF H0 mod (n + 1) ((n, .cells new none) :: fs) H1 → H1.next = H'.next → WKO cf r (n + 1) ((d, .sl n 0 m m) :: l) H1 R) : WKO cf (⟨some d, .bslice z ps m, none⟩ :: r) n l H' R :=
  WKO.newO (op := .bslice z ps m) (by simp only [xval, xop, hps]) ha hF hm hn hT hlt k
theorem WKO.stG {gs : List (Nat × AObj)} {i p m : Nat} {c : List AV} {opn : Option Nat} {v : AV} {a x : XO} (ha : evK l a = some (.ptr i p)) (hx : evK l x = some v) (hF : HF H0 mod T (gs ++ (i, .cells c opn) :: fs) H) (hm : H'.m = H.m) (hn : H.next ≤ H'.next) (hi : i ∈ mod ∨ H0.next ≤ i) (hl : v.cells.length = m) (h1 : v.cells.all AV.oneCell = true) (hf : p + m ≤ c.length)
    (k : ∀ H1, HF H0 mod T (gs ++ (i, .cells (overA c p v.cells) opn) :: fs) H1 → H1.next = H'.next → WKO cf r (n + 1) l H1 R) : WKO cf (⟨none, .store m a x, none⟩ :: r) n l H' R := by
  have hF' := hF.up hm hn
  unfold WKO at k ⊢
  intro tm ht
  exact WO.store (ht.ev ha) (ht.ev hx) (hF'.obj (i, _) (List.mem_append.2 (.inr (List.mem_cons_self ..)))) hl h1 hf (fun H1 q1 q2 q3 => k H1 (hF'.put hi q3 q1 q2) q3 tm ht)
theorem WKO.stO0 {i p m : Nat} {c : List AV} {opn : Option Nat} {v : AV} {a x : XO} (ha : evK l a = some (.ptr i p)) (hx : evK l x = some v) (hF : HF H0 mod T ((i, .cells c opn) :: fs) H) (hm : H'.m = H.m) (hn : H.next ≤ H'.next) (hi : i ∈ mod ∨ H0.next ≤ i) (hl : v.cells.length = m) (h1 : v.cells.all AV.oneCell = true) (hf : p + m ≤ c.length)
    (k : ∀ H1, HF H0 mod T ((i, .cells (overA c p v.cells) opn) :: fs) H1 → H1.next = H'.next → WKO cf r (n + 1) l H1 R) : WKO cf (⟨none, .store m a x, none⟩ :: r) n l H' R :=
  WKO.stG (gs := []) ha hx hF hm hn hi hl h1 hf k
theorem WKO.stO1 {f1 : Nat × AObj} {i p m : Nat} {c : List AV} {opn : Option Nat} {v : AV} {a x : XO} (ha : evK l a = some (.ptr i p)) (hx : evK l x = some v) (hF : HF H0 mod T (f1 :: (i, .cells c opn) :: fs) H) (hm : H'.m = H.m) (hn : H.next ≤ H'.next) (hi : i ∈ mod ∨ H0.next ≤ i) (hl : v.cells.length = m) (h1 : v.cells.all AV.oneCell = true) (hf : p + m ≤ c.length)
    (k : ∀ H1, HF H0 mod T (f1 :: (i, .cells (overA c p v.cells) opn) :: fs) H1 → H1.next = H'.next → WKO cf r (n + 1) l H1 R) : WKO cf (⟨none, .store m a x, none⟩ :: r) n l H' R :=
  WKO.stG (gs := [f1]) ha hx hF hm hn hi hl h1 hf k
theorem WKO.stO2 {f1 f2 : Nat × AObj} {i p m : Nat} {c : List AV} {opn : Option Nat} {v : AV} {a x : XO} (ha : evK l a = some (.ptr i p)) (hx : evK l x = some v) (hF : HF H0 mod T (f1 :: f2 :: (i, .cells c opn) :: fs) H) (hm : H'.m = H.m) (hn : H.next ≤ H'.next) (hi : i ∈ mod ∨ H0.next ≤ i) (hl : v.cells.length = m) (h1 : v.cells.all AV.oneCell = true) (hf : p + m ≤ c.length)
    (k : ∀ H1, HF H0 mod T (f1 :: f2 :: (i, .cells (overA c p v.cells) opn) :: fs) H1 → H1.next = H'.next → WKO cf r (n + 1) l H1 R) : WKO cf (⟨none, .store m a x, none⟩ :: r) n l H' R :=
  WKO.stG (gs := [f1, f2]) ha hx hF hm hn hi hl h1 hf k
theorem WKO.updG {gs : List (Nat × AObj)} {i : Nat} {K : KT} {key v : AV} {es es' : List (AV × AV)} {ls : List Lit} {a x y : XO} (ha : evK l a = some (.map i)) (hx : evK l x = some key) (hy : evK l y = some v) (hF : HF H0 mod T (gs ++ (i, .map es) :: fs) H) (hm : H'.m = H.m) (hn : H.next ≤ H'.next) (hi : i ∈ mod ∨ H0.next ≤ i) (hk : keyA K key = some ls) (hu : updE K ls key v es = some es')
    (k : ∀ H1, HF H0 mod T (gs ++ (i, .map es') :: fs) H1 → H1.next = H'.next → WKO cf r (n + 1) l H1 R) : WKO cf (⟨none, .upd K a x y, none⟩ :: r) n l H' R := by
  have hF' := hF.up hm hn
  have hg := hF'.obj (i, .map es) (List.mem_append.2 (.inr (List.mem_cons_self ..)))
  exact WKO.opn (v := undefA) (H1 := H'.set i (some (.map es'))) (k_any (by simp only [xval, xop, ha, hx, hy, hg, hk, hu])) (by simp [allSm, XOp.opnds, ha, hx, hy]) (k _ (hF'.put hi rfl (by rw [AHeap.get_set, if_pos rfl]) (fun k hk => by rw [AHeap.get_set, if_neg hk])) rfl)
theorem WKO.updO0 {i : Nat} {K : KT} {key v : AV} {es es' : List (AV × AV)} {ls : List Lit} {a x y : XO} (ha : evK l a = some (.map i)) (hx : evK l x = some key) (hy : evK l y = some v) (hF : HF H0 mod T ((i, .map es) :: fs) H) (hm : H'.m = H.m) (hn : H.next ≤ H'.next) (hi : i ∈ mod ∨ H0.next ≤ i) (hk : keyA K key = some ls) (hu : updE K ls key v es = some es')
    (k : ∀ H1, HF H0 mod T ((i, .map es') :: fs) H1 → H1.next = H'.next → WKO cf r (n + 1) l H1 R) : WKO cf (⟨none, .upd K a x y, none⟩ :: r) n l H' R :=
  WKO.updG (gs := []) ha hx hy hF hm hn hi hk hu k
end
end Go.Eng
/- Rows that are read wherever they lie: frozen or in the heap; new slices; least and greatest of two. No condition. -/
set_option linter.unusedSimpArgs false
set_option linter.unusedVariables false
namespace Go.Proofs.Ytpbighinamljbaa.PA
open Go Go.Eng Go.Proofs
/-- A row that is read alone: frozen, or an object's cells. -/
def RdR (z : Nat) (H : AHeap) (X : AV) (len : Nat) (cs : List AV) : Prop :=
  cs.length = len * z ∧ ((∃ f, X = .imm cs len f) ∨ (X = .nils ∧ len = 0) ∨ ∃ i c full opn, X = .sl i 0 len c ∧ i < H.next ∧ H.get i = some (.cells full opn) ∧ full.take (len * z) = cs ∧ len * z ≤ full.length)
theorem RdR.of {z len : Nat} {H : AHeap} {X : AV} {cs : List AV} (h : RowE z H X len cs) : RdR z H X len cs := by
  refine ⟨h.csl, ?_⟩
  rcases h with ⟨h0, ⟨rfl, rfl⟩ | ⟨i, full, rfl, h1, h2, h3, h4⟩⟩ | ⟨rfl, rfl, i, rfl, h1, h2⟩
  · exact .inr (.inl ⟨rfl, rfl⟩)
  · exact .inr (.inr ⟨i, _, full, _, rfl, h4, h1, h2, h3⟩)
  · exact .inr (.inr ⟨i, _, _, _, rfl, h1, h2, by simp, by simp⟩)
theorem RdR.imm {z len : Nat} {H : AHeap} {cs : List AV} {f : Bool} (h : cs.length = len * z) : RdR z H (.imm cs len f) len cs := ⟨h, .inl ⟨f, rfl⟩⟩
theorem RdR.frame {z len : Nat} {H H' : AHeap} {X : AV} {cs : List AV} (h : RdR z H X len cs) (hn : H.next ≤ H'.next) (hg : ∀ i, X.own = some i → H'.get i = H.get i) : RdR z H' X len cs := by
  obtain ⟨h0, h⟩ := h
  refine ⟨h0, ?_⟩
  rcases h with h | h | ⟨i, c, full, opn, rfl, h1, h2, h3, h4⟩
  · exact .inl h
  · exact .inr (.inl h)
  · exact .inr (.inr ⟨i, c, full, opn, rfl, by omega, (hg i rfl).trans h2, h3, h4⟩)
theorem RdR.own_lt {z len : Nat} {H : AHeap} {X : AV} {cs : List AV} (h : RdR z H X len cs) {i : Nat} (hi : X.own = some i) : i < H.next := by
  rcases h with ⟨_, ⟨f, rfl⟩ | ⟨rfl, _⟩ | ⟨j, c, full, opn, rfl, h1, _⟩⟩
  · cases hi
  · cases hi
  · cases hi; exact h1
theorem RdR.len {z len : Nat} {H : AHeap} {X : AV} {cs : List AV} (h : RdR z H X len cs) : lenN X = some len := by
  rcases h with ⟨_, ⟨f, rfl⟩ | ⟨rfl, rfl⟩ | ⟨j, c, full, opn, rfl, h1, _⟩⟩ <;> rfl
/-- The address of a cell of a row. -/
def adE (X : AV) (p : Nat) : AV := match X with
  | .imm cs _ _ => .iptr cs p
  | .sl i o _ _ => .ptr i (o + p)
  | _ => undefA
section
variable {cf : CF} {n : Nat} {H0 H H' : AHeap} {mod : List Nat} {T : Nat} {fs : List (Nat × AObj)} {l : KL0} {x y : XO} {z len a p : Nat} {X : AV} {cs : List AV}
theorem k_lenE (hx : evK l x = some X) (hE : RdR z H0 X len cs) : XV cf l H n (.len x) = some (nA len, H) := k_lenL hx hE.len
theorem k_iaE (hx : evK l x = some X) (hy : evK l y = some (nA a)) (hE : RdR z H0 X len cs) (h : a < len) : XV cf l H n (.iaddr z x y) = some (adE X (a * z), H) :=
  k_any (op_ia hx hy (by
    show iaddrA z X (.int .i64 (a : Int)) = _
    rcases hE with ⟨_, ⟨f, rfl⟩ | ⟨rfl, rfl⟩ | ⟨j, c, full, opn, rfl, h1, _⟩⟩
    · simp only [iaddrA, idxOk_lt h, if_true, Int.toNat_natCast]; rfl
    · omega
    · simp only [iaddrA, idxOk_lt h, if_true, Int.toNat_natCast]; rfl))
theorem k_faE {o : Nat} (hx : evK l x = some (adE X p)) (hE : RdR z H0 X len cs) (h : p < len * z) : XV cf l H n (.faddr o x) = some (adE X (p + o), H) :=
  k_any (by
    rcases hE with ⟨_, ⟨f, rfl⟩ | ⟨rfl, rfl⟩ | ⟨j, c, full, opn, rfl, h1, _⟩⟩
    · exact op_faddrI hx
    · omega
    · have := op_faddr (cf := cf) (H := H) (n := n) (o := o) hx
      rw [this]
      show some (AV.ptr j (0 + p + o), H) = some (AV.ptr j (0 + (p + o)), H)
      rw [Nat.add_assoc])
theorem RdR.at {X : AV} (hE : RdR z H0 X len cs) (hF : ∀ i, X.own = some i → H'.get i = H0.get i) (h : p < len * z) : ∃ c, cellsAt H' (adE X p) = some c ∧ c.take (len * z - p) = cs.drop p := by
  rcases hE with ⟨h0, ⟨f, rfl⟩ | ⟨rfl, rfl⟩ | ⟨j, c, full, opn, rfl, h1, h2, h3, h4⟩⟩
  · refine ⟨cs.drop p, rfl, ?_⟩
    rw [List.take_of_length_le (by rw [List.length_drop]; omega)]
  · omega
  · refine ⟨full.drop p, ?_, ?_⟩
    · simp only [adE, cellsAt, hF j rfl, h2, Nat.zero_add]
    · rw [← h3, List.drop_take]
theorem k_ldE2 {v w : AV} (hx : evK l x = some (adE X p)) (hE : RdR z H0 X len cs) (hF : HF H0 mod T fs H) (hm : H'.m = H.m) (hmod : ∀ i, X.own = some i → i ∉ mod) (h : cs[p]? = some v) (h' : cs[p + 1]? = some w) : XV cf l H' n (.load (some 2) x) = some (.agg [v, w], H') := by
  have hp : p + 1 < len * z := by
    obtain ⟨hh, _⟩ := List.getElem?_eq_some_iff.1 h'
    rw [hE.1] at hh
    exact hh
  obtain ⟨c, h1, h2⟩ := hE.at (H' := H') (fun i hi => by
    have : H'.get i = H.get i := by unfold AHeap.get; rw [hm]
    rw [this]
    exact hF.fr i (hE.own_lt hi) (hmod i hi)) (Nat.lt_of_succ_lt hp)
  refine k_load hx ?_
  have e0 : c[0]? = some v := by
    have : (c.take (len * z - p))[0]? = some v := by rw [h2, List.getElem?_drop, Nat.add_zero, h]
    rw [List.getElem?_take, if_pos (by omega)] at this
    exact this
  have e1 : c[1]? = some w := by
    have : (c.take (len * z - p))[1]? = some w := by rw [h2, List.getElem?_drop, h']
    rw [List.getElem?_take, if_pos (by omega)] at this
    exact this
  match c, e0, e1 with
  | v' :: w' :: r, e0, e1 =>
    simp at e0 e1
    subst e0 e1
    simp only [loadA, h1]
    rw [if_pos (by simp)]
    rfl
theorem k_mnZ {a b : Int} (hx : evK l x = some (.int .i64 a)) (hy : evK l y = some (.int .i64 b)) : XV cf l H n (.mn [x, y]) = some (.int .i64 (if b < a then b else a), H) :=
  k_any (by
    have : evL (evK l) [x, y] = some [.int .i64 a, .int .i64 b] := by simp only [evL, hx, hy]; rfl
    simp only [xval, xop, this]
    rfl)
theorem k_mxZ {a b : Int} (hx : evK l x = some (.int .i64 a)) (hy : evK l y = some (.int .i64 b)) : XV cf l H n (.mx [x, y]) = some (.int .i64 (if b > a then b else a), H) :=
  k_any (by
    have : evL (evK l) [x, y] = some [.int .i64 a, .int .i64 b] := by simp only [evL, hx, hy]; rfl
    simp only [xval, xop, this]
    rfl)
end
section
variable {cf : CF} {n : Nat} {H0 H H' : AHeap} {mod : List Nat} {T : Nat} {fs : List (Nat × AObj)} {l : KL0} {x y : XO} {r : List XOper} {R : KL0 → AHeap → Prop}
/-- A new object below the bound. -/
theorem _root_.Go.Eng.HF.newN {o : AObj} {H1 : AHeap} (h : HF H0 mod T fs H) (hb : H0.next ≤ n) (hT : n < T) (hi : n ∉ fs.map (·.1)) (hn : T ≤ H1.next) (h1 : H1.get n = some o) (h2 : ∀ k, k ≠ n → H1.get k = H.get k) : HF H0 mod T ((n, o) :: fs) H1 where
  obj := fun p hp => by
    rcases List.mem_cons.1 hp with rfl | hp
    · exact h1
    · rw [h2 _ (fun e => hi (e ▸ List.mem_map.2 ⟨p, hp, rfl⟩))]; exact h.obj p hp
  lt := fun p hp => by
    rcases List.mem_cons.1 hp with rfl | hp
    · exact hT
    · exact h.lt p hp
  nd := by rw [List.map_cons, List.nodup_cons]; exact ⟨hi, h.nd⟩
  base := h.base
  le := hn
  fr := fun k hk hm => (h2 k (by omega)).trans (h.fr k hk hm)
/-- A new slice. -/
theorem WKO.mkO {d m bytes : Nat} {z : List AV} (hx : evK l x = some (nA m)) (hy : evK l y = some (nA m)) (hb : m ≤ 2 ^ 24 ∧ bytes ≤ 2 ^ 16) (hF : HF H0 mod T fs H) (hm : H'.m = H.m) (hn : H.next ≤ H'.next)
    (k : ∀ H1, HF H0 mod (H'.next + 1) ((H'.next, .cells (List.replicate m z).flatten none) :: fs) H1 → H1.next = H'.next + 1 → WKO cf r (n + 1) ((d, .sl H'.next 0 m m) :: l) H1 R) : WKO cf (⟨some d, .mkslice z bytes x y, none⟩ :: r) n l H' R := by
  have hF' := hF.up hm hn
  refine WKO.op (v := .sl H'.next 0 m m) (H1 := H'.add (.cells (List.replicate m z).flatten none)) (k_any ?_) (by simp [allSm, XOp.opnds, hx, hy]) (k _ (hF'.new (n := H'.next) hF'.le (Nat.lt_succ_self _) (by rw [AHeap.get_add, if_pos rfl]) (fun k hk => by rw [AHeap.get_add, if_neg hk])) rfl)
  simp only [xval, xop, hx, hy]
  rw [show mkSliceA H' z bytes (nA m) (nA m) = if m ≤ m ∧ m ≤ 2 ^ 24 ∧ bytes ≤ 2 ^ 16 then .eff (.sl H'.next 0 m m) (H'.add (.cells (List.replicate m z).flatten none)) else .fail from rfl, if_pos ⟨Nat.le_refl _, hb.1, hb.2⟩]
/-- A box below the bound. -/
theorem WKO.boxN {d : Nat} {v : AV} (hx : evK l x = some v) (hF : HF H0 mod T fs H) (hm : H'.m = H.m) (hn : H.next ≤ H'.next) (hb : H0.next ≤ n) (hT : n < T) (hi : n ∉ fs.map (·.1)) (hlt : T ≤ H'.next)
    (k : ∀ H1, HF H0 mod T ((n, .cells v.cells none) :: fs) H1 → H1.next = H'.next → WKO cf r (n + 1) ((d, .ptr n 0) :: l) H1 R) : WKO cf (⟨some d, .box x, none⟩ :: r) n l H' R :=
  WKO.op (k_any (by simp only [xval, xop, hx])) (by simp [allSm, XOp.opnds, hx]) (k (H'.set n (some (.cells v.cells none))) ((hF.up hm hn).newN hb hT hi (by rw [next_set]; exact hlt) (by rw [AHeap.get_set, if_pos rfl]) (fun k hk => by rw [AHeap.get_set, if_neg hk])) rfl)
theorem k_ia1s {i len c a : Nat} (hx : evK l x = some (.sl i 0 len c)) (hy : evK l y = some (nA a)) (h : a < len) : XV cf l H n (.iaddr 1 x y) = some (.ptr i a, H) := by
  have := k_iaN (cf := cf) (H := H) (n := n) (z := 1) hx hy h
  rwa [Nat.zero_add, Nat.mul_one] at this
end
theorem prsC_get {q : Prs} {i : Nat} {c : Nat × Nat} (h : q[i]? = some c) : (prsC q)[i * 2]? = some (nA c.1) ∧ (prsC q)[i * 2 + 1]? = some (nA c.2) := by
  have := zc_get (l := q.map (fun c => ((c.1 : Int), (c.2 : Int)))) (i := i) (p := ((c.1 : Int), (c.2 : Int))) (by rw [List.getElem?_map, h]; rfl)
  rwa [zc_prs] at this
theorem cellsA_rd {z len : Nat} {H : AHeap} {X : AV} {cs : List AV} (h : RdR z H X len cs) : cellsA H z X = some (len, cs) := by
  rcases h with ⟨h0, ⟨f, rfl⟩ | ⟨rfl, rfl⟩ | ⟨i, c, full, opn, rfl, h1, h2, h3, h4⟩⟩
  · have : cs.take (len * z) = cs := List.take_of_length_le (by omega)
    have e : cellsA H z (.imm cs len f) = (if len * z ≤ cs.length then some (cs.take (len * z)) else none).bind fun c => if len = 0 ∧ c ≠ [] then none else some (len, c) := rfl
    rw [e, if_pos (by omega), Option.bind_some, this, if_neg (fun w => w.2 (List.eq_nil_of_length_eq_zero (by rw [h0, w.1, Nat.zero_mul])))]
  · have : cs = [] := List.eq_nil_of_length_eq_zero (by omega)
    subst this
    rfl
  · have e : cellsA H z (.sl i 0 len c) = (srcA H z len (.sl i 0 len c)).bind fun c => if len = 0 ∧ c ≠ [] then none else some (len, c) := rfl
    have e2 : srcA H z len (.sl i 0 len c) = some cs := by
      simp only [srcA, h2, Nat.zero_add, List.drop_zero, h3]
      rw [if_pos h4]
    rw [e, e2, Option.bind_some, if_neg (fun w => w.2 (List.eq_nil_of_length_eq_zero (by rw [h0, w.1, Nat.zero_mul])))]
theorem set_lt10 {N : List Nat} (h : ∀ m ∈ N, m < 1024) {i v : Nat} (hv : v < 1024) : ∀ m ∈ N.set i v, m < 1024 := fun m hm => by
  rcases List.mem_or_eq_of_mem_set hm with hm | rfl
  · exact h m hm
  · exact hv
theorem pow10 {b : Nat} (h : b < 10) : 2 ^ b < 1024 := by
  have : 2 ^ b ≤ 2 ^ 9 := Nat.pow_le_pow_right (by omega) (by omega)
  omega
end Go.Proofs.Ytpbighinamljbaa.PA
/- The reference's Near. No condition. -/
set_option linter.unusedSimpArgs false
set_option linter.unusedVariables false
namespace Go.Proofs.Ytpbighinamljbaa.PA
open Go Go.Eng Go.Proofs
def orAt (N : List Nat) (i v : Nat) : List Nat := N.set i (N.getD i 0 ||| v)
def nearSt (N : List Nat) (c : Nat × Nat) : List Nat := orAt (orAt N c.1 (2 ^ c.2)) c.2 (2 ^ c.1)
/-- The neighbours of each vertex. -/
def nearN (n : Nat) (q : Prs) : List Nat := q.foldl nearSt (List.replicate n 0)
/-- Edges of a graph of n vertices. -/
def Egs (n : Nat) (q : Prs) : Prop := ∀ c ∈ q, c.1 < n ∧ c.2 < n ∧ c.1 ≠ c.2
theorem orAt_len (N : List Nat) (i v : Nat) : (orAt N i v).length = N.length := by simp [orAt]
theorem orAt_lt {N : List Nat} (h : ∀ m ∈ N, m < 1024) {i v : Nat} (hv : v < 1024) : ∀ m ∈ orAt N i v, m < 1024 := set_lt10 h (or10 (getD_lt10 h i) hv)
theorem nearSt_len (N : List Nat) (c : Nat × Nat) : (nearSt N c).length = N.length := by simp [nearSt, orAt_len]
theorem nearSt_lt {N : List Nat} (h : ∀ m ∈ N, m < 1024) {c : Nat × Nat} (h1 : c.1 < 10) (h2 : c.2 < 10) : ∀ m ∈ nearSt N c, m < 1024 := orAt_lt (orAt_lt h (pow10 h2)) (pow10 h1)
theorem near_fold_len : ∀ (q : Prs) (N : List Nat), (q.foldl nearSt N).length = N.length
  | [], N => rfl
  | c :: q, N => (near_fold_len q _).trans (nearSt_len N c)
theorem near_fold_lt {n : Nat} (hn : n ≤ 10) : ∀ (q : Prs) (N : List Nat), Egs n q → (∀ m ∈ N, m < 1024) → ∀ m ∈ q.foldl nearSt N, m < 1024
  | [], N, _, h => h
  | c :: q, N, hq, h => by
    have := hq c (List.mem_cons_self ..)
    exact near_fold_lt hn q _ (fun d hd => hq d (List.mem_cons_of_mem _ hd)) (nearSt_lt h (by omega) (by omega))
theorem nearN_len (n : Nat) (q : Prs) : (nearN n q).length = n := by rw [nearN, near_fold_len]; simp
theorem rep_lt (n : Nat) : ∀ m ∈ List.replicate n 0, m < 1024 := fun m hm => by
  have := List.eq_of_mem_replicate hm
  omega
theorem nearN_lt {n : Nat} {q : Prs} (hn : n ≤ 10) (hq : Egs n q) : ∀ m ∈ nearN n q, m < 1024 := near_fold_lt hn q _ hq (rep_lt n)
end Go.Proofs.Ytpbighinamljbaa.PA
/- news.read: its loop over the edges. No condition. -/
set_option linter.unusedSimpArgs false
set_option linter.unusedVariables false
namespace Go.Proofs.Ytpbighinamljbaa.PA
open Go Go.Eng Go.Proofs
section
variable {cf : CF} {n : Nat} {H0 H H' : AHeap} {mod : List Nat} {T : Nat} {fs : List (Nat × AObj)} {l : KL0} {x y : XO} {r : List XOper} {R : KL0 → AHeap → Prop}
theorem k_minZ {a b : Int} (hx : evK l x = some (.int .i64 a)) (hy : evK l y = some (.int .i64 b)) : XV cf l H n (.mn [x, y]) = some (.int .i64 (min a b), H) := by
  have := k_mnZ (cf := cf) (H := H) (n := n) hx hy
  rwa [show (if b < a then b else a) = min a b by split <;> omega] at this
theorem k_maxZ {a b : Int} (hx : evK l x = some (.int .i64 a)) (hy : evK l y = some (.int .i64 b)) : XV cf l H n (.mx [x, y]) = some (.int .i64 (max a b), H) := by
  have := k_mxZ (cf := cf) (H := H) (n := n) hx hy
  rwa [show (if b > a then b else a) = max a b by split <;> omega] at this
theorem k_lss0 {a : Int} {c : Nat} (hx : evK l x = some (.int .i64 a)) (hy : evK l y = some (.int .i64 (.ofNat c))) : XV cf l H n (.bin .lss x y) = some (.bool (decide (a < (c : Int))), H) :=
  k_bin hx hy rfl
theorem k_gtr0 {a : Int} {c : Nat} (hx : evK l x = some (.int .i64 a)) (hy : evK l y = some (.int .i64 (.ofNat c))) : XV cf l H n (.bin .gtr x y) = some (.bool (decide (a > (c : Int))), H) :=
  k_bin hx hy rfl
theorem k_geqZ {a b : Int} (hx : evK l x = some (.int .i64 a)) (hy : evK l y = some (.int .i64 b)) : XV cf l H n (.bin .geq x y) = some (.bool (decide (a ≥ b)), H) :=
  k_bin hx hy rfl
theorem WKO.stN2 {f1 f2 : Nat × AObj} {i p w : Nat} {opn : Option Nat} {f : Nat → AV} {N : List Nat} {a x : XO} (ha : evK l a = some (.ptr i p)) (hx : evK l x = some (f w)) (hc : (f w).cells = [f w]) (h1 : (f w).oneCell = true) (hF : HF H0 mod T (f1 :: f2 :: (i, .cells (N.map f) opn) :: fs) H) (hm : H'.m = H.m) (hn : H.next ≤ H'.next) (hi : i ∈ mod ∨ H0.next ≤ i) (hp : p < N.length)
    (k : ∀ H1, HF H0 mod T (f1 :: f2 :: (i, .cells ((N.set p w).map f) opn) :: fs) H1 → H1.next = H'.next → WKO cf r (n + 1) l H1 R) : WKO cf (⟨none, .store 1 a x, none⟩ :: r) n l H' R := by
  have e : (N.set p w).map f = overA (N.map f) p (f w).cells := by
    rw [hc, List.map_set, overA, List.set_eq_take_append_cons_drop, if_pos (by simpa using hp)]
    simp
  rw [e] at k
  exact WKO.stO2 ha hx hF hm hn hi (by rw [hc]; rfl) (by rw [hc]; simp [h1]) (by simp; omega) k
end
theorem _root_.Go.Eng.HF.frb {H0 H H' : AHeap} {T : Nat} {fs : List (Nat × AObj)} (h : HF H0 [] T fs H) {k : Nat} (hm : H'.m = H.m) (hk : k < H0.next) : H'.get k = H0.get k := by
  have : H'.get k = H.get k := by unfold AHeap.get; rw [hm]
  exact this.trans (h.fr k hk (by simp))
/-- An edge as numbers. -/
def nE (p : Int × Int) : Nat × Nat := (p.1.toNat, p.2.toNat)
theorem okE_nat {m : Nat} {p : Int × Int} (h : okE (m : Int) p = true) : ∃ a b : Nat, p = ((a : Int), (b : Int)) ∧ a < m ∧ b < m ∧ a ≠ b := by
  obtain ⟨a, b⟩ := p
  simp only [okE, decide_eq_true_eq] at h
  exact ⟨a.toNat, b.toNat, by rw [Int.toNat_of_nonneg h.1, Int.toNat_of_nonneg h.2.2.1], by omega, by omega, by omega⟩
def body46 : XCode := match L46.code with
  | .seq _ (.seq _ (.seq _ (.seq (.seq _ (.block _ (.loop c))) _))) => c
  | _ => .skip
/-- What read knows of the heap. -/
def RdH (H0 : AHeap) (G M m : Nat) (N : List Nat) (H : AHeap) : Prop := ∃ T, HF H0 [] T [(G, .cells [nA m, .sl M 0 m m] none), (M, .cells (N.map sA) none)] H
def nrZ (m : Nat) (l : ZPrs) (i : Nat) : List Nat := ((l.take i).map nE).foldl nearSt (List.replicate m 0)
def L46a (m : Nat) (X : AV) (l : ZPrs) (G i : Nat) : KL0 := [(0, nA m), (1, X), (4, .nilp), (5, .bool false), (6, .ptr G 0), (28, X), (29, nA l.length), (30, nA i)]
theorem body46_ok {cf : CF} {fuel : Nat} {H0 : AHeap} {m G M : Nat} {l : ZPrs} {X : AV} (hm : m ≤ 10) (hX : RdR 2 H0 X l.length (zc l)) (hl : l.length ≤ 60) (hM0 : H0.next ≤ M) (i : Nat) (H : AHeap) (h1 : i ≤ l.length) (hgood : ∀ p ∈ l.take i, okE m p = true) (hR : RdH H0 G M m (nrZ m l i) H) :
    WK cf fuel body46 (L46a m X l G i) H fun e l' H' => (e = .normal → ∃ j, Sub l' (L46a m X l G j) ∧ (j ≤ l.length ∧ (∀ p ∈ l.take j, okE m p = true) ∧ RdH H0 G M m (nrZ m l j) H') ∧ l.length - j < l.length - i) ∧
      (e ≠ .normal → (e = .exit 0 ∧ l.all (okE m) = true ∧ Sub l' [(0, nA m), (6, .ptr G 0)] ∧ RdH H0 G M m (nrZ m l l.length) H') ∨ (e = .ret ∧ l.all (okE m) = false ∧ Sub l' [(4, .nilp), (5, .bool false)] ∧ (∀ k, k < H0.next → H'.get k = H0.get k) ∧ H0.next ≤ H'.next)) := by
  obtain ⟨T, hF⟩ := hR
  have hT := hF.le
  have hT0 := hF.base
  unfold body46 L46
  dsimp only
  unfold L46a
  by_cases hi : i < l.length
  · obtain ⟨p, hp⟩ : ∃ p, l[i]? = some p := ⟨_, List.getElem?_eq_getElem hi⟩
    obtain ⟨g0, g1⟩ := zc_get hp
    have hpm := List.mem_of_getElem? hp
    have hN : ∀ c ∈ nrZ m l i, c < 1024 := by
      refine near_fold_lt hm _ _ (fun c hc => ?_) (rep_lt m)
      obtain ⟨p, hp, rfl⟩ := List.mem_map.1 hc
      obtain ⟨a, b, rfl, h⟩ := okE_nat (hgood p hp)
      exact h
    have hNl : (nrZ m l i).length = m := by rw [nrZ, near_fold_len]; simp
    have hstep : nrZ m l (i + 1) = nearSt (nrZ m l i) (nE p) := by
      rw [nrZ, List.take_add_one, hp, List.map_append, List.foldl_append]; rfl
    by_cases hok : okE m p = true
    · obtain ⟨a, b, rfl, ha, hb, hab⟩ := okE_nat hok
      dsimp only at g0 g1
      have hstep : nrZ m l (i + 1) = nearSt (nrZ m l i) (a, b) := hstep
      generalize nrZ m l i = N at hF hN hNl hstep
      repeat' (first | refine WK.seq ?_ | refine WK.skip ?_ | refine WK.ret ?_ | refine WK.exit ?_ | refine WK.block ?_ | (apply WK.reg; (· exact lnn)) | (apply WK.regC; (· rfl); (· exact lnn); (· decide)) | (apply WK.regd0; (· exact lnn)) | (apply WKO.stN2 (f := sA); (· rfl); (· rfl); (· rfl); (· rfl); (· assumption); (· rfl); (· first | omega | (simp only [next_bump] at *; omega)); (· exact .inr (by omega)); (· first | omega | (simp; omega)); intro _ _ _) | (apply WKO.boxO; (· rfl); (· assumption); (· rfl); (· exact nxx); (· exact nxx); (· exact nxx); intro _ _ _) | (apply WKO.alO; (· assumption); (· rfl); (· exact nxx); (· exact nxx); (· exact nxx); intro _ _ _) | (apply WKO.mapO; (· assumption); (· rfl); (· exact nxx); (· exact nxx); (· exact nxx); intro _ _ _) | (apply WKO.bsO; (· rfl); (· rfl); (· assumption); (· rfl); (· exact nxx); (· exact nxx); (· exact nxx); intro _ _ _) | (apply WKO.stO0; (· rfl); (· rfl); (· assumption); (· rfl); (· exact nxx); (· first | exact .inr nxx | exact .inl (by simp)); (· rfl); (· rfl); (· first | decide | (simp; done) | omega); intro _ _ _) | (apply WKO.stO1; (· rfl); (· rfl); (· assumption); (· rfl); (· exact nxx); (· first | exact .inr nxx | exact .inl (by simp)); (· rfl); (· rfl); (· first | decide | (simp; done) | omega); intro _ _ _) | (apply WKO.stO2; (· rfl); (· rfl); (· assumption); (· rfl); (· exact nxx); (· first | exact .inr nxx | exact .inl (by simp)); (· rfl); (· rfl); (· first | decide | (simp; done) | omega); intro _ _ _) | refine WKC.nil ?_ | refine WKO.nil ?_ | ((first | apply WKC.op | apply WKO.op | ((first | apply WKC.gop | apply WKO.gop); (· rfl); (· exact dcd))); (· first | exact k_mv rfl | exact k_iaE rfl rfl hX (by omega) | (apply k_ldE2; (· rfl); (· exact hX); (· assumption); (· rfl); (· simp; done); (· exact g0); (· exact g1)) | exact k_ia1s rfl rfl (by omega) | exact k_minZ rfl rfl | exact k_maxZ rfl rfl | exact k_lss0 rfl rfl | exact k_geqZ rfl rfl | (apply k_ldO; (· rfl); (· assumption); (· rfl); (· exact .tail _ (.tail _ (.head _))); (· exact map_at (by first | omega | (simp; omega)))) | exact k_shl16 rfl rfl (by omega) | exact k_or16 rfl rfl (getD_lt10 hN _) (pow10 (by omega)) | exact k_or16 rfl rfl (getD_lt10 (set_lt10 hN (or10 (getD_lt10 hN _) (pow10 (by omega)))) _) (pow10 (by omega)) | (apply k_ldO; (· rfl); (· assumption); (· rfl); (· exact mmb); (· rfl)) | (apply k_ldA; (· rfl); (· assumption); (· rfl); (· exact mmb); (· first | rfl | assumption | (simp; done))) | exact k_faddr rfl | exact k_nilc rfl | exact opA); (· rfl)) | ((first | apply WKC.gnoT | apply WKO.gnoT | apply WKC.gnoF | apply WKO.gnoF); (· rfl); (· exact dcd)) | ((first | apply WKC.gnu | apply WKO.gnu); (· rfl)) | ((first | apply WKC.gsp | apply WKO.gsp); (· rfl); all_goals ((fail_if_success (refine known ?_ ?_; (· assumption))); intro _)) | ((first | apply WKC.gspB | apply WKO.gspB); (· rfl); all_goals ((fail_if_success (refine known ?_ ?_; (· assumption))); intro _)) | refine pN ?_ | refine pR ?_ | refine pX ?_ | refine bN ?_ | refine bR ?_ | refine bX ?_ | refine bO (by decide) ?_ | (apply WK.condT; (· rfl); (· exact dcd)) | (apply WK.condF; (· rfl); (· exact dcd)) | (apply WK.condD; (· rfl); all_goals intro _) | (apply WK.condN; (· rfl); all_goals intro _) | (apply WK.condB; (· rfl); all_goals intro _))
      rename_i hF3 _
      refine ⟨i + 1, (.cons rfl <| .cons rfl <| .cons rfl <| .cons rfl <| .cons rfl <| .cons rfl <| .cons rfl <| .cons rfl <| .nil _), ⟨by omega, fun p h => ?_, ?_⟩, by omega⟩
      · rw [List.take_add_one, hp] at h
        rcases List.mem_append.1 h with h | h
        · exact hgood p h
        · have : p = ((a : Int), (b : Int)) := by simpa using h
          subst this
          exact hok
      · rw [hstep]
        have h3 := (hF3.sub (List.sublist_cons_self ..) (Nat.le_refl _) hF3.le).up (H' := _) rfl (Nat.le_refl _)
        exact ⟨_, HF.up h3 rfl (by simp only [next_bump]; omega)⟩
    · have hbad : l.all (okE m) = false := by
        cases q : l.all (okE m) with
        | false => rfl
        | true => exact absurd (List.all_eq_true.1 q p hpm) hok
      have hok' : ¬ (0 ≤ p.1 ∧ p.1 < m ∧ 0 ≤ p.2 ∧ p.2 < m ∧ p.1 ≠ p.2) := fun w => hok (by simp only [okE, decide_eq_true_eq]; exact w)
      obtain ⟨a, b⟩ := p
      dsimp only at g0 g1 hok'
      repeat' (first | refine WK.seq ?_ | refine WK.skip ?_ | refine WK.ret ?_ | refine WK.exit ?_ | refine WK.block ?_ | (apply WK.reg; (· exact lnn)) | (apply WK.regC; (· rfl); (· exact lnn); (· decide)) | (apply WK.regd0; (· exact lnn)) | (apply WKO.boxO; (· rfl); (· assumption); (· rfl); (· exact nxx); (· exact nxx); (· exact nxx); intro _ _ _) | (apply WKO.alO; (· assumption); (· rfl); (· exact nxx); (· exact nxx); (· exact nxx); intro _ _ _) | (apply WKO.mapO; (· assumption); (· rfl); (· exact nxx); (· exact nxx); (· exact nxx); intro _ _ _) | (apply WKO.bsO; (· rfl); (· rfl); (· assumption); (· rfl); (· exact nxx); (· exact nxx); (· exact nxx); intro _ _ _) | (apply WKO.stO0; (· rfl); (· rfl); (· assumption); (· rfl); (· exact nxx); (· first | exact .inr nxx | exact .inl (by simp)); (· rfl); (· rfl); (· first | decide | (simp; done) | omega); intro _ _ _) | (apply WKO.stO1; (· rfl); (· rfl); (· assumption); (· rfl); (· exact nxx); (· first | exact .inr nxx | exact .inl (by simp)); (· rfl); (· rfl); (· first | decide | (simp; done) | omega); intro _ _ _) | (apply WKO.stO2; (· rfl); (· rfl); (· assumption); (· rfl); (· exact nxx); (· first | exact .inr nxx | exact .inl (by simp)); (· rfl); (· rfl); (· first | decide | (simp; done) | omega); intro _ _ _) | refine WKC.nil ?_ | refine WKO.nil ?_ | ((first | apply WKC.op | apply WKO.op | ((first | apply WKC.gop | apply WKO.gop); (· rfl); (· exact dcd))); (· first | exact k_mv rfl | exact k_iaE rfl rfl hX (by omega) | (apply k_ldE2; (· rfl); (· exact hX); (· assumption); (· rfl); (· simp; done); (· exact g0); (· exact g1)) | exact k_minZ rfl rfl | exact k_maxZ rfl rfl | exact k_lss0 rfl rfl | exact k_eqlZ rfl rfl | exact k_geqZ rfl rfl | (apply k_ldO; (· rfl); (· assumption); (· rfl); (· exact mmb); (· rfl)) | (apply k_ldA; (· rfl); (· assumption); (· rfl); (· exact mmb); (· first | rfl | assumption | (simp; done))) | exact k_faddr rfl | exact k_nilc rfl | exact opA); (· rfl)) | ((first | apply WKC.gnoT | apply WKO.gnoT | apply WKC.gnoF | apply WKO.gnoF); (· rfl); (· exact dcd)) | ((first | apply WKC.gnu | apply WKO.gnu); (· rfl)) | ((first | apply WKC.gsp | apply WKO.gsp); (· rfl); all_goals ((fail_if_success (refine known ?_ ?_; (· assumption))); intro _)) | ((first | apply WKC.gspB | apply WKO.gspB); (· rfl); all_goals ((fail_if_success (refine known ?_ ?_; (· assumption))); intro _)) | refine pN ?_ | refine pR ?_ | refine pX ?_ | refine bN ?_ | refine bR ?_ | refine bX ?_ | refine bO (by decide) ?_ | (apply WK.condT; (· rfl); (· exact dcd)) | (apply WK.condF; (· rfl); (· exact dcd)) | (apply WK.condD; (· rfl); all_goals intro _) | (apply WK.condN; (· rfl); all_goals intro _) | (apply WK.condB; (· rfl); all_goals intro _))
      all_goals first
        | exact .inr ⟨rfl, hbad, (.cons rfl <| .cons rfl <| .nil _), fun k hk => by apply HF.frb; (· assumption); (· rfl); (· exact hk), by simp only [next_bump] at *; omega⟩
        | (exfalso; omega)
  · repeat' (first | refine WK.seq ?_ | refine WK.skip ?_ | refine WK.ret ?_ | refine WK.exit ?_ | refine WK.block ?_ | (apply WK.reg; (· exact lnn)) | (apply WK.regC; (· rfl); (· exact lnn); (· decide)) | (apply WK.regd0; (· exact lnn)) | refine WKC.nil ?_ | refine WKO.nil ?_ | ((first | apply WKC.op | apply WKO.op | ((first | apply WKC.gop | apply WKO.gop); (· rfl); (· exact dcd))); (· first | exact k_mv rfl | exact opA); (· rfl)) | ((first | apply WKC.gnoT | apply WKO.gnoT | apply WKC.gnoF | apply WKO.gnoF); (· rfl); (· exact dcd)) | ((first | apply WKC.gnu | apply WKO.gnu); (· rfl)) | ((first | apply WKC.gsp | apply WKO.gsp); (· rfl); all_goals ((fail_if_success (refine known ?_ ?_; (· assumption))); intro _)) | ((first | apply WKC.gspB | apply WKO.gspB); (· rfl); all_goals ((fail_if_success (refine known ?_ ?_; (· assumption))); intro _)) | refine pN ?_ | refine pR ?_ | refine pX ?_ | refine bN ?_ | refine bR ?_ | refine bX ?_ | refine bO (by decide) ?_ | (apply WK.condT; (· rfl); (· exact dcd)) | (apply WK.condF; (· rfl); (· exact dcd)) | (apply WK.condD; (· rfl); all_goals intro _) | (apply WK.condN; (· rfl); all_goals intro _) | (apply WK.condB; (· rfl); all_goals intro _))
    have hil : i = l.length := by omega
    rw [hil] at hF
    exact .inl ⟨rfl, List.all_eq_true.2 (fun p hp => hgood p (by rw [List.take_of_length_le (by omega)]; exact hp)), (.cons rfl <| .cons rfl <| .nil _), T, hF.up rfl (by simp only [next_bump]; omega)⟩
/-- One sweep over the vertices; more of them. -/
def swS (N : List Nat) : Nat → Nat → Nat → Nat
  | 0, _, r => r
  | s + 1, i, r => swS N s (i + 1) (if bt r i then r ||| N.getD i 0 else r)
def reN (N : List Nat) : Nat → Nat → Nat
  | 0, r => r
  | k + 1, r => reN N k (swS N N.length 0 r)
/-- Whether read takes the graph to be connected. -/
def conS (N : List Nat) : Bool := decide (cnt (reN N N.length 1) = N.length)
/-- What read answers. -/
def ReadR (H0 : AHeap) (n : Int) (l : ZPrs) (v : AV) (H' : AHeap) : Prop :=
  (grZ n l = false ∧ v = .tup [.nilp, .bool false] ∧ (∀ k, k < H0.next → H'.get k = H0.get k) ∧ H0.next ≤ H'.next) ∨
  (grZ n l = true ∧ ∃ (m : Nat) (q : Prs) (G M : Nat), n = m ∧ 1 ≤ m ∧ m ≤ 10 ∧ zc l = prsC q ∧ q.length = l.length ∧ Egs m q ∧ v = .tup [.ptr G 0, .bool (conS (nearN m q))] ∧ RdH H0 G M m (nearN m q) H')
theorem k_bt64 {cf : CF} {n a i : Nat} {H : AHeap} {l : KL0} {x y : XO} (h64 : ∀ H m i, m < 1024 → i < 10 → cf 64 [sA m, nA i] H = some (.bool (m.testBit i), H)) (hx : evK l x = some (sA a)) (hy : evK l y = some (nA i)) (ha : a < 1024) (hi : i < 10) :
    XV cf l H n (.call (.k (.fn 64 [])) [x, y]) = some (.bool (bt a i), H) := by
  rw [bt_eq]
  exact k_call rfl (by simp only [evL, hx, hy]; rfl) (h64 _ _ _ ha hi)
theorem x46 {cf : CF} {fuel : Nat} {H0 : AHeap} {n : Int} {l : ZPrs} {X : AV} (hX : RdR 2 H0 X l.length (zc l)) (hf : 101 < fuel)
    (h64 : ∀ H m i, m < 1024 → i < 10 → cf 64 [sA m, nA i] H = some (.bool (m.testBit i), H)) (h67 : ∀ H m, m < 1024 → cf 67 [sA m] H = some (nA (cnt m), H)) :
    ∃ u H', xfunc cf fuel L46 [.int .i64 n, X] H0 = some (u, H') ∧ ReadR H0 n l u H' := by
  refine xfunc_ofK rfl (by show 2 ≤ 109; omega) ?_
  have hF0 : HF H0 [] H0.next [] H0 := ⟨by simp, by simp, by simp, Nat.le_refl _, Nat.le_refl _, fun _ _ _ => rfl⟩
  by_cases hc : 1 ≤ n ∧ n ≤ 10 ∧ l.length ≤ 60
  · obtain ⟨c1, c2, c3⟩ := hc
    obtain ⟨m, rfl⟩ : ∃ m : Nat, n = m := ⟨n.toNat, by omega⟩
    have hb := @body46_ok cf fuel
    unfold body46 at hb
    unfold L46 at hb ⊢
    dsimp only at hb ⊢
    repeat' (first | refine WK.seq ?_ | refine WK.skip ?_ | refine WK.ret ?_ | refine WK.exit ?_ | refine WK.block ?_ | (apply WK.reg; (· exact lnn)) | (apply WK.regC; (· rfl); (· exact lnn); (· decide)) | (apply WK.regd0; (· exact lnn)) | (apply WKO.mkO; (· rfl); (· rfl); (· omega); (· assumption); (· rfl); (· first | omega | (simp only [next_bump] at *; omega)); intro _ _ _) | (apply WKO.boxN; (· rfl); (· assumption); (· rfl); (· first | omega | (simp only [next_bump] at *; omega)); (· first | omega | (simp only [next_bump] at *; omega)); (· first | omega | (simp only [next_bump] at *; omega)); (· simp only [next_bump, List.map_cons, List.map_nil, List.mem_singleton] at *; omega); (· first | omega | (simp only [next_bump] at *; omega)); intro _ _ _) | (apply WKO.boxO; (· rfl); (· assumption); (· rfl); (· exact nxx); (· exact nxx); (· exact nxx); intro _ _ _) | (apply WKO.alO; (· assumption); (· rfl); (· exact nxx); (· exact nxx); (· exact nxx); intro _ _ _) | (apply WKO.mapO; (· assumption); (· rfl); (· exact nxx); (· exact nxx); (· exact nxx); intro _ _ _) | (apply WKO.bsO; (· rfl); (· rfl); (· assumption); (· rfl); (· exact nxx); (· exact nxx); (· exact nxx); intro _ _ _) | (apply WKO.stO0; (· rfl); (· rfl); (· assumption); (· rfl); (· exact nxx); (· first | exact .inr nxx | exact .inl (by simp)); (· rfl); (· rfl); (· first | decide | (simp; done) | omega); intro _ _ _) | (apply WKO.stO1; (· rfl); (· rfl); (· assumption); (· rfl); (· exact nxx); (· first | exact .inr nxx | exact .inl (by simp)); (· rfl); (· rfl); (· first | decide | (simp; done) | omega); intro _ _ _) | (apply WKO.stO2; (· rfl); (· rfl); (· assumption); (· rfl); (· exact nxx); (· first | exact .inr nxx | exact .inl (by simp)); (· rfl); (· rfl); (· first | decide | (simp; done) | omega); intro _ _ _) | refine WKC.nil ?_ | refine WKO.nil ?_ | ((first | apply WKC.op | apply WKO.op | ((first | apply WKC.gop | apply WKO.gop); (· rfl); (· exact dcd))); (· first | exact k_mv rfl | exact k_lenE rfl hX | exact k_lss0 rfl rfl | exact k_gtr0 rfl rfl | (apply k_ldO; (· rfl); (· assumption); (· rfl); (· exact mmb); (· rfl)) | (apply k_ldA; (· rfl); (· assumption); (· rfl); (· exact mmb); (· first | rfl | assumption | (simp; done))) | exact k_faddr rfl | exact k_nilc rfl | exact opA); (· rfl)) | ((first | apply WKC.gnoT | apply WKO.gnoT | apply WKC.gnoF | apply WKO.gnoF); (· rfl); (· exact dcd)) | ((first | apply WKC.gnu | apply WKO.gnu); (· rfl)) | ((first | apply WKC.gsp | apply WKO.gsp); (· rfl); all_goals ((fail_if_success (refine known ?_ ?_; (· assumption))); intro _)) | ((first | apply WKC.gspB | apply WKO.gspB); (· rfl); all_goals ((fail_if_success (refine known ?_ ?_; (· assumption))); intro _)) | refine pN ?_ | refine pR ?_ | refine pX ?_ | refine bN ?_ | refine bR ?_ | refine bX ?_ | refine bO (by decide) ?_ | (apply WK.condT; (· rfl); (· exact dcd)) | (apply WK.condF; (· rfl); (· exact dcd)) | (apply WK.condD; (· rfl); all_goals intro _) | (apply WK.condN; (· rfl); all_goals intro _) | (apply WK.condB; (· rfl); all_goals intro _))
    rename_i H1 hF1 hn1 H2 hF2 hn2
    clear hF1
    have hM0 : H0.next ≤ (((H0.bump 2).bump 11).bump 6).next := by simp only [next_bump]; omega
    generalize (((H0.bump 2).bump 11).bump 6).next = M at hF2 hn1 hM0 ⊢
    generalize ((H0.bump 2).bump 11).next + 1 + 1 + 1 + 1 = G at hF2 ⊢
    refine WK.loop (α := Nat) (fun i => L46a m X l G i) (fun i H => i ≤ l.length ∧ (∀ p ∈ l.take i, okE m p = true) ∧ RdH H0 G M m (nrZ m l i) H) (fun i => l.length - i) 0 (.cons rfl <| .cons rfl <| .cons rfl <| .cons rfl <| .cons rfl <| .cons rfl <| .cons rfl <| .cons rfl <| .nil _) ⟨Nat.zero_le _, by simp, M + 1, ?_⟩ (by omega) ?_
    · have e : (List.replicate m [AV.int IntKind.u16 (Int.ofNat 0)]).flatten = (nrZ m l 0).map sA := by
        show _ = (List.replicate m 0).map sA
        rw [List.map_replicate]
        clear hX hF2 hb c1 c2
        induction m with
        | zero => rfl
        | succ n ih => rw [List.replicate_succ, List.flatten_cons, ih]; rfl
      rw [e] at hF2
      exact hF2.up rfl (by simp only [next_bump]; omega)
    rintro i H ⟨h1, h2, h3⟩
    refine (hb (by omega) hX c3 hM0 i H h1 h2 h3).mono ?_
    rintro e l' H' ⟨p1, p2⟩
    refine ⟨p1, fun hne => ?_⟩
    rcases p2 hne with ⟨rfl, hall, hs, hR⟩ | ⟨rfl, hall, hs, hk, hnx⟩
    · clear hb p1 p2
      refine bX ?_
      refine pN ?_
      refine WK.sub hs ?_
      obtain ⟨q, hq, hqE⟩ : ∃ q : Prs, l = q.map (fun c => ((c.1 : Int), (c.2 : Int))) ∧ Egs m q := by
        refine ⟨l.map nE, ?_, fun c hc => ?_⟩
        · rw [List.map_map]
          conv => lhs; rw [← List.map_id l]
          refine List.map_congr_left fun p hp => ?_
          obtain ⟨a, b, rfl, _⟩ := okE_nat (List.all_eq_true.1 hall p hp)
          rfl
        · obtain ⟨p, hp, rfl⟩ := List.mem_map.1 hc
          obtain ⟨a, b, rfl, h⟩ := okE_nat (List.all_eq_true.1 hall p hp)
          exact h
      have hz : zc l = prsC q := by rw [hq, zc_prs]
      have hN : nrZ m l l.length = nearN m q := by
        rw [nrZ, List.take_of_length_le (Nat.le_refl _), hq, List.map_map]
        show (List.map _ q).foldl nearSt _ = _
        have : (nE ∘ fun c : Nat × Nat => ((c.1 : Int), (c.2 : Int))) = id := by funext c; rfl
        rw [this, List.map_id]
        rfl
      rw [hN] at hR
      have hNl := nearN_len m q
      have hNt := nearN_lt (by omega) hqE
      generalize hNN : nearN m q = N at hR hNl hNt
      obtain ⟨T, hF⟩ := hR
      repeat' (first | refine WK.seq ?_ | refine WK.skip ?_ | refine WK.ret ?_ | refine WK.exit ?_ | refine WK.block ?_ | (apply WK.reg; (· exact lnn)) | (apply WK.regC; (· rfl); (· exact lnn); (· decide)) | (apply WK.regd0; (· exact lnn)) | (apply WKO.boxO; (· rfl); (· assumption); (· rfl); (· exact nxx); (· exact nxx); (· exact nxx); intro _ _ _) | (apply WKO.alO; (· assumption); (· rfl); (· exact nxx); (· exact nxx); (· exact nxx); intro _ _ _) | (apply WKO.mapO; (· assumption); (· rfl); (· exact nxx); (· exact nxx); (· exact nxx); intro _ _ _) | (apply WKO.bsO; (· rfl); (· rfl); (· assumption); (· rfl); (· exact nxx); (· exact nxx); (· exact nxx); intro _ _ _) | (apply WKO.stO0; (· rfl); (· rfl); (· assumption); (· rfl); (· exact nxx); (· first | exact .inr nxx | exact .inl (by simp)); (· rfl); (· rfl); (· first | decide | (simp; done) | omega); intro _ _ _) | (apply WKO.stO1; (· rfl); (· rfl); (· assumption); (· rfl); (· exact nxx); (· first | exact .inr nxx | exact .inl (by simp)); (· rfl); (· rfl); (· first | decide | (simp; done) | omega); intro _ _ _) | (apply WKO.stO2; (· rfl); (· rfl); (· assumption); (· rfl); (· exact nxx); (· first | exact .inr nxx | exact .inl (by simp)); (· rfl); (· rfl); (· first | decide | (simp; done) | omega); intro _ _ _) | refine WKC.nil ?_ | refine WKO.nil ?_ | ((first | apply WKC.op | apply WKO.op | ((first | apply WKC.gop | apply WKO.gop); (· rfl); (· exact dcd))); (· first | exact k_mv rfl | (apply k_ldO; (· rfl); (· assumption); (· rfl); (· exact mmb); (· rfl)) | (apply k_ldA; (· rfl); (· assumption); (· rfl); (· exact mmb); (· first | rfl | assumption | (simp; done))) | exact k_faddr rfl | exact k_nilc rfl | exact opA); (· rfl)) | ((first | apply WKC.gnoT | apply WKO.gnoT | apply WKC.gnoF | apply WKO.gnoF); (· rfl); (· exact dcd)) | ((first | apply WKC.gnu | apply WKO.gnu); (· rfl)) | ((first | apply WKC.gsp | apply WKO.gsp); (· rfl); all_goals ((fail_if_success (refine known ?_ ?_; (· assumption))); intro _)) | ((first | apply WKC.gspB | apply WKO.gspB); (· rfl); all_goals ((fail_if_success (refine known ?_ ?_; (· assumption))); intro _)) | refine pN ?_ | refine pR ?_ | refine pX ?_ | refine bN ?_ | refine bR ?_ | refine bX ?_ | refine bO (by decide) ?_ | (apply WK.condT; (· rfl); (· exact dcd)) | (apply WK.condF; (· rfl); (· exact dcd)) | (apply WK.condD; (· rfl); all_goals intro _) | (apply WK.condN; (· rfl); all_goals intro _) | (apply WK.condB; (· rfl); all_goals intro _))
      refine WK.loop (α := Nat × Nat) (fun p => [(0, nA m), (6, .ptr G 0), (83, nA m), (84, nA p.1), (9, sA p.2)]) (fun p H => p.1 ≤ m ∧ p.2 < 1024 ∧ reN N (m - p.1) p.2 = reN N m 1 ∧ HF H0 [] T [(G, .cells [nA m, .sl M 0 m m] none), (M, .cells (N.map sA) none)] H) (fun p => m - p.1) (0, 1) (.cons rfl <| .cons rfl <| .cons rfl <| .cons rfl <| .cons rfl <| .nil _) ⟨Nat.zero_le _, by decide, rfl, hF.up rfl (by simp only [next_bump]; omega)⟩ (by dsimp only; omega) ?_
      clear hF
      rintro ⟨k, r⟩ H ⟨h1, h2, h3, hF⟩
      dsimp only at h1 h2 h3 ⊢
      by_cases hk : k < m
      · repeat' (first | refine WK.seq ?_ | refine WK.skip ?_ | refine WK.ret ?_ | refine WK.exit ?_ | refine WK.block ?_ | (apply WK.reg; (· exact lnn)) | (apply WK.regC; (· rfl); (· exact lnn); (· decide)) | (apply WK.regd0; (· exact lnn)) | (apply WKO.boxO; (· rfl); (· assumption); (· rfl); (· exact nxx); (· exact nxx); (· exact nxx); intro _ _ _) | (apply WKO.alO; (· assumption); (· rfl); (· exact nxx); (· exact nxx); (· exact nxx); intro _ _ _) | (apply WKO.mapO; (· assumption); (· rfl); (· exact nxx); (· exact nxx); (· exact nxx); intro _ _ _) | (apply WKO.bsO; (· rfl); (· rfl); (· assumption); (· rfl); (· exact nxx); (· exact nxx); (· exact nxx); intro _ _ _) | (apply WKO.stO0; (· rfl); (· rfl); (· assumption); (· rfl); (· exact nxx); (· first | exact .inr nxx | exact .inl (by simp)); (· rfl); (· rfl); (· first | decide | (simp; done) | omega); intro _ _ _) | (apply WKO.stO1; (· rfl); (· rfl); (· assumption); (· rfl); (· exact nxx); (· first | exact .inr nxx | exact .inl (by simp)); (· rfl); (· rfl); (· first | decide | (simp; done) | omega); intro _ _ _) | (apply WKO.stO2; (· rfl); (· rfl); (· assumption); (· rfl); (· exact nxx); (· first | exact .inr nxx | exact .inl (by simp)); (· rfl); (· rfl); (· first | decide | (simp; done) | omega); intro _ _ _) | refine WKC.nil ?_ | refine WKO.nil ?_ | ((first | apply WKC.op | apply WKO.op | ((first | apply WKC.gop | apply WKO.gop); (· rfl); (· exact dcd))); (· first | exact k_mv rfl | (apply k_ldO; (· rfl); (· assumption); (· rfl); (· exact mmb); (· rfl)) | (apply k_ldA; (· rfl); (· assumption); (· rfl); (· exact mmb); (· first | rfl | assumption | (simp; done))) | exact k_faddr rfl | exact k_nilc rfl | exact opA); (· rfl)) | ((first | apply WKC.gnoT | apply WKO.gnoT | apply WKC.gnoF | apply WKO.gnoF); (· rfl); (· exact dcd)) | ((first | apply WKC.gnu | apply WKO.gnu); (· rfl)) | ((first | apply WKC.gsp | apply WKO.gsp); (· rfl); all_goals ((fail_if_success (refine known ?_ ?_; (· assumption))); intro _)) | ((first | apply WKC.gspB | apply WKO.gspB); (· rfl); all_goals ((fail_if_success (refine known ?_ ?_; (· assumption))); intro _)) | refine pN ?_ | refine pR ?_ | refine pX ?_ | refine bN ?_ | refine bR ?_ | refine bX ?_ | refine bO (by decide) ?_ | (apply WK.condT; (· rfl); (· exact dcd)) | (apply WK.condF; (· rfl); (· exact dcd)) | (apply WK.condD; (· rfl); all_goals intro _) | (apply WK.condN; (· rfl); all_goals intro _) | (apply WK.condB; (· rfl); all_goals intro _))
        refine WK.loop (α := Nat × Nat) (fun p => [(0, nA m), (6, .ptr G 0), (83, nA m), (84, nA k), (89, .sl M 0 m m), (90, nA m), (91, nA p.1), (9, sA p.2)]) (fun p H => p.1 ≤ m ∧ p.2 < 1024 ∧ swS N (m - p.1) p.1 p.2 = swS N m 0 r ∧ HF H0 [] T [(G, .cells [nA m, .sl M 0 m m] none), (M, .cells (N.map sA) none)] H) (fun p => m - p.1) (0, r) (.cons rfl <| .cons rfl <| .cons rfl <| .cons rfl <| .cons rfl <| .cons rfl <| .cons rfl <| .cons rfl <| .nil _) ⟨Nat.zero_le _, h2, rfl, hF.up rfl (by simp only [next_bump]; omega)⟩ (by dsimp only; omega) ?_
        clear hF
        rintro ⟨i, r'⟩ H ⟨i1, i2, i3, hF⟩
        dsimp only at i1 i2 i3 ⊢
        by_cases hi : i < m
        · repeat' (first | refine WK.seq ?_ | refine WK.skip ?_ | refine WK.ret ?_ | refine WK.exit ?_ | refine WK.block ?_ | (apply WK.reg; (· exact lnn)) | (apply WK.regC; (· rfl); (· exact lnn); (· decide)) | (apply WK.regd0; (· exact lnn)) | (apply WKO.boxO; (· rfl); (· assumption); (· rfl); (· exact nxx); (· exact nxx); (· exact nxx); intro _ _ _) | (apply WKO.alO; (· assumption); (· rfl); (· exact nxx); (· exact nxx); (· exact nxx); intro _ _ _) | (apply WKO.mapO; (· assumption); (· rfl); (· exact nxx); (· exact nxx); (· exact nxx); intro _ _ _) | (apply WKO.bsO; (· rfl); (· rfl); (· assumption); (· rfl); (· exact nxx); (· exact nxx); (· exact nxx); intro _ _ _) | (apply WKO.stO0; (· rfl); (· rfl); (· assumption); (· rfl); (· exact nxx); (· first | exact .inr nxx | exact .inl (by simp)); (· rfl); (· rfl); (· first | decide | (simp; done) | omega); intro _ _ _) | (apply WKO.stO1; (· rfl); (· rfl); (· assumption); (· rfl); (· exact nxx); (· first | exact .inr nxx | exact .inl (by simp)); (· rfl); (· rfl); (· first | decide | (simp; done) | omega); intro _ _ _) | (apply WKO.stO2; (· rfl); (· rfl); (· assumption); (· rfl); (· exact nxx); (· first | exact .inr nxx | exact .inl (by simp)); (· rfl); (· rfl); (· first | decide | (simp; done) | omega); intro _ _ _) | refine WKC.nil ?_ | refine WKO.nil ?_ | ((first | apply WKC.op | apply WKO.op | ((first | apply WKC.gop | apply WKO.gop); (· rfl); (· exact dcd))); (· first | exact k_mv rfl | exact k_ia1s rfl rfl (by omega) | exact k_bt64 h64 rfl rfl (by omega) (by omega) | (apply k_ldO; (· rfl); (· assumption); (· rfl); (· exact .tail _ (.head _)); (· exact map_at (by omega))) | exact k_or16 rfl rfl i2 (getD_lt10 hNt _) | (apply k_ldO; (· rfl); (· assumption); (· rfl); (· exact mmb); (· rfl)) | (apply k_ldA; (· rfl); (· assumption); (· rfl); (· exact mmb); (· first | rfl | assumption | (simp; done))) | exact k_faddr rfl | exact k_nilc rfl | exact opA); (· rfl)) | ((first | apply WKC.gnoT | apply WKO.gnoT | apply WKC.gnoF | apply WKO.gnoF); (· rfl); (· exact dcd)) | ((first | apply WKC.gnu | apply WKO.gnu); (· rfl)) | ((first | apply WKC.gsp | apply WKO.gsp); (· rfl); all_goals ((fail_if_success (refine known ?_ ?_; (· assumption))); intro _)) | ((first | apply WKC.gspB | apply WKO.gspB); (· rfl); all_goals ((fail_if_success (refine known ?_ ?_; (· assumption))); intro _)) | refine pN ?_ | refine pR ?_ | refine pX ?_ | refine bN ?_ | refine bR ?_ | refine bX ?_ | refine bO (by decide) ?_ | (apply WK.condT; (· rfl); (· exact dcd)) | (apply WK.condF; (· rfl); (· exact dcd)) | (apply WK.condD; (· rfl); all_goals intro _) | (apply WK.condN; (· rfl); all_goals intro _) | (apply WK.condB; (· rfl); all_goals intro _))
          · rename_i hb
            refine ⟨(i + 1, r' ||| N.getD i 0), (.cons rfl <| .cons rfl <| .cons rfl <| .cons rfl <| .cons rfl <| .cons rfl <| .cons rfl <| .cons rfl <| .nil _), ⟨hi, or10 i2 (getD_lt10 hNt i), ?_, hF.up rfl (by simp only [next_bump]; omega)⟩, ?_⟩ <;> dsimp only
            · rw [← i3, show m - i = m - (i + 1) + 1 by omega, swS, if_pos hb]
            · omega
          · rename_i hb
            refine ⟨(i + 1, r'), (.cons rfl <| .cons rfl <| .cons rfl <| .cons rfl <| .cons rfl <| .cons rfl <| .cons rfl <| .cons rfl <| .nil _), ⟨hi, i2, ?_, hF.up rfl (by simp only [next_bump]; omega)⟩, ?_⟩ <;> dsimp only
            · rw [← i3, show m - i = m - (i + 1) + 1 by omega, swS, if_neg (by rw [hb]; decide)]
            · omega
        · repeat' (first | refine WK.seq ?_ | refine WK.skip ?_ | refine WK.ret ?_ | refine WK.exit ?_ | refine WK.block ?_ | (apply WK.reg; (· exact lnn)) | (apply WK.regC; (· rfl); (· exact lnn); (· decide)) | (apply WK.regd0; (· exact lnn)) | (apply WKO.boxO; (· rfl); (· assumption); (· rfl); (· exact nxx); (· exact nxx); (· exact nxx); intro _ _ _) | (apply WKO.alO; (· assumption); (· rfl); (· exact nxx); (· exact nxx); (· exact nxx); intro _ _ _) | (apply WKO.mapO; (· assumption); (· rfl); (· exact nxx); (· exact nxx); (· exact nxx); intro _ _ _) | (apply WKO.bsO; (· rfl); (· rfl); (· assumption); (· rfl); (· exact nxx); (· exact nxx); (· exact nxx); intro _ _ _) | (apply WKO.stO0; (· rfl); (· rfl); (· assumption); (· rfl); (· exact nxx); (· first | exact .inr nxx | exact .inl (by simp)); (· rfl); (· rfl); (· first | decide | (simp; done) | omega); intro _ _ _) | (apply WKO.stO1; (· rfl); (· rfl); (· assumption); (· rfl); (· exact nxx); (· first | exact .inr nxx | exact .inl (by simp)); (· rfl); (· rfl); (· first | decide | (simp; done) | omega); intro _ _ _) | (apply WKO.stO2; (· rfl); (· rfl); (· assumption); (· rfl); (· exact nxx); (· first | exact .inr nxx | exact .inl (by simp)); (· rfl); (· rfl); (· first | decide | (simp; done) | omega); intro _ _ _) | refine WKC.nil ?_ | refine WKO.nil ?_ | ((first | apply WKC.op | apply WKO.op | ((first | apply WKC.gop | apply WKO.gop); (· rfl); (· exact dcd))); (· first | exact k_mv rfl | (apply k_ldO; (· rfl); (· assumption); (· rfl); (· exact mmb); (· rfl)) | (apply k_ldA; (· rfl); (· assumption); (· rfl); (· exact mmb); (· first | rfl | assumption | (simp; done))) | exact k_faddr rfl | exact k_nilc rfl | exact opA); (· rfl)) | ((first | apply WKC.gnoT | apply WKO.gnoT | apply WKC.gnoF | apply WKO.gnoF); (· rfl); (· exact dcd)) | ((first | apply WKC.gnu | apply WKO.gnu); (· rfl)) | ((first | apply WKC.gsp | apply WKO.gsp); (· rfl); all_goals ((fail_if_success (refine known ?_ ?_; (· assumption))); intro _)) | ((first | apply WKC.gspB | apply WKO.gspB); (· rfl); all_goals ((fail_if_success (refine known ?_ ?_; (· assumption))); intro _)) | refine pN ?_ | refine pR ?_ | refine pX ?_ | refine bN ?_ | refine bR ?_ | refine bX ?_ | refine bO (by decide) ?_ | (apply WK.condT; (· rfl); (· exact dcd)) | (apply WK.condF; (· rfl); (· exact dcd)) | (apply WK.condD; (· rfl); all_goals intro _) | (apply WK.condN; (· rfl); all_goals intro _) | (apply WK.condB; (· rfl); all_goals intro _))
          refine ⟨(k + 1, r'), (.cons rfl <| .cons rfl <| .cons rfl <| .cons rfl <| .cons rfl <| .nil _), ⟨hk, i2, ?_, hF.up rfl (by simp only [next_bump]; omega)⟩, ?_⟩ <;> dsimp only
          · rw [show m - i = 0 by omega, swS] at i3
            rw [← h3, show m - k = m - (k + 1) + 1 by omega, reN, hNl, i3]
          · omega
      · repeat' (first | refine WK.seq ?_ | refine WK.skip ?_ | refine WK.ret ?_ | refine WK.exit ?_ | refine WK.block ?_ | (apply WK.reg; (· exact lnn)) | (apply WK.regC; (· rfl); (· exact lnn); (· decide)) | (apply WK.regd0; (· exact lnn)) | (apply WKO.boxO; (· rfl); (· assumption); (· rfl); (· exact nxx); (· exact nxx); (· exact nxx); intro _ _ _) | (apply WKO.alO; (· assumption); (· rfl); (· exact nxx); (· exact nxx); (· exact nxx); intro _ _ _) | (apply WKO.mapO; (· assumption); (· rfl); (· exact nxx); (· exact nxx); (· exact nxx); intro _ _ _) | (apply WKO.bsO; (· rfl); (· rfl); (· assumption); (· rfl); (· exact nxx); (· exact nxx); (· exact nxx); intro _ _ _) | (apply WKO.stO0; (· rfl); (· rfl); (· assumption); (· rfl); (· exact nxx); (· first | exact .inr nxx | exact .inl (by simp)); (· rfl); (· rfl); (· first | decide | (simp; done) | omega); intro _ _ _) | (apply WKO.stO1; (· rfl); (· rfl); (· assumption); (· rfl); (· exact nxx); (· first | exact .inr nxx | exact .inl (by simp)); (· rfl); (· rfl); (· first | decide | (simp; done) | omega); intro _ _ _) | (apply WKO.stO2; (· rfl); (· rfl); (· assumption); (· rfl); (· exact nxx); (· first | exact .inr nxx | exact .inl (by simp)); (· rfl); (· rfl); (· first | decide | (simp; done) | omega); intro _ _ _) | refine WKC.nil ?_ | refine WKO.nil ?_ | ((first | apply WKC.op | apply WKO.op | ((first | apply WKC.gop | apply WKO.gop); (· rfl); (· exact dcd))); (· first | exact k_mv rfl | exact k_call rfl rfl (h67 _ _ h2) | (apply k_ldO; (· rfl); (· assumption); (· rfl); (· exact mmb); (· rfl)) | (apply k_ldA; (· rfl); (· assumption); (· rfl); (· exact mmb); (· first | rfl | assumption | (simp; done))) | exact k_faddr rfl | exact k_nilc rfl | exact opA); (· rfl)) | ((first | apply WKC.gnoT | apply WKO.gnoT | apply WKC.gnoF | apply WKO.gnoF); (· rfl); (· exact dcd)) | ((first | apply WKC.gnu | apply WKO.gnu); (· rfl)) | ((first | apply WKC.gsp | apply WKO.gsp); (· rfl); all_goals ((fail_if_success (refine known ?_ ?_; (· assumption))); intro _)) | ((first | apply WKC.gspB | apply WKO.gspB); (· rfl); all_goals ((fail_if_success (refine known ?_ ?_; (· assumption))); intro _)) | refine pN ?_ | refine pR ?_ | refine pX ?_ | refine bN ?_ | refine bR ?_ | refine bX ?_ | refine bO (by decide) ?_ | (apply WK.condT; (· rfl); (· exact dcd)) | (apply WK.condF; (· rfl); (· exact dcd)) | (apply WK.condD; (· rfl); all_goals intro _) | (apply WK.condN; (· rfl); all_goals intro _) | (apply WK.condB; (· rfl); all_goals intro _))
        have hkm : k = m := by omega
        subst hkm
        refine ⟨nofun, _, rfl, .inr ⟨?_, k, q, G, M, rfl, by omega, by omega, hz, by rw [hq, List.length_map], hqE, ?_, T, ?_⟩⟩
        · simp only [grZ, hall, Bool.and_true, Bool.and_eq_true, decide_eq_true_eq]
          exact ⟨⟨c1, c2⟩, c3⟩
        · rw [show k - k = 0 by omega, reN] at h3
          rw [hNN, conS, hNl, ← h3]
          rfl
        · rw [hNN]
          exact hF.up rfl (by simp only [next_bump]; omega)
    · have hg : grZ (m : Int) l = false := by rw [grZ, hall, Bool.and_false]
      repeat' (first | refine WK.seq ?_ | refine WK.skip ?_ | refine WK.ret ?_ | refine WK.exit ?_ | refine WK.block ?_ | (apply WK.reg; (· exact lnn)) | (apply WK.regC; (· rfl); (· exact lnn); (· decide)) | (apply WK.regd0; (· exact lnn)) | refine WKC.nil ?_ | refine WKO.nil ?_ | ((first | apply WKC.op | apply WKO.op | ((first | apply WKC.gop | apply WKO.gop); (· rfl); (· exact dcd))); (· first | exact k_mv rfl | exact opA); (· rfl)) | ((first | apply WKC.gnoT | apply WKO.gnoT | apply WKC.gnoF | apply WKO.gnoF); (· rfl); (· exact dcd)) | ((first | apply WKC.gnu | apply WKO.gnu); (· rfl)) | ((first | apply WKC.gsp | apply WKO.gsp); (· rfl); all_goals ((fail_if_success (refine known ?_ ?_; (· assumption))); intro _)) | ((first | apply WKC.gspB | apply WKO.gspB); (· rfl); all_goals ((fail_if_success (refine known ?_ ?_; (· assumption))); intro _)) | refine pN ?_ | refine pR ?_ | refine pX ?_ | refine bN ?_ | refine bR ?_ | refine bX ?_ | refine bO (by decide) ?_ | (apply WK.condT; (· rfl); (· exact dcd)) | (apply WK.condF; (· rfl); (· exact dcd)) | (apply WK.condD; (· rfl); all_goals intro _) | (apply WK.condN; (· rfl); all_goals intro _) | (apply WK.condB; (· rfl); all_goals intro _))
      refine ⟨nofun, [.nilp, .bool false], ?_, .inl ⟨hg, rfl, hk, hnx⟩⟩
      simp only [resK, resK1, hs 4 .nilp rfl, hs 5 (.bool false) rfl, Option.bind_some]
  · have hg : grZ n l = false := by
      rw [Bool.eq_false_iff]
      intro w
      simp only [grZ, Bool.and_eq_true, decide_eq_true_eq] at w
      exact hc ⟨w.1.1.1, w.1.1.2, w.1.2⟩
    repeat' (first | refine WK.seq ?_ | refine WK.skip ?_ | refine WK.ret ?_ | refine WK.exit ?_ | refine WK.block ?_ | (apply WK.reg; (· exact lnn)) | (apply WK.regC; (· rfl); (· exact lnn); (· decide)) | (apply WK.regd0; (· exact lnn)) | (apply WKO.boxO; (· rfl); (· assumption); (· rfl); (· exact nxx); (· exact nxx); (· exact nxx); intro _ _ _) | (apply WKO.alO; (· assumption); (· rfl); (· exact nxx); (· exact nxx); (· exact nxx); intro _ _ _) | (apply WKO.mapO; (· assumption); (· rfl); (· exact nxx); (· exact nxx); (· exact nxx); intro _ _ _) | (apply WKO.bsO; (· rfl); (· rfl); (· assumption); (· rfl); (· exact nxx); (· exact nxx); (· exact nxx); intro _ _ _) | (apply WKO.stO0; (· rfl); (· rfl); (· assumption); (· rfl); (· exact nxx); (· first | exact .inr nxx | exact .inl (by simp)); (· rfl); (· rfl); (· first | decide | (simp; done) | omega); intro _ _ _) | (apply WKO.stO1; (· rfl); (· rfl); (· assumption); (· rfl); (· exact nxx); (· first | exact .inr nxx | exact .inl (by simp)); (· rfl); (· rfl); (· first | decide | (simp; done) | omega); intro _ _ _) | (apply WKO.stO2; (· rfl); (· rfl); (· assumption); (· rfl); (· exact nxx); (· first | exact .inr nxx | exact .inl (by simp)); (· rfl); (· rfl); (· first | decide | (simp; done) | omega); intro _ _ _) | refine WKC.nil ?_ | refine WKO.nil ?_ | ((first | apply WKC.op | apply WKO.op | ((first | apply WKC.gop | apply WKO.gop); (· rfl); (· exact dcd))); (· first | exact k_mv rfl | exact k_lenE rfl hX | exact k_lss0 rfl rfl | exact k_gtr0 rfl rfl | (apply k_ldO; (· rfl); (· assumption); (· rfl); (· exact mmb); (· rfl)) | (apply k_ldA; (· rfl); (· assumption); (· rfl); (· exact mmb); (· first | rfl | assumption | (simp; done))) | exact k_faddr rfl | exact k_nilc rfl | exact opA); (· rfl)) | ((first | apply WKC.gnoT | apply WKO.gnoT | apply WKC.gnoF | apply WKO.gnoF); (· rfl); (· exact dcd)) | ((first | apply WKC.gnu | apply WKO.gnu); (· rfl)) | ((first | apply WKC.gsp | apply WKO.gsp); (· rfl); all_goals ((fail_if_success (refine known ?_ ?_; (· assumption))); intro _)) | ((first | apply WKC.gspB | apply WKO.gspB); (· rfl); all_goals ((fail_if_success (refine known ?_ ?_; (· assumption))); intro _)) | refine pN ?_ | refine pR ?_ | refine pX ?_ | refine bN ?_ | refine bR ?_ | refine bX ?_ | refine bO (by decide) ?_ | (apply WK.condT; (· rfl); (· exact dcd)) | (apply WK.condF; (· rfl); (· exact dcd)) | (apply WK.condD; (· rfl); all_goals intro _) | (apply WK.condN; (· rfl); all_goals intro _) | (apply WK.condB; (· rfl); all_goals intro _))
    all_goals first
      | exact ⟨nofun, _, rfl, .inl ⟨hg, rfl, fun _ _ => rfl, by simp only [next_bump]; omega⟩⟩
      | (exfalso; omega)
end Go.Proofs.Ytpbighinamljbaa.PA
/- news.from, and the closures of Valid that look for calls that name nobody. No condition. -/
set_option linter.unusedSimpArgs false
set_option linter.unusedVariables false
namespace Go.Proofs.Ytpbighinamljbaa.PA
open Go Go.Eng Go.Proofs
/-- All that was there stays. -/
def Kp (H H' : AHeap) : Prop := H.next ≤ H'.next ∧ ∀ k, k < H.next → H'.get k = H.get k
theorem Kp.refl (H : AHeap) : Kp H H := ⟨Nat.le_refl _, fun _ _ => rfl⟩
theorem Kp.up {H H' H2 : AHeap} (h : Kp H H') (hm : H2.m = H'.m) (hn : H'.next ≤ H2.next) : Kp H H2 := ⟨Nat.le_trans h.1 hn, fun k hk => by
  have : H2.get k = H'.get k := by unfold AHeap.get; rw [hm]
  exact this.trans (h.2 k hk)⟩
theorem Kp.trans {H H' H2 : AHeap} (h : Kp H H') (h2 : Kp H' H2) : Kp H H2 := ⟨Nat.le_trans h.1 h2.1, fun k hk => (h2.2 k (Nat.lt_of_lt_of_le hk h.1)).trans (h.2 k hk)⟩
theorem Kp.bump {H : AHeap} (k : Nat) : Kp H (H.bump k) := ⟨by simp only [next_bump]; omega, fun _ _ => rfl⟩
theorem _root_.Go.Eng.HF.kp {H0 H : AHeap} {T : Nat} {fs : List (Nat × AObj)} (h : HF H0 [] T fs H) : Kp H0 H := ⟨Nat.le_trans h.base h.le, fun k hk => h.fr k hk (by simp)⟩
theorem _root_.Go.Eng.HF.callK {H0 H H' : AHeap} {mod : List Nat} {T : Nat} {fs : List (Nat × AObj)} (h : HF H0 mod T fs H) (hk : Kp H H') : HF H0 mod T fs H' :=
  h.call (mod' := []) (fun k hk' _ => hk.2 k hk') hk.1 (by simp) (by simp)
theorem hf0 (H : AHeap) : HF H [] H.next [] H := ⟨by simp, by simp, by simp, Nat.le_refl _, Nat.le_refl _, fun _ _ _ => rfl⟩
theorem RdR.kp {z len : Nat} {H H' : AHeap} {X : AV} {cs : List AV} (h : RdR z H X len cs) (hk : Kp H H') : RdR z H' X len cs := h.frame hk.1 fun i hi => hk.2 i (h.own_lt hi)
end Go.Proofs.Ytpbighinamljbaa.PA
/- slices.ContainsFunc over calls and over rounds. No condition. -/
set_option linter.unusedSimpArgs false
set_option linter.unusedVariables false
namespace Go.Proofs.Ytpbighinamljbaa.PA
open Go Go.Eng Go.Proofs
theorem Kp.get {H0 H : AHeap} {P : Nat} {o : AObj} (h : Kp H0 H) (hP : H0.get P = some o) (hlt : P < H0.next) : H.get P = some o := (h.2 P hlt).trans hP
section
variable {cf : CF} {fuel P : Nat} {H0 : AHeap} {n : Int}
end
end Go.Proofs.Ytpbighinamljbaa.PA
/- news.Valid, walked. No condition. -/
set_option linter.unusedSimpArgs false
set_option linter.unusedVariables false
namespace Go.Proofs.Ytpbighinamljbaa.PA
open Go Go.Eng Go.Proofs
theorem k_mkfn {cf : CF} {n f : Nat} {H : AHeap} {l : KL0} {xs : List XO} {av : List AV} (h : evL (evK l) xs = some av) : XV cf l H n (.mkfn f xs) = some (.fn f av, H) := k_any (by simp only [xval, xop, h])
theorem pow11 {m : Nat} (h : m ≤ 10) : 2 ^ m ≤ 1024 := Nat.pow_le_pow_right (n := 2) (by omega) h
/-- A round: who is busy behind it; none: it is not valid. -/
def vC (N : List Nat) (inf : Nat) : Prs → Nat → Option Nat
  | [], busy => some busy
  | (a, b) :: l, busy => if bt inf a = true ∧ bt inf b = false ∧ bt busy a = false ∧ bt busy b = false ∧ bt (N.getD a 0) b = true then vC N inf l (busy ||| (2 ^ a ||| 2 ^ b)) else none
def vR (N : List Nat) : List Prs → Nat → Option Nat
  | [], inf => some inf
  | l :: ls, inf => match vC N inf l 0 with
    | none => none
    | some busy => vR N ls (inf ||| busy)
end Go.Proofs.Ytpbighinamljbaa.PA
/- The reference's Schedule: whether a schedule names vertices alone. No condition. -/
set_option linter.unusedSimpArgs false
set_option linter.unusedVariables false
namespace Go.Proofs.Ytpbighinamljbaa.PA
open Go Go.Eng Go.Proofs
attribute [local irreducible] inZ
end Go.Proofs.Ytpbighinamljbaa.PA
/- The reference's Valid. No condition. -/
set_option linter.unusedSimpArgs false
set_option linter.unusedVariables false
namespace Go.Proofs.Ytpbighinamljbaa.PA
open Go Go.Eng Go.Proofs
end Go.Proofs.Ytpbighinamljbaa.PA
/- Whether a graph is connected: sweeps and balls say the same. No condition. -/
set_option linter.unusedSimpArgs false
set_option linter.unusedVariables false
namespace Go.Proofs.Ytpbighinamljbaa.PA
open Go Go.Eng Go.Proofs
/-- One set lies within another. -/
def Inn (a b : Nat) : Prop := ∀ i, a.testBit i = true → b.testBit i = true
theorem Inn.refl (a : Nat) : Inn a a := fun _ h => h
theorem Inn.trans {a b c : Nat} (h : Inn a b) (g : Inn b c) : Inn a c := fun i hi => g i (h i hi)
theorem Inn.orl (a b : Nat) : Inn a (a ||| b) := fun i h => by rw [Nat.testBit_or, h]; rfl
theorem Inn.orr (a b : Nat) : Inn b (a ||| b) := fun i h => by rw [Nat.testBit_or, h]; simp
theorem Inn.or {a b c : Nat} (h : Inn a c) (g : Inn b c) : Inn (a ||| b) c := fun i hi => by
  rw [Nat.testBit_or, Bool.or_eq_true] at hi
  exact hi.elim (h i) (g i)
theorem Inn.eq {a b : Nat} (h : Inn a b) (g : Inn b a) : a = b := by
  apply Nat.eq_of_testBit_eq
  intro i
  rw [Bool.eq_iff_iff]
  exact ⟨h i, g i⟩
theorem arN_ge {N : List Nat} {set : Nat} : ∀ (s v acc : Nat), Inn acc (arN N set s v acc)
  | 0, _, acc => Inn.refl _
  | s + 1, v, acc => by
    rw [arN]
    refine Inn.trans ?_ (arN_ge s (v + 1) _)
    split
    · exact Inn.orl _ _
    · exact Inn.refl _
theorem arN_in {N : List Nat} {set : Nat} : ∀ (s v acc i : Nat), v ≤ i → i < v + s → bt set i = true → Inn (N.getD i 0) (arN N set s v acc)
  | 0, v, _, i, h, h', _ => by omega
  | s + 1, v, acc, i, h, h', hb => by
    rw [arN]
    by_cases e : i = v
    · subst e
      rw [if_pos hb]
      exact Inn.trans (Inn.orr _ _) (arN_ge _ _ _)
    · exact arN_in s (v + 1) _ i (by omega) (by omega) hb
theorem arN_le {N : List Nat} {set C : Nat} : ∀ (s v acc : Nat), Inn acc C → (∀ i, v ≤ i → i < v + s → bt set i = true → Inn (N.getD i 0) C) → Inn (arN N set s v acc) C
  | 0, _, _, h, _ => h
  | s + 1, v, acc, h, g => by
    rw [arN]
    refine arN_le s (v + 1) _ ?_ (fun i h1 h2 => g i (by omega) (by omega))
    split
    · rename_i hb
      exact Inn.or h (g v (Nat.le_refl _) (by omega) hb)
    · exact h
/-- A set that none of its members' neighbours lie outside of. -/
def ClN (N : List Nat) (C : Nat) : Prop := ∀ i, i < N.length → bt C i = true → Inn (N.getD i 0) C
theorem around_in {N : List Nat} {set i : Nat} (hi : i < N.length) (hb : bt set i = true) : Inn (N.getD i 0) (around N set) := arN_in _ _ _ i (Nat.zero_le _) (by omega) hb
theorem around_cl {N : List Nat} {C : Nat} (h : ClN N C) : Inn (around N C) C := arN_le _ _ _ (fun i h => by simp at h) (fun i _ h2 hb => h i (by omega) hb)
theorem cl_around {N : List Nat} {C : Nat} (h : Inn (around N C) C) : ClN N C := fun i hi hb => (around_in hi hb).trans h
theorem ball_cl {N : List Nat} {C : Nat} (h : ClN N C) : ∀ {r set : Nat}, Inn set C → Inn (ballN N r set) C
  | 0, _, g => g
  | r + 1, set, g => by
    rw [ballN]
    refine ball_cl h (Inn.or g ?_)
    exact arN_le _ _ _ (fun i h => by simp at h) (fun i _ h2 hb => h i (by omega) (by rw [bt_eq] at hb ⊢; exact g i hb))
theorem swS_ge {N : List Nat} : ∀ (s i r : Nat), Inn r (swS N s i r)
  | 0, _, _ => Inn.refl _
  | s + 1, i, r => by
    rw [swS]
    refine Inn.trans ?_ (swS_ge s (i + 1) _)
    split
    · exact Inn.orl _ _
    · exact Inn.refl _
theorem swS_in {N : List Nat} : ∀ (s v r i : Nat), v ≤ i → i < v + s → bt r i = true → Inn (N.getD i 0) (swS N s v r)
  | 0, v, _, i, h, h', _ => by omega
  | s + 1, v, r, i, h, h', hb => by
    rw [swS]
    by_cases e : i = v
    · subst e
      rw [if_pos hb]
      exact Inn.trans (Inn.orr _ _) (swS_ge _ _ _)
    · refine swS_in s (v + 1) _ i (by omega) (by omega) ?_
      split
      · rw [bt_eq] at hb ⊢
        exact Inn.orl _ _ i hb
      · exact hb
theorem swS_cl {N : List Nat} {C : Nat} (hC : ClN N C) : ∀ (s i r : Nat), i + s ≤ N.length → Inn r C → Inn (swS N s i r) C
  | 0, _, _, _, h => h
  | s + 1, i, r, hl, h => by
    rw [swS]
    refine swS_cl hC s (i + 1) _ (by omega) ?_
    split
    · rename_i hb
      exact Inn.or h (hC i (by omega) (by rw [bt_eq] at hb ⊢; exact h i hb))
    · exact h
theorem reN_cl {N : List Nat} {C : Nat} (hC : ClN N C) : ∀ (k r : Nat), Inn r C → Inn (reN N k r) C
  | 0, _, h => h
  | k + 1, r, h => by
    rw [reN]
    exact reN_cl hC k _ (swS_cl hC _ _ _ (by omega) h)
theorem ball_re {N : List Nat} : ∀ (k a r : Nat), Inn a r → Inn (ballN N k a) (reN N k r)
  | 0, _, _, h => h
  | k + 1, a, r, h => by
    rw [ballN, reN]
    refine ball_re k _ _ (Inn.or (h.trans (swS_ge _ _ _)) ?_)
    exact arN_le _ _ _ (fun i h => by simp at h) (fun i _ h2 hb => swS_in _ _ _ i (Nat.zero_le _) (by omega) (by rw [bt_eq] at hb ⊢; exact h i hb))
theorem cnt_lt {a b : Nat} (h : Inn a b) {i : Nat} (hi : i < 10) (h1 : b.testBit i = true) (h2 : a.testBit i = false) : cnt a < cnt b := by
  unfold cnt memb
  have hs : ((List.range 10).filter fun i => a.testBit i).Sublist (((List.range 10).filter fun i => b.testBit i).filter fun i => a.testBit i) := by
    rw [List.filter_filter]
    rw [show (fun i => a.testBit i && b.testBit i) = fun i => a.testBit i by
      funext i
      cases q : a.testBit i with
      | false => rfl
      | true => rw [h i q]; rfl]
    exact List.Sublist.refl _
  refine Nat.lt_of_le_of_lt hs.length_le ?_
  refine List.length_filter_lt_length_iff_exists.2 ⟨i, ?_, by simp [h2]⟩
  simp [hi, h1]
theorem cnt_full {n a : Nat} (hn : n ≤ 10) (h : a < 2 ^ n) : cnt a = n ↔ a = 2 ^ n - 1 := by
  have hp : ∀ n, n < 11 → ∀ a, a < 1024 → a < 2 ^ n → (decide (cnt a = n) = decide (a = 2 ^ n - 1)) := by decide +kernel
  have := hp n (by omega) a (Nat.lt_of_lt_of_le h (pow11 hn)) h
  rw [← decide_eq_true_iff (p := cnt a = n), this, decide_eq_true_iff]
theorem bit10 {a i : Nat} (h : a < 1024) (hi : a.testBit i = true) : i < 10 := by
  rcases Nat.lt_or_ge i 10 with q | q
  · exact q
  · have : a < 2 ^ i := Nat.lt_of_lt_of_le h (Nat.pow_le_pow_right (n := 2) (by omega) q)
    rw [Nat.testBit_lt_two_pow this] at hi
    cases hi
/-- Each ball that is not closed has more members than steps. -/
theorem ball_grow {N : List Nat} (hN : ∀ m ∈ N, m < 1024) : ∀ k, ClN N (ballN N k 1) ∨ k + 1 ≤ cnt (ballN N k 1)
  | 0 => .inr (show 1 ≤ cnt 1 from by decide)
  | k + 1 => by
    have hB : ballN N k 1 < 1024 := ballN_lt hN k 1 (by omega)
    rw [ballN_step]
    by_cases hc : Inn (around N (ballN N k 1)) (ballN N k 1)
    · have e : ballN N k 1 ||| around N (ballN N k 1) = ballN N k 1 := Inn.eq (Inn.or (Inn.refl _) hc) (Inn.orl _ _)
      rw [e]
      exact .inl (cl_around hc)
    · rcases ball_grow hN k with h | h
      · exact absurd (around_cl h) hc
      · obtain ⟨i, hi⟩ := Classical.not_forall.1 hc
        obtain ⟨h1, h2⟩ := Classical.not_imp.1 hi
        have := cnt_lt (Inn.orl (ballN N k 1) (around N (ballN N k 1))) (i := i) (bit10 (around_lt hN _) h1) (by rw [Nat.testBit_or, h1]; simp) (by simpa using h2)
        exact .inr (by omega)
end Go.Proofs.Ytpbighinamljbaa.PA
/- read finds a graph connected just when the reference does. No condition. -/
set_option linter.unusedSimpArgs false
set_option linter.unusedVariables false
namespace Go.Proofs.Ytpbighinamljbaa.PA
open Go Go.Eng Go.Proofs
theorem inn_full {a n : Nat} (h : a < 2 ^ n) : Inn a (2 ^ n - 1) := fun i hi => by
  rw [Nat.testBit_two_pow_sub_one]
  rcases Nat.lt_or_ge i n with q | q
  · exact decide_eq_true q
  · rw [Nat.testBit_lt_two_pow (Nat.lt_of_lt_of_le h (Nat.pow_le_pow_right (n := 2) (by omega) q))] at hi
    cases hi
theorem full_lt {a n : Nat} (h : Inn a (2 ^ n - 1)) : a < 2 ^ n := by
  apply Nat.lt_pow_two_of_testBit
  intro i hi
  cases q : a.testBit i with
  | false => rfl
  | true =>
    have := h i q
    rw [Nat.testBit_two_pow_sub_one, decide_eq_true_iff] at this
    omega
theorem ball_ge {N : List Nat} : ∀ (k a : Nat), Inn a (ballN N k a)
  | 0, _ => Inn.refl _
  | k + 1, a => (Inn.orl _ _).trans (ball_ge k _)
theorem conS_eq {N : List Nat} (hN : ∀ m ∈ N, m < 2 ^ N.length) (h1 : 1 ≤ N.length) (h2 : N.length ≤ 10) : conS N = connN N := by
  have hp := pow11 h2
  have hN' : ∀ m ∈ N, m < 1024 := fun m hm => Nat.lt_of_lt_of_le (hN m hm) hp
  have hg : ∀ i, N.getD i 0 < 2 ^ N.length := fun i => by
    rw [List.getD_eq_getElem?_getD]
    cases q : N[i]? with
    | none => simp only [Option.getD_none]; exact Nat.lt_of_lt_of_le Nat.zero_lt_one Nat.one_le_two_pow
    | some m => exact hN m (List.mem_of_getElem? q)
  have hfull : ClN N (2 ^ N.length - 1) := fun i _ _ => inn_full (hg i)
  have h1f : Inn 1 (2 ^ N.length - 1) := inn_full (by
    have : 2 ^ 1 ≤ 2 ^ N.length := Nat.pow_le_pow_right (by omega) h1
    omega)
  have hk : ClN N (ballN N (N.length - 1) 1) := by
    rcases ball_grow hN' (N.length - 1) with h | h
    · exact h
    · have hin : Inn (ballN N (N.length - 1) 1) (2 ^ N.length - 1) := ball_cl hfull h1f
      have hc : cnt (2 ^ N.length - 1) = N.length := (cnt_full h2 (by have := Nat.one_le_two_pow (n := N.length); omega)).2 rfl
      have he : ballN N (N.length - 1) 1 = 2 ^ N.length - 1 := by
        refine Inn.eq hin (fun i hi => ?_)
        cases q : (ballN N (N.length - 1) 1).testBit i with
        | true => rfl
        | false =>
          have := cnt_lt hin (i := i) (bit10 (by omega) hi) hi q
          omega
      rw [he]
      exact hfull
  have hB : ClN N (ballN N N.length 1) := by
    have e : ballN N N.length 1 = ballN N (N.length - 1) 1 := by
      conv => lhs; rw [show N.length = N.length - 1 + 1 by omega]
      rw [ballN_step]
      exact Inn.eq (Inn.or (Inn.refl _) (around_cl hk)) (Inn.orl _ _)
    rw [e]
    exact hk
  have hR : reN N N.length 1 = ballN N N.length 1 := Inn.eq (reN_cl hB _ _ (ball_ge _ _)) (ball_re _ _ _ (Inn.refl _))
  have hlt : reN N N.length 1 < 2 ^ N.length := full_lt (reN_cl hfull _ _ h1f)
  rw [conS, connN, Bool.eq_iff_iff, decide_eq_true_iff, decide_eq_true_iff, cnt_full h2 hlt, hR]
theorem orAt_lt2 {N : List Nat} {n i v : Nat} (h : ∀ m ∈ N, m < 2 ^ n) (hv : v < 2 ^ n) : ∀ m ∈ orAt N i v, m < 2 ^ n := fun m hm => by
  have hg : N.getD i 0 < 2 ^ n := by
    rw [List.getD_eq_getElem?_getD]
    cases q : N[i]? with
    | none => simp only [Option.getD_none]; exact Nat.lt_of_lt_of_le Nat.zero_lt_one Nat.one_le_two_pow
    | some m => exact h m (List.mem_of_getElem? q)
  rcases List.mem_or_eq_of_mem_set hm with hm | rfl
  · exact h m hm
  · exact Nat.or_lt_two_pow hg hv
theorem near_fold_lt2 {n : Nat} : ∀ (q : Prs) (N : List Nat), Egs n q → (∀ m ∈ N, m < 2 ^ n) → ∀ m ∈ q.foldl nearSt N, m < 2 ^ n
  | [], N, _, h => h
  | c :: q, N, hq, h => by
    obtain ⟨h1, h2, _⟩ := hq c (List.mem_cons_self ..)
    exact near_fold_lt2 q _ (fun d hd => hq d (List.mem_cons_of_mem _ hd)) (orAt_lt2 (orAt_lt2 h (Nat.pow_lt_pow_right (by omega) h2)) (Nat.pow_lt_pow_right (by omega) h1))
theorem nearN_lt2 {n : Nat} {q : Prs} (hq : Egs n q) : ∀ m ∈ nearN n q, m < 2 ^ n := near_fold_lt2 q _ hq (fun m hm => by
  have := List.eq_of_mem_replicate hm
  subst this
  exact Nat.lt_of_lt_of_le Nat.zero_lt_one Nat.one_le_two_pow)
theorem conS_near {n : Nat} {q : Prs} (h1 : 1 ≤ n) (h2 : n ≤ 10) (hq : Egs n q) : conS (nearN n q) = connN (nearN n q) := by
  have hl := nearN_len n q
  exact conS_eq (by rw [hl]; exact nearN_lt2 hq) (by omega) (by omega)
end Go.Proofs.Ytpbighinamljbaa.PA
/- The functions on graphs over the machine cfG. No condition. -/
set_option linter.unusedSimpArgs false
set_option linter.unusedVariables false
namespace Go.Proofs.Ytpbighinamljbaa.PA
open Go Go.Eng Go.Proofs
theorem cfG_run {k f : Nat} {fn : XFunc} {args : List AV} {H : AHeap} {P : AV → AHeap → Prop} (hK : KG f args H = none) (hF : F f = some fn) (h : ∃ u H', xfunc (cfG k) 2000 fn args H = some (u, H') ∧ P u H') : ∃ u H', cfG (k + 1) f args H = some (u, H') ∧ P u H' := by
  obtain ⟨u, H', h1, h2⟩ := h
  exact ⟨u, H', (cfG_step hK hF).trans h1, h2⟩
section
variable {k P Q : Nat} {H : AHeap} {n : Int}
end
end Go.Proofs.Ytpbighinamljbaa.PA
/- news.KnownLaw, over the abstract machine: the comparison. No condition. -/
set_option linter.unusedSimpArgs false
set_option linter.unusedVariables false
namespace Go.Proofs.Ytpbighinamljbaa.PA
open Go Go.Eng Go.Proofs
/-! ### the plain law -/
end Go.Proofs.Ytpbighinamljbaa.PA
/- news.KnownLaw, over the abstract machine: one call more. No condition. -/
set_option linter.unusedSimpArgs false
set_option linter.unusedVariables false
namespace Go.Eng
theorem Clean.upd {H H1 : AHeap} {n : Nat} (h : Clean H) (ho : ∀ j, j ≠ n → H1.get j = H.get j) (hn : H1.next = H.next) (hl : n < H.next) : Clean H1 := fun j hj => by rw [ho j (by omega)]; exact h j (by omega)
theorem less_get {H : AHeap} {base R : Nat} : ∀ (l : List Nat) (H : AHeap), (∀ i ∈ l, R ≠ base + i) → (H.less base l).get R = H.get R
  | [], H, _ => rfl
  | i :: l, H, h => by
    unfold AHeap.less
    rw [less_get (H := H) l _ (fun j hj => h j (List.mem_cons_of_mem _ hj)), AHeap.get_set, if_neg (h i List.mem_cons_self)]
theorem fresh_of {ops : List XOper} {tr : List St} {base : Nat} {nn : List Nat} (h : ∀ k ∈ nn, ∃ o sk, ops[k]? = some o ∧ tr[k]? = some sk ∧ o.guard = none ∧ ∀ i, i ≤ k → ∃ si, tr[i]? = some si ∧ si.H.get (base + k) = none) : freshOk ops tr base nn = true := by
  unfold freshOk
  rw [List.all_eq_true]
  intro k hk
  obtain ⟨o, sk, h1, h2, h3, h4⟩ := h k hk
  rw [h1, h2]
  simp only
  rw [List.all_eq_true]
  intro i _
  rw [Bool.or_eq_true]
  by_cases hi : k < i
  · left
    have hw : wantedA sk.tm o = some true := by unfold wantedA; rw [h3]
    rw [hw]
    simpa using hi
  · right
    obtain ⟨si, q1, q2⟩ := h4 i (by omega)
    rw [q1]
    simp only
    rw [q2]
    rfl
end Go.Eng
namespace Go.Proofs.Ytpbighinamljbaa.PA
open Go Go.Eng Go.Proofs
end Go.Proofs.Ytpbighinamljbaa.PA
/- Drawn regions that make objects, from what is known; rules for rows that grow, and for clipped rows. No condition. -/
set_option linter.unusedSimpArgs false
set_option linter.unusedVariables false
namespace Go.Eng
/-- The states of a run, each with what is known. -/
inductive TrP : List St → List (KL0 × AHeap) → Prop
  | nil : TrP [] []
  | cons {tm : Tr AV} {H : AHeap} {l : KL0} {tr : List St} {ps : List (KL0 × AHeap)} (h : Kw tm l) (t : TrP tr ps) : TrP (⟨tm, H⟩ :: tr) ((l, H) :: ps)
theorem TrP.at {tr : List St} {ps : List (KL0 × AHeap)} (h : TrP tr ps) {i : Nat} {p : KL0 × AHeap} (hp : ps[i]? = some p) : ∃ tm, tr[i]? = some ⟨tm, p.2⟩ ∧ Kw tm p.1 := by
  induction h generalizing i with
  | nil => cases hp
  | cons h t ih =>
    cases i with
    | zero => cases hp; exact ⟨_, rfl, h⟩
    | succ i => exact ih hp
theorem TrP.last {tr : List St} {ps : List (KL0 × AHeap)} (h : TrP tr ps) {p : KL0 × AHeap} (hp : ps.getLast? = some p) : ∃ tm, tr.getLast? = some ⟨tm, p.2⟩ ∧ Kw tm p.1 := by
  induction h with
  | nil => cases hp
  | cons h t ih =>
    cases t with
    | nil => cases hp; exact ⟨_, rfl, h⟩
    | cons h' t' =>
      rw [List.getLast?_cons_cons] at hp ⊢
      exact ih hp
theorem TrP.len {tr : List St} {ps : List (KL0 × AHeap)} (h : TrP tr ps) : tr.length = ps.length := by
  induction h with
  | nil => rfl
  | cons h t ih => simp [ih]
def WKT (cf : CF) (ops : List XOper) (n : Nat) (l : KL0) (H : AHeap) (Q : List (KL0 × AHeap) → Prop) : Prop :=
  ∀ tm, Kw tm l → ∃ tr ps, xtrace cf ops n ⟨tm, H⟩ = some tr ∧ TrP tr ps ∧ Q ps
section
variable {cf : CF} {fuel n : Nat} {l : KL0} {H : AHeap} {Q : List (KL0 × AHeap) → Prop}
theorem WKT.nil (h : Q [(l, H)]) : WKT cf [] n l H Q := fun tm ht => ⟨_, _, rfl, .cons ht .nil, h⟩
theorem WKT.op {d : Nat} {op : XOp} {r : List XOper} {v : AV} {H1 : AHeap} (h : XV cf l H n op = some (v, H1)) (ha : allSm l op.opnds = true) (k : WKT cf r (n + 1) ((d, v) :: l) H1 fun ps => Q ((l, H) :: ps)) : WKT cf (⟨some d, op, none⟩ :: r) n l H Q := fun tm ht => by
  obtain ⟨tr, ps, h1, h2, h3⟩ := k _ (ht.set d v)
  unfold XV at h
  exact ⟨_, _, by simp only [xtrace, xstep, wantedA, (xval_kw ht ha).trans h, putT, h1, Option.map_some], .cons ht h2, h3⟩
theorem WKT.opn {op : XOp} {r : List XOper} {v : AV} {H1 : AHeap} (h : XV cf l H n op = some (v, H1)) (ha : allSm l op.opnds = true) (k : WKT cf r (n + 1) l H1 fun ps => Q ((l, H) :: ps)) : WKT cf (⟨none, op, none⟩ :: r) n l H Q := fun tm ht => by
  obtain ⟨tr, ps, h1, h2, h3⟩ := k _ ht
  unfold XV at h
  exact ⟨_, _, by simp only [xtrace, xstep, wantedA, (xval_kw ht ha).trans h, putT, h1, Option.map_some], .cons ht h2, h3⟩
theorem WKT.callV {d g : Nat} {x : XO} {xs : List XO} {cs av : List AV} {P : AV → AHeap → Prop} {r : List XOper} (hx : evK l x = some (.fn g cs)) (hl : evL (evK l) xs = some av) (ha : allSm l (x :: xs) = true) (h : ∃ v H', cf g (av ++ cs) H = some (v, H') ∧ P v H')
    (k : ∀ v H', P v H' → WKT cf r (n + 1) ((d, v) :: l) H' fun ps => Q ((l, H) :: ps)) : WKT cf (⟨some d, .call x xs, none⟩ :: r) n l H Q := by
  obtain ⟨v, H', h1, h2⟩ := h
  exact WKT.op (H1 := H') (k_any (op_call hx hl h1)) ha (k v H' h2)
/-- A read that may stand elsewhere. -/
def LooseP (ops : List XOper) (ps : List (KL0 × AHeap)) (base : Nat) (nn : List Nat) (q : Nat × List Nat × List Nat) : Prop :=
  ∃ d op l H v, ops[q.1]? = some ⟨d, op, none⟩ ∧ ps[q.1]? = some (l, H) ∧ allSm l op.opnds = true ∧ xop (evK l) H 0 op = .v v ∧
    ∀ j ∈ q.1 :: (q.2.1 ++ q.2.1.map (· + 1)), ∃ p, ps[j]? = some p ∧ xop (evK l) ((p.2.less base q.2.2).less base (nn.filter fun k => Nat.ble j k)) 0 op = .v v
def FreshP (ops : List XOper) (ps : List (KL0 × AHeap)) (base : Nat) (k : Nat) : Prop :=
  ∃ o, ops[k]? = some o ∧ o.guard = none ∧ ∀ i, i ≤ k → ∃ p, ps[i]? = some p ∧ p.2.get (base + k) = none
theorem WK.regT {ops : List XOper} {lo : List (Nat × List Nat × List Nat)} {nn : List Nat} {k : Nat} {R : XE → KL0 → AHeap → Prop} (hk : ops.length = k)
    (h : WKT cf ops H.next l (H.bump k) fun ps => (∀ q ∈ lo, LooseP ops ps H.next nn q) ∧ (∀ j ∈ nn, FreshP ops ps H.next j) ∧ ∃ p, ps.getLast? = some p ∧ R .normal p.1 p.2) : WK cf fuel (.regd ops lo nn) l H R := by
  unfold WK
  intro tm ht
  obtain ⟨tr, ps, h1, h2, h3, h4, p, h5, h6⟩ := h tm ht
  obtain ⟨tm', g1, g2⟩ := h2.last h5
  refine W.regd k hk ⟨tr, h1, ?_, ?_, _, g1, p.1, g2, h6⟩
  · rw [List.all_eq_true]
    intro q hq
    obtain ⟨d, op, l1, H1, v, q1, q2, q3, q4, q5⟩ := h3 q hq
    obtain ⟨t1, r1, r2⟩ := h2.at q2
    have hev : ∀ (H' : AHeap), xop (St.ev t1) H' 0 op = xop (evK l1) H' 0 op := fun H' => xop_congr fun x hx => by
      have := List.all_eq_true.1 q3 x hx
      cases e : evK l1 x with
      | none => rw [e] at this; cases this
      | some u => exact r2.ev e
    unfold looseOk
    rw [q1, r1]
    simp only [wantedA]
    rw [hev, q4]
    simp only
    rw [List.all_eq_true]
    intro j hj
    obtain ⟨pj, s1, s2⟩ := q5 j hj
    obtain ⟨tj, s3, _⟩ := h2.at s1
    rw [s3]
    simp only
    rw [hev, s2]
    exact AV.beq_refl v
  · refine fresh_of fun j hj => ?_
    obtain ⟨o, q1, q2, q3⟩ := h4 j hj
    obtain ⟨pj, s1, _⟩ := q3 j (Nat.le_refl _)
    obtain ⟨tj, s3, _⟩ := h2.at s1
    refine ⟨o, _, q1, s3, q2, fun i hi => ?_⟩
    obtain ⟨pi, u1, u2⟩ := q3 i hi
    obtain ⟨ti, u3, _⟩ := h2.at u1
    exact ⟨_, u3, u2⟩
/-- One element behind a row: what is appended is made first. -/
theorem WKO.append1E {d1 d2 z bytes m : Nat} {x : XO} {zs : List AV} {ps : List (Nat × Nat × XO)} {r : List XOper} {R : KL0 → AHeap → Prop} {v : AV} {cs new : List AV}
    (hR : RowE z H v m cs) (hx : evK ((d1, .sl n 0 1 1) :: l) x = some v) (hps : (evParts (evK l) ps).bind (fillA (List.replicate 1 zs).flatten) = some new) (ha : allSm l (XOp.bslice zs ps 1).opnds = true) (hz : 0 < z) (hl : m + 1 ≤ 2 ^ 30) (hb : bytes ≤ 2 ^ 16) (hnl : new.length = z) (ho : new.all AV.oneCell = true)
    (hn : n < H.next) (hf : v.own ≠ some n)
    (k : ∀ v' H1, Row z H1 v' (m + 1) (cs ++ new) → H.next ≤ H1.next → (∀ j, j < H.next → j ≠ n → v.own ≠ some j → H1.get j = H.get j) → (∀ i, v'.own = some i → v.own = some i ∨ H.next ≤ i) →
      WKO cf r (n + 1 + 1) ((d2, v') :: (d1, .sl n 0 1 1) :: l) H1 R) :
    WKO cf (⟨some d1, .bslice zs ps 1, none⟩ :: ⟨some d2, .app z bytes x (.t d1), none⟩ :: r) n l H R := by
  have hR1 : RowE z (H.set n (some (.cells new none))) v m cs := hR.frame (Nat.le_refl _) (fun i hi => by rw [AHeap.get_set, if_neg (by intro e; rw [e] at hi; exact hf hi)])
  have hsrc : srcA (H.set n (some (.cells new none))) z 1 (.sl n 0 1 1) = some new := by
    simp only [srcA, AHeap.get_set, if_true, hnl, Nat.one_mul, Nat.zero_add, Nat.le_refl, List.drop_zero]
    rw [List.take_of_length_le (by omega)]
  obtain ⟨v', H1, h1, h2, h3, h4, h5⟩ := hR1.app (bytes := bytes) hz hl (by omega) hb (y := .sl n 0 1 1) rfl hsrc (by omega) ho
  have e1 : evK ((d1, AV.sl n 0 1 1) :: l) (.t d1) = some (.sl n 0 1 1) := by simp only [evK, look]; simp
  refine WKO.op (v := .sl n 0 1 1) (H1 := H.set n (some (.cells new none))) (k_any ?_) ha (WKO.op (v := v') (H1 := H1) (k_any ?_) ?_ (k v' H1 h2 h3 (fun j hj hjn hjo => ?_) h5))
  · simp only [xval, xop, hps]
  · simp only [xval, xop, hx, e1, h1]
  · simp [allSm, XOp.opnds, hx, e1]
  · rw [h4 j hj hjo, AHeap.get_set, if_neg hjn]
end
/-- A row without room. -/
def Clp (z : Nat) (H : AHeap) (X : AV) (m : Nat) (cs : List AV) : Prop :=
  m < 1048576 ∧ ((X = .nils ∧ m = 0 ∧ cs = []) ∨ ∃ i full opn, X = .sl i 0 m m ∧ H.get i = some (.cells full opn) ∧ full.take (m * z) = cs ∧ m * z ≤ full.length)
theorem Clp.frame {z m : Nat} {H H' : AHeap} {X : AV} {cs : List AV} (h : Clp z H X m cs) (hg : ∀ i, X.own = some i → H'.get i = H.get i) : Clp z H' X m cs := by
  obtain ⟨h0, h⟩ := h
  refine ⟨h0, ?_⟩
  rcases h with h | ⟨i, full, opn, rfl, h1, h2, h3⟩
  · exact .inl h
  · exact .inr ⟨i, full, opn, rfl, (hg i rfl).trans h1, h2, h3⟩
/-- One element behind a row without room: a new object. -/
theorem Clp.app {z bytes m j : Nat} {H : AHeap} {X : AV} {cs new : List AV} (h : Clp z H X m cs) (hb : bytes ≤ 2 ^ 16) (hj : H.get j = some (.cells new none)) (hnl : new.length = z) (ho : new.all AV.oneCell = true) : appA H z bytes X (.sl j 0 1 1) = .eff (.sl H.next 0 (m + 1) openCap) (H.add (.cells (cs ++ new) (some z))) := by
  have hsrc : srcA H z 1 (.sl j 0 1 1) = some new := by
    simp only [srcA, hj, hnl, Nat.one_mul, Nat.zero_add, Nat.le_refl, List.drop_zero, if_true]
    rw [List.take_of_length_le (by omega)]
  obtain ⟨h0, ⟨rfl, rfl, rfl⟩ | ⟨i, full, opn, rfl, h1, h2, h3⟩⟩ := h
  · simp only [appA, lenA, hsrc, ho]
    rw [if_neg (by simp; omega), if_neg (by omega), if_neg (by omega)]
    rfl
  · simp only [appA, lenA, hsrc, ho, h1]
    rw [if_neg (by simp; omega), if_neg (by omega), if_neg (by omega), if_neg (by omega), if_pos (by unfold openAt; omega), if_neg (by omega), List.drop_zero, h2]
end Go.Eng
/- Broadcasts: rounds, and the sets of vertices that can know the news. No condition. -/
set_option linter.unusedSimpArgs false
set_option linter.unusedVariables false
namespace Go.Proofs.Ytpbighinamljbaa.PA
open Go Go.Eng Go.Proofs
/-- One round: each new one is called by a vertex of its own that knows. -/
def St1 (N : List Nat) (A B : Nat) : Prop :=
  Inn A B ∧ ∃ f : Nat → Nat, (∀ w, B.testBit w = true → A.testBit w = false → A.testBit (f w) = true ∧ (N.getD (f w) 0).testBit w = true) ∧
    ∀ w w', B.testBit w = true → A.testBit w = false → B.testBit w' = true → A.testBit w' = false → f w = f w' → w = w'
theorem St1.refl (N : List Nat) (A : Nat) : St1 N A A := ⟨Inn.refl _, fun _ => 0, fun w h1 h2 => (by rw [h1] at h2; cases h2), fun w w' h1 h2 _ _ _ => (by rw [h1] at h2; cases h2)⟩
theorem St1.part {N : List Nat} {A B A' B' : Nat} (h : St1 N A B) (hA : Inn A A') (hA' : Inn A' B') (hB : ∀ w, B'.testBit w = true → A'.testBit w = false → B.testBit w = true) : St1 N A' B' := by
  obtain ⟨h0, f, h1, h2⟩ := h
  have key : ∀ w, B'.testBit w = true → A'.testBit w = false → B.testBit w = true ∧ A.testBit w = false := fun w q1 q2 => by
    refine ⟨hB w q1 q2, ?_⟩
    cases e : A.testBit w with
    | false => rfl
    | true => rw [hA w e] at q2; cases q2
  refine ⟨hA', f, fun w q1 q2 => ?_, fun w w' q1 q2 q3 q4 => ?_⟩
  · obtain ⟨r1, r2⟩ := key w q1 q2
    obtain ⟨r3, r4⟩ := h1 w r1 r2
    exact ⟨hA _ r3, r4⟩
  · obtain ⟨r1, r2⟩ := key w q1 q2
    obtain ⟨r3, r4⟩ := key w' q3 q4
    exact h2 w w' r1 r2 r3 r4
theorem St1.mono {N : List Nat} {A B A' : Nat} (h : St1 N A B) (hA : Inn A A') : St1 N A' (A' ||| B) :=
  h.part hA (Inn.orl _ _) fun w q1 q2 => by rwa [Nat.testBit_or, q2, Bool.false_or] at q1
theorem St1.cut {N : List Nat} {A B C : Nat} (h : St1 N A B) (h1 : Inn A C) (h2 : Inn C B) : St1 N A C :=
  h.part (Inn.refl _) h1 fun w q _ => h2 w q
theorem or_of_inn {A B : Nat} (h : Inn A B) : A ||| B = B := Inn.eq (Inn.or h (Inn.refl _)) (Inn.orr _ _)
/-- So many rounds. -/
def Rcs (N : List Nat) : Nat → Nat → Nat → Prop
  | 0, A, B => A = B
  | k + 1, A, B => ∃ C, Rcs N k A C ∧ St1 N C B
theorem Rcs.inn {N : List Nat} : ∀ {k A B : Nat}, Rcs N k A B → Inn A B
  | 0, A, B, h => by cases h; exact Inn.refl _
  | k + 1, A, B, ⟨C, h1, h2⟩ => (Rcs.inn h1).trans h2.1
theorem Rcs.mono {N : List Nat} : ∀ {k A B A' : Nat}, Rcs N k A B → Inn A A' → Rcs N k A' (A' ||| B)
  | 0, A, B, A', h, g => by
    cases h
    show A' = A' ||| A
    rw [Nat.or_comm, or_of_inn g]
  | k + 1, A, B, A', ⟨C, h1, h2⟩, g => by
    refine ⟨A' ||| C, h1.mono g, ?_⟩
    have := h2.mono (A' := A' ||| C) (Inn.orr _ _)
    rwa [Nat.or_assoc, or_of_inn h2.1] at this
theorem Rcs.more {N : List Nat} {k A B : Nat} (h : Rcs N k A B) : Rcs N (k + 1) A B := ⟨B, h, St1.refl _ _⟩
theorem Rcs.le {N : List Nat} {k A B : Nat} (h : Rcs N k A B) : ∀ {j : Nat}, k ≤ j → Rcs N j A B := by
  intro j hj
  induction j with
  | zero => obtain rfl : k = 0 := by omega
            exact h
  | succ j ih =>
    by_cases e : k = j + 1
    · subst e; exact h
    · exact (ih (by omega)).more
theorem Rcs.front {N : List Nat} : ∀ {k A C B : Nat}, St1 N A C → Rcs N k C B → Rcs N (k + 1) A B
  | 0, A, C, B, h, g => by cases g; exact ⟨A, rfl, h⟩
  | k + 1, A, C, B, h, ⟨D, g1, g2⟩ => ⟨D, Rcs.front h g1, g2⟩
theorem getD_lt2 {N : List Nat} {n : Nat} (hN : ∀ m ∈ N, m < 2 ^ n) (i : Nat) : N.getD i 0 < 2 ^ n := by
  rw [List.getD_eq_getElem?_getD]
  cases q : N[i]? with
  | none => simp only [Option.getD_none]; exact Nat.lt_of_lt_of_le Nat.zero_lt_one Nat.one_le_two_pow
  | some m => exact hN m (List.mem_of_getElem? q)
theorem bit_lt {a n i : Nat} (h : a < 2 ^ n) (hi : a.testBit i = true) : i < n := by
  rcases Nat.lt_or_ge i n with q | q
  · exact q
  · rw [Nat.testBit_lt_two_pow (Nat.lt_of_lt_of_le h (Nat.pow_le_pow_right (n := 2) (by omega) q))] at hi
    cases hi
theorem bit_len {N : List Nat} {i w : Nat} (h : (N.getD i 0).testBit w = true) : i < N.length := by
  rcases Nat.lt_or_ge i N.length with q | q
  · exact q
  · rw [List.getD_eq_getElem?_getD, List.getElem?_eq_none (by omega)] at h
    simp at h
theorem St1.lt {N : List Nat} {n A B : Nat} (hN : ∀ m ∈ N, m < 2 ^ n) (hA : A < 2 ^ n) (h : St1 N A B) : B < 2 ^ n := by
  obtain ⟨h0, f, h1, h2⟩ := h
  apply Nat.lt_pow_two_of_testBit
  intro i hi
  cases q : B.testBit i with
  | false => rfl
  | true =>
    cases e : A.testBit i with
    | true => have := bit_lt hA e; omega
    | false => have := bit_lt (getD_lt2 hN _) (h1 i q e).2; omega
theorem Rcs.lt {N : List Nat} {n : Nat} (hN : ∀ m ∈ N, m < 2 ^ n) : ∀ {k A B : Nat}, A < 2 ^ n → Rcs N k A B → B < 2 ^ n
  | 0, A, B, hA, h => by cases h; exact hA
  | k + 1, A, B, hA, ⟨C, h1, h2⟩ => h2.lt hN (Rcs.lt hN hA h1)
/-- The number of rounds of a broadcast. -/
def IsT (N : List Nat) (s k : Nat) : Prop := Rcs N k (2 ^ s) (2 ^ N.length - 1) ∧ ∀ j, j < k → ¬ Rcs N j (2 ^ s) (2 ^ N.length - 1)
theorem IsT.uniq {N : List Nat} {s k j : Nat} (h : IsT N s k) (g : IsT N s j) : k = j := by
  rcases Nat.lt_trichotomy k j with q | q | q
  · exact absurd h.1 (g.2 k q)
  · exact q
  · exact absurd g.1 (h.2 j q)
theorem IsT.ex {N : List Nat} {s : Nat} : ∀ {k : Nat}, Rcs N k (2 ^ s) (2 ^ N.length - 1) → ∃ j, j ≤ k ∧ IsT N s j := by
  intro k
  induction k using Nat.strongRecOn with
  | ind k ih =>
    intro h
    by_cases q : ∃ j, j < k ∧ Rcs N j (2 ^ s) (2 ^ N.length - 1)
    · obtain ⟨j, h1, h2⟩ := q
      obtain ⟨i, h3, h4⟩ := ih j h1 h2
      exact ⟨i, by omega, h4⟩
    · exact ⟨k, Nat.le_refl _, h, fun j hj hr => q ⟨j, hj, hr⟩⟩
/-! ### neighbours of each other -/
def Sym (N : List Nat) : Prop := ∀ a b, (N.getD a 0).testBit b = true → (N.getD b 0).testBit a = true
theorem orAt_get (N : List Nat) (i v j : Nat) (hi : i < N.length) : (orAt N i v).getD j 0 = if j = i then N.getD i 0 ||| v else N.getD j 0 := by
  unfold orAt
  rw [List.getD_eq_getElem?_getD, List.getElem?_set]
  by_cases e : i = j
  · subst e
    rw [if_pos rfl, if_pos hi, if_pos rfl]
    rfl
  · rw [if_neg e, if_neg (fun q => e q.symm), List.getD_eq_getElem?_getD]
theorem nearSt_bit {N : List Nat} {c : Nat × Nat} (h1 : c.1 < N.length) (h2 : c.2 < N.length) (h3 : c.1 ≠ c.2) (i j : Nat) :
    ((nearSt N c).getD i 0).testBit j = ((N.getD i 0).testBit j || decide (i = c.1 ∧ j = c.2) || decide (i = c.2 ∧ j = c.1)) := by
  unfold nearSt
  rw [orAt_get _ _ _ _ (by rw [orAt_len]; exact h2), orAt_get _ _ _ _ h1, orAt_get _ _ _ _ h1, if_neg (fun e : c.2 = c.1 => h3 e.symm)]
  by_cases e1 : i = c.2
  · subst e1
    rw [if_pos rfl, Nat.testBit_or, Nat.testBit_two_pow]
    have e2 : c.2 ≠ c.1 := fun e => h3 e.symm
    simp only [e2, false_and, decide_false, Bool.or_false, true_and]
    congr 1
    exact decide_eq_decide.2 ⟨fun e => e.symm, fun e => e.symm⟩
  · rw [if_neg e1]
    by_cases e2 : i = c.1
    · subst e2
      rw [if_pos rfl, Nat.testBit_or, Nat.testBit_two_pow]
      simp only [e1, false_and, decide_false, Bool.or_false, true_and]
      congr 1
      exact decide_eq_decide.2 ⟨fun e => e.symm, fun e => e.symm⟩
    · rw [if_neg e2]; simp [e1, e2]
theorem near_fold_bit {n : Nat} : ∀ (q : Prs) (N : List Nat), Egs n q → N.length = n → ∀ i j, ((q.foldl nearSt N).getD i 0).testBit j = true ↔ (N.getD i 0).testBit j = true ∨ ∃ c ∈ q, (i = c.1 ∧ j = c.2) ∨ (i = c.2 ∧ j = c.1)
  | [], N, _, _, i, j => by simp
  | c :: q, N, hq, hl, i, j => by
    obtain ⟨h1, h2, h3⟩ := hq c (List.mem_cons_self ..)
    rw [List.foldl_cons, near_fold_bit q _ (fun d hd => hq d (List.mem_cons_of_mem _ hd)) (by rw [nearSt_len]; exact hl), nearSt_bit (by omega) (by omega) h3]
    simp only [Bool.or_eq_true, decide_eq_true_eq, List.mem_cons, exists_eq_or_imp, or_assoc]
theorem nearN_bit {n : Nat} {q : Prs} (hq : Egs n q) (i j : Nat) : ((nearN n q).getD i 0).testBit j = true ↔ ∃ c ∈ q, (i = c.1 ∧ j = c.2) ∨ (i = c.2 ∧ j = c.1) := by
  rw [nearN, near_fold_bit q _ hq (by simp)]
  have : ((List.replicate n 0).getD i 0).testBit j = false := by
    have : (List.replicate n 0).getD i 0 = 0 := by
      rw [List.getD_eq_getElem?_getD, List.getElem?_replicate]
      split <;> rfl
    rw [this, Nat.zero_testBit]
  rw [this]
  simp
theorem nearN_sym {n : Nat} {q : Prs} (hq : Egs n q) : Sym (nearN n q) := fun a b h => by
  rw [nearN_bit hq] at h ⊢
  obtain ⟨c, hc, h⟩ := h
  exact ⟨c, hc, h.symm.imp (fun h => ⟨h.2, h.1⟩) (fun h => ⟨h.2, h.1⟩) |>.imp And.symm And.symm |>.imp And.symm And.symm⟩
/-! ### the greedy rounds -/
def gws (N : List Nat) (v now : Nat) : List Nat := (List.range N.length).filter fun w => bt (sdiff (N.getD v 0) now) w
/-- The sets behind a round of the program, each with its calls. -/
def outs (N : List Nat) (A : Nat) : Nat → Nat → Nat → Prs → List (Nat × Prs)
  | 0, _, now, cs => [(now, cs)]
  | s + 1, v, now, cs =>
    if bt A v = true then
      if gws N v now = [] then outs N A s (v + 1) now cs else (gws N v now).flatMap fun w => outs N A s (v + 1) (now ||| 2 ^ w) (cs ++ [(v, w)])
    else outs N A s (v + 1) now cs
theorem gws_mem {N : List Nat} {v now w : Nat} : w ∈ gws N v now ↔ w < N.length ∧ (N.getD v 0).testBit w = true ∧ now.testBit w = false := by
  simp only [gws, List.mem_filter, List.mem_range, bt_eq, sdiff_bit, Bool.and_eq_true, Bool.not_eq_true']
theorem vC_append (N : List Nat) (inf : Nat) : ∀ (l l' : Prs) (b : Nat), vC N inf (l ++ l') b = (vC N inf l b).bind (vC N inf l')
  | [], l', b => rfl
  | (a, c) :: l, l', b => by
    rw [List.cons_append, vC, vC]
    split
    · exact vC_append N inf l l' _
    · rfl
theorem vR_append (N : List Nat) : ∀ (ls ls' : List Prs) (b : Nat), vR N (ls ++ ls') b = (vR N ls b).bind (vR N ls')
  | [], ls', b => rfl
  | l :: ls, ls', b => by
    rw [List.cons_append, vR, vR]
    split
    · rfl
    · exact vR_append N ls ls' _
theorem or2_bit (A v w i : Nat) : (A ||| (2 ^ v ||| 2 ^ w)).testBit i = (A.testBit i || decide (v = i) || decide (w = i)) := by
  simp only [Nat.testBit_or, Nat.testBit_two_pow, Bool.or_assoc]
/-- The greedy round's calls are valid. -/
theorem outs_ok {N : List Nat} {A : Nat} : ∀ (s v now : Nat) (cs : Prs) (busy : Nat), vC N A cs 0 = some busy → A ||| busy = now → (∀ i, v ≤ i → A.testBit i = true → busy.testBit i = false) → cs.length ≤ v → (∀ c ∈ cs, c.1 < N.length ∧ c.2 < N.length) → v + s = N.length →
    ∀ p ∈ outs N A s v now cs, (∃ b, vC N A p.2 0 = some b ∧ A ||| b = p.1) ∧ p.2.length ≤ N.length ∧ (∀ c ∈ p.2, c.1 < N.length ∧ c.2 < N.length)
  | 0, v, now, cs, busy, h1, h2, h3, h4, h5, h6, p, hp => by
    have : p = (now, cs) := by simpa [outs] using hp
    subst this
    exact ⟨⟨busy, h1, h2⟩, by dsimp only; omega, h5⟩
  | s + 1, v, now, cs, busy, h1, h2, h3, h4, h5, h6, p, hp => by
    have skip : ∀ p ∈ outs N A s (v + 1) now cs, _ := fun p hp => outs_ok s (v + 1) now cs busy h1 h2 (fun i q => h3 i (by omega)) (by omega) h5 (by omega) p hp
    rw [outs] at hp
    split at hp
    · rename_i hv
      rw [bt_eq] at hv
      split at hp
      · exact skip p hp
      · obtain ⟨w, hw, hp⟩ := List.mem_flatMap.1 hp
        obtain ⟨w1, w2, w3⟩ := gws_mem.1 hw
        have hwA : A.testBit w = false ∧ busy.testBit w = false := by
          rw [← h2, Nat.testBit_or, Bool.or_eq_false_iff] at w3
          exact w3
        refine outs_ok s (v + 1) (now ||| 2 ^ w) (cs ++ [(v, w)]) (busy ||| (2 ^ v ||| 2 ^ w)) ?_ ?_ ?_ ?_ ?_ (by omega) p hp
        · rw [vC_append, h1, Option.bind_some, vC, if_pos ⟨by rw [bt_eq]; exact hv, by rw [bt_eq]; exact hwA.1, by rw [bt_eq]; exact h3 v (Nat.le_refl _) hv, by rw [bt_eq]; exact hwA.2, by rw [bt_eq]; exact w2⟩]
          rfl
        · rw [← h2]
          apply Nat.eq_of_testBit_eq
          intro i
          simp only [Nat.testBit_or, Nat.testBit_two_pow]
          by_cases e : v = i
          · subst e; simp [hv]
          · simp [e, Bool.or_assoc]
        · intro i q1 q2
          have e1 : v ≠ i := by omega
          have e2 : w ≠ i := fun e => by subst e; rw [hwA.1] at q2; cases q2
          rw [or2_bit, h3 i (by omega) q2]
          simp [e1, e2]
        · rw [List.length_append]; simp; omega
        · intro c hc
          rcases List.mem_append.1 hc with hc | hc
          · exact h5 c hc
          · have : c = (v, w) := by simpa using hc
            subst this
            exact ⟨by dsimp only; omega, w1⟩
    · exact skip p hp
/-- Whatever can be reached in a round lies within a greedy one. -/
theorem outs_cp {N : List Nat} {A B : Nat} (hN : ∀ m ∈ N, m < 2 ^ N.length) {f : Nat → Nat} (f1 : ∀ w, B.testBit w = true → A.testBit w = false → A.testBit (f w) = true ∧ (N.getD (f w) 0).testBit w = true)
    (f2 : ∀ w w', B.testBit w = true → A.testBit w = false → B.testBit w' = true → A.testBit w' = false → f w = f w' → w = w') :
    ∀ (s v now : Nat) (cs : Prs), Inn A now → (∀ w, B.testBit w = true → A.testBit w = false → f w < v → now.testBit w = true) → v + s = N.length → ∃ p ∈ outs N A s v now cs, Inn B p.1
  | 0, v, now, cs, h1, h2, h3 => by
    refine ⟨(now, cs), by simp [outs], fun w hw => ?_⟩
    cases e : A.testBit w with
    | true => exact h1 w e
    | false => exact h2 w hw e (by have := bit_len (f1 w hw e).2; omega)
  | s + 1, v, now, cs, h1, h2, h3 => by
    rw [outs]
    split
    · rename_i hv
      by_cases hx : ∃ w, B.testBit w = true ∧ A.testBit w = false ∧ f w = v ∧ now.testBit w = false
      · obtain ⟨w, x1, x2, x3, x4⟩ := hx
        have hm : w ∈ gws N v now := gws_mem.2 ⟨bit_lt (getD_lt2 hN _) (f1 w x1 x2).2, by rw [← x3]; exact (f1 w x1 x2).2, x4⟩
        rw [if_neg (fun e => by rw [e] at hm; cases hm)]
        obtain ⟨p, hp, hp2⟩ := outs_cp hN f1 f2 s (v + 1) (now ||| 2 ^ w) (cs ++ [(v, w)]) (h1.trans (Inn.orl _ _)) (fun u u1 u2 u3 => by
          rw [Nat.testBit_or]
          by_cases e : f u = v
          · have := f2 u w u1 u2 x1 x2 (e.trans x3.symm)
            subst this
            simp
          · rw [h2 u u1 u2 (by omega)]; rfl) (by omega)
        exact ⟨p, List.mem_flatMap.2 ⟨w, hm, hp⟩, hp2⟩
      · have hall : ∀ w, B.testBit w = true → A.testBit w = false → f w < v + 1 → now.testBit w = true := fun w w1 w2 w3 => by
          by_cases e : f w = v
          · cases q : now.testBit w with
            | true => rfl
            | false => exact absurd ⟨w, w1, w2, e, q⟩ hx
          · exact h2 w w1 w2 (by omega)
        split
        · exact outs_cp hN f1 f2 s (v + 1) now cs h1 hall (by omega)
        · rename_i hne
          obtain ⟨u, hu⟩ := List.exists_mem_of_ne_nil _ hne
          obtain ⟨p, hp, hp2⟩ := outs_cp hN f1 f2 s (v + 1) (now ||| 2 ^ u) (cs ++ [(v, u)]) (h1.trans (Inn.orl _ _)) (fun w w1 w2 w3 => by rw [Nat.testBit_or, hall w w1 w2 w3]; rfl) (by omega)
          exact ⟨p, List.mem_flatMap.2 ⟨u, hu, hp⟩, hp2⟩
    · rename_i hv
      refine outs_cp hN f1 f2 s (v + 1) now cs h1 (fun w w1 w2 w3 => ?_) (by omega)
      by_cases e : f w = v
      · have := (f1 w w1 w2).1
        rw [e, ← bt_eq] at this
        exact absurd this hv
      · exact h2 w w1 w2 (by omega)
/-- A valid round is a round. -/
theorem vC_st {N : List Nat} {A : Nat} : ∀ (cs : Prs) (b b' : Nat) (f : Nat → Nat), vC N A cs b = some b' →
    (∀ w, b.testBit w = true → A.testBit w = false → A.testBit (f w) = true ∧ b.testBit (f w) = true ∧ (N.getD (f w) 0).testBit w = true) →
    (∀ w w', b.testBit w = true → A.testBit w = false → b.testBit w' = true → A.testBit w' = false → f w = f w' → w = w') → St1 N A (A ||| b')
  | [], b, b', f, h, h1, h2 => by
    cases h
    have key : ∀ w, (A ||| b).testBit w = true → A.testBit w = false → b.testBit w = true := fun w q1 q2 => by rwa [Nat.testBit_or, q2, Bool.false_or] at q1
    exact ⟨Inn.orl _ _, f, fun w q1 q2 => ⟨(h1 w (key w q1 q2) q2).1, (h1 w (key w q1 q2) q2).2.2⟩, fun w w' q1 q2 q3 q4 => h2 w w' (key w q1 q2) q2 (key w' q3 q4) q4⟩
  | (a, c) :: cs, b, b', f, h, h1, h2 => by
    rw [vC] at h
    split at h
    · rename_i hh
      simp only [bt_eq] at hh
      obtain ⟨a1, a2, a3, a4, a5⟩ := hh
      have key : ∀ w, (b ||| (2 ^ a ||| 2 ^ c)).testBit w = true → A.testBit w = false → w = c ∨ (w ≠ c ∧ b.testBit w = true) := fun w q1 q2 => by
        rw [or2_bit] at q1
        by_cases e : w = c
        · exact .inl e
        · refine .inr ⟨e, ?_⟩
          have e2 : a ≠ w := fun e2 => by subst e2; rw [a1] at q2; cases q2
          have e3 : c ≠ w := fun q => e q.symm
          simpa [e2, e3] using q1
      refine vC_st cs _ b' (fun w => if w = c then a else f w) h (fun w q1 q2 => ?_) (fun w w' q1 q2 q3 q4 q5 => ?_)
      · rcases key w q1 q2 with rfl | ⟨e, q⟩
        · rw [if_pos rfl, or2_bit]
          exact ⟨a1, by simp, a5⟩
        · rw [if_neg e, or2_bit]
          obtain ⟨r1, r2, r3⟩ := h1 w q q2
          exact ⟨r1, by rw [r2]; rfl, r3⟩
      · rcases key w q1 q2 with rfl | ⟨e, q⟩ <;> rcases key w' q3 q4 with rfl | ⟨e', q'⟩
        · rfl
        · rw [if_pos rfl, if_neg e'] at q5
          have := (h1 w' q' q4).2.1
          rw [← q5, a3] at this
          cases this
        · rw [if_pos rfl, if_neg e] at q5
          have := (h1 w q q2).2.1
          rw [q5, a3] at this
          cases this
        · rw [if_neg e, if_neg e'] at q5
          exact h2 w w' q q2 q' q4 q5
    · cases h
theorem vC_st0 {N : List Nat} {A b : Nat} {cs : Prs} (h : vC N A cs 0 = some b) : St1 N A (A ||| b) :=
  vC_st cs 0 b (fun _ => 0) h (fun w q => by simp at q) (fun w w' q => by simp at q)
theorem vR_rcs {N : List Nat} : ∀ (ls : List Prs) (A B : Nat), vR N ls A = some B → Rcs N ls.length A B
  | [], A, B, h => by cases h; rfl
  | l :: ls, A, B, h => by
    rw [vR] at h
    split at h
    · cases h
    · rename_i b hb
      exact Rcs.front (vC_st0 hb) (vR_rcs ls _ _ h)
end Go.Proofs.Ytpbighinamljbaa.PA
/- The program's search of a shortest broadcast, in plain lists. No condition. -/
set_option linter.unusedSimpArgs false
set_option linter.unusedVariables false
namespace Go.Proofs.Ytpbighinamljbaa.PA
open Go Go.Eng Go.Proofs
/-- Sets, each with a schedule that reaches it. -/
abbrev FW := List (Nat × List Prs)
def hasF (F : FW) (a : Nat) : Bool := F.any fun q => q.1 == a
theorem hasF_iff {F : FW} {a : Nat} : hasF F a = true ↔ a ∈ F.map (·.1) := by
  simp only [hasF, List.any_eq_true, List.mem_map, beq_iff_eq]
def addF (base : List Prs) (F : FW) (p : Nat × Prs) : FW := if hasF F p.1 then F else F ++ [(p.1, base ++ [p.2])]
def lookW (W : FW) (a : Nat) : List Prs := ((W.find? fun q => q.1 == a).map (·.2)).getD []
def nextF (N : List Nat) (W : FW) (ks : List Nat) : FW := ks.foldl (fun F a => (outs N a N.length 0 a []).foldl (addF (lookW W a)) F) []
/-- Whether a set lies within another one. -/
def inO (F : FW) (a : Nat) : Bool := F.any fun q => (a != q.1) && (sdiff a q.1 == 0)
def maxF (F : FW) : FW := F.filter fun p => !inO F p.1
theorem sdiff_zero {a b : Nat} : sdiff a b = 0 ↔ Inn a b := by
  constructor
  · intro h i hi
    have : (sdiff a b).testBit i = false := by rw [h, Nat.zero_testBit]
    rw [sdiff_bit, hi] at this
    simpa using this
  · intro h
    apply Nat.eq_of_testBit_eq
    intro i
    rw [sdiff_bit, Nat.zero_testBit]
    cases q : a.testBit i with
    | false => rfl
    | true => rw [h i q]; rfl
theorem inO_iff {F : FW} {a : Nat} : inO F a = true ↔ ∃ q ∈ F, a ≠ q.1 ∧ Inn a q.1 := by
  simp only [inO, List.any_eq_true, Bool.and_eq_true, bne_iff_ne, beq_iff_eq, sdiff_zero]
theorem addF_keys {base : List Prs} {F : FW} {p : Nat × Prs} {a : Nat} : a ∈ (addF base F p).map (·.1) ↔ a ∈ F.map (·.1) ∨ a = p.1 := by
  unfold addF
  split
  · rename_i h
    rw [hasF_iff] at h
    constructor
    · exact .inl
    · rintro (h' | rfl)
      · exact h'
      · exact h
  · simp only [List.map_append, List.mem_append, List.map_cons, List.map_nil, List.mem_singleton]
theorem addF_nd {base : List Prs} {F : FW} {p : Nat × Prs} (h : (F.map (·.1)).Nodup) : ((addF base F p).map (·.1)).Nodup := by
  unfold addF
  split
  · exact h
  · rename_i q
    rw [List.map_append, List.nodup_append]
    refine ⟨h, by simp, fun a ha b hb e => q (hasF_iff.2 ?_)⟩
    subst e
    have : a = p.1 := by simpa using hb
    subst this
    exact ha
theorem addF_mem {base : List Prs} {F : FW} {p : Nat × Prs} {q : Nat × List Prs} (h : q ∈ addF base F p) : q ∈ F ∨ q = (p.1, base ++ [p.2]) := by
  unfold addF at h
  split at h
  · exact .inl h
  · rcases List.mem_append.1 h with h | h
    · exact .inl h
    · exact .inr (by simpa using h)
theorem foldA_keys {base : List Prs} : ∀ (l : List (Nat × Prs)) (F : FW) (a : Nat), a ∈ (l.foldl (addF base) F).map (·.1) ↔ a ∈ F.map (·.1) ∨ ∃ p ∈ l, a = p.1
  | [], F, a => by simp
  | p :: l, F, a => by
    rw [List.foldl_cons, foldA_keys l, addF_keys]
    simp only [List.mem_cons, exists_eq_or_imp, or_assoc]
theorem foldA_nd {base : List Prs} : ∀ (l : List (Nat × Prs)) (F : FW), (F.map (·.1)).Nodup → ((l.foldl (addF base) F).map (·.1)).Nodup
  | [], F, h => h
  | p :: l, F, h => foldA_nd l _ (addF_nd h)
theorem foldA_mem {base : List Prs} : ∀ (l : List (Nat × Prs)) (F : FW) (q : Nat × List Prs), q ∈ l.foldl (addF base) F → q ∈ F ∨ ∃ p ∈ l, q = (p.1, base ++ [p.2])
  | [], F, q, h => .inl h
  | p :: l, F, q, h => by
    rcases foldA_mem l _ q h with h | ⟨p', h1, h2⟩
    · rcases addF_mem h with h | h
      · exact .inl h
      · exact .inr ⟨p, by simp, h⟩
    · exact .inr ⟨p', by simp [h1], h2⟩
theorem nextG_keys {N : List Nat} {W : FW} : ∀ (ks : List Nat) (F : FW) (a : Nat), a ∈ (ks.foldl (fun F a => (outs N a N.length 0 a []).foldl (addF (lookW W a)) F) F).map (·.1) ↔ a ∈ F.map (·.1) ∨ ∃ c ∈ ks, ∃ p ∈ outs N c N.length 0 c [], a = p.1
  | [], F, a => by simp
  | k :: ks, F, a => by
    rw [List.foldl_cons, nextG_keys ks, foldA_keys]
    simp only [List.mem_cons, exists_eq_or_imp, or_assoc]
theorem nextG_nd {N : List Nat} {W : FW} : ∀ (ks : List Nat) (F : FW), (F.map (·.1)).Nodup → ((ks.foldl (fun F a => (outs N a N.length 0 a []).foldl (addF (lookW W a)) F) F).map (·.1)).Nodup
  | [], F, h => h
  | k :: ks, F, h => nextG_nd ks _ (foldA_nd _ _ h)
theorem nextG_mem {N : List Nat} {W : FW} : ∀ (ks : List Nat) (F : FW) (q : Nat × List Prs), q ∈ ks.foldl (fun F a => (outs N a N.length 0 a []).foldl (addF (lookW W a)) F) F → q ∈ F ∨ ∃ c ∈ ks, ∃ p ∈ outs N c N.length 0 c [], q = (p.1, lookW W c ++ [p.2])
  | [], F, q, h => .inl h
  | k :: ks, F, q, h => by
    rcases nextG_mem ks _ q h with h | ⟨c, h1, h2⟩
    · rcases foldA_mem _ _ q h with h | h
      · exact .inl h
      · exact .inr ⟨k, by simp, h⟩
    · exact .inr ⟨c, by simp [h1], h2⟩
/-- What the search keeps behind k rounds. -/
structure WInv (N : List Nat) (s k : Nat) (W : FW) : Prop where
  nd : (W.map (·.1)).Nodup
  ok : ∀ p ∈ W, p.1 < 2 ^ N.length ∧ p.2.length = k ∧ vR N p.2 (2 ^ s) = some p.1 ∧ ∀ l ∈ p.2, l.length ≤ N.length ∧ ∀ c ∈ l, c.1 < N.length ∧ c.2 < N.length
  cp : ∀ B, Rcs N k (2 ^ s) B → ∃ p ∈ W, Inn B p.1
theorem lookW_mem {W : FW} (h : (W.map (·.1)).Nodup) {a : Nat} {l : List Prs} (hm : (a, l) ∈ W) : lookW W a = l := by
  induction W with
  | nil => cases hm
  | cons p W ih =>
    rw [List.map_cons, List.nodup_cons] at h
    unfold lookW
    rw [List.find?_cons]
    rcases List.mem_cons.1 hm with rfl | hm
    · simp
    · have : (p.1 == a) = false := by
        rw [beq_eq_false_iff_ne]
        intro e
        exact h.1 (e ▸ List.mem_map.2 ⟨(a, l), hm, rfl⟩)
      rw [this]
      exact ih h.2 hm
theorem cnt_le10 (a : Nat) : cnt a ≤ 10 := by
  unfold cnt memb
  exact Nat.le_trans (List.length_filter_le ..) (by simp)
theorem inn_diff {a b : Nat} (h : Inn a b) (hne : a ≠ b) : ∃ i, b.testBit i = true ∧ a.testBit i = false := by
  refine Classical.byContradiction fun w => hne (Inn.eq h fun i hi => ?_)
  cases q : a.testBit i with
  | true => rfl
  | false => exact absurd ⟨i, hi, q⟩ w
theorem maxF_cover {F : FW} (hF : ∀ p ∈ F, p.1 < 1024) : ∀ (d : Nat) (p : Nat × List Prs), p ∈ F → 10 - cnt p.1 ≤ d → ∃ q ∈ maxF F, Inn p.1 q.1 := by
  intro d
  induction d with
  | zero =>
    intro p hp hd
    refine ⟨p, List.mem_filter.2 ⟨hp, ?_⟩, Inn.refl _⟩
    cases h : inO F p.1 with
    | false => rfl
    | true =>
      obtain ⟨q, hq, h1, h2⟩ := inO_iff.1 h
      obtain ⟨i, i1, i2⟩ := inn_diff h2 h1
      have := cnt_lt h2 (bit10 (hF q hq) i1) i1 i2
      have := cnt_le10 q.1
      omega
  | succ d ih =>
    intro p hp hd
    cases h : inO F p.1 with
    | false => exact ⟨p, List.mem_filter.2 ⟨hp, by rw [h]; rfl⟩, Inn.refl _⟩
    | true =>
      obtain ⟨q, hq, h1, h2⟩ := inO_iff.1 h
      obtain ⟨i, i1, i2⟩ := inn_diff h2 h1
      have := cnt_lt h2 (bit10 (hF q hq) i1) i1 i2
      obtain ⟨r, r1, r2⟩ := ih q hq (by omega)
      exact ⟨r, r1, h2.trans r2⟩
theorem pow_le10 {n : Nat} (h : n ≤ 10) : 2 ^ n ≤ 1024 := Nat.pow_le_pow_right (n := 2) (by omega) h
section
variable {N : List Nat} {s k : Nat} {W : FW}
theorem winv0 (hs : s < N.length) : WInv N s 0 [(2 ^ s, [])] where
  nd := by simp
  ok := fun p hp => by
    have : p = (2 ^ s, []) := by simpa using hp
    subst this
    exact ⟨Nat.pow_lt_pow_right (by omega) hs, rfl, rfl, fun l hl => by cases hl⟩
  cp := fun B h => ⟨(2 ^ s, []), by simp, by cases h; exact Inn.refl _⟩
theorem next_ok (hN : ∀ m ∈ N, m < 2 ^ N.length) (hW : WInv N s k W) {ks : List Nat} (hks : ∀ a, a ∈ ks ↔ a ∈ W.map (·.1)) {q : Nat × List Prs} (hq : q ∈ nextF N W ks) :
    q.1 < 2 ^ N.length ∧ q.2.length = k + 1 ∧ vR N q.2 (2 ^ s) = some q.1 ∧ ∀ l ∈ q.2, l.length ≤ N.length ∧ ∀ c ∈ l, c.1 < N.length ∧ c.2 < N.length := by
  rcases nextG_mem ks [] q hq with h | ⟨c, hc, p, hp, rfl⟩
  · cases h
  · obtain ⟨⟨c', l⟩, hw, rfl⟩ := List.mem_map.1 ((hks c).1 hc)
    rw [lookW_mem hW.nd hw]
    obtain ⟨o1, o2, o3, o4⟩ := hW.ok _ hw
    dsimp only at o1 o2 o3 o4 hp ⊢
    obtain ⟨⟨b, b1, b2⟩, b3, b4⟩ := outs_ok N.length 0 c' [] 0 rfl (Nat.or_zero _) (fun i _ _ => Nat.zero_testBit i) (Nat.le_refl _) (by simp) (by omega) p hp
    have hv : vR N (l ++ [p.2]) (2 ^ s) = some p.1 := by
      rw [vR_append, o3, Option.bind_some, vR, b1, ← b2]
      rfl
    refine ⟨?_, by rw [List.length_append, o2]; rfl, hv, fun m hm => ?_⟩
    · rw [← b2]
      exact (vC_st0 b1).lt hN o1
    · rcases List.mem_append.1 hm with hm | hm
      · exact o4 m hm
      · have : m = p.2 := by simpa using hm
        subst this
        exact ⟨b3, b4⟩
theorem next_cp (hN : ∀ m ∈ N, m < 2 ^ N.length) (hW : WInv N s k W) {ks : List Nat} (hks : ∀ a, a ∈ ks ↔ a ∈ W.map (·.1)) {B : Nat} (h : Rcs N (k + 1) (2 ^ s) B) : ∃ q ∈ nextF N W ks, Inn B q.1 := by
  obtain ⟨C, h1, h2⟩ := h
  obtain ⟨p, hp, hin⟩ := hW.cp C h1
  obtain ⟨g0, f, f1, f2⟩ := h2.mono hin
  obtain ⟨q, hq, hB⟩ := outs_cp hN f1 f2 N.length 0 p.1 [] (Inn.refl _) (fun w _ _ q => by omega) (by omega)
  have : q.1 ∈ (nextF N W ks).map (·.1) := (nextG_keys ks [] q.1).2 (.inr ⟨p.1, (hks _).2 (List.mem_map.2 ⟨p, hp, rfl⟩), q, hq, rfl⟩)
  obtain ⟨r, hr, e⟩ := List.mem_map.1 this
  exact ⟨r, hr, by rw [e]; exact (Inn.orr _ _).trans hB⟩
theorem winv_next (hl : N.length ≤ 10) (hN : ∀ m ∈ N, m < 2 ^ N.length) (hW : WInv N s k W) {ks : List Nat} (hks : ∀ a, a ∈ ks ↔ a ∈ W.map (·.1)) {W' : FW} (hp : W'.Perm (maxF (nextF N W ks))) : WInv N s (k + 1) W' where
  nd := by
    refine (hp.map _).nodup_iff.2 ?_
    exact ((nextG_nd ks [] (by simp)).sublist ((List.filter_sublist).map _))
  ok := fun p q => next_ok hN hW hks (List.mem_filter.1 (hp.mem_iff.1 q)).1
  cp := fun B h => by
    obtain ⟨q, hq, hB⟩ := next_cp hN hW hks h
    obtain ⟨r, hr, hB2⟩ := maxF_cover (fun p hp => Nat.lt_of_lt_of_le (next_ok hN hW hks hp).1 (pow_le10 hl)) 10 q hq (by omega)
    exact ⟨r, hp.mem_iff.2 hr, hB.trans hB2⟩
/-- All know, just when all can. -/
theorem winv_full (hW : WInv N s k W) : (2 ^ N.length - 1 ∈ W.map (·.1)) ↔ Rcs N k (2 ^ s) (2 ^ N.length - 1) := by
  constructor
  · intro h
    obtain ⟨p, hp, e⟩ := List.mem_map.1 h
    obtain ⟨o1, o2, o3, o4⟩ := hW.ok p hp
    rw [← e, ← o2]
    exact vR_rcs _ _ _ o3
  · intro h
    obtain ⟨p, hp, hin⟩ := hW.cp _ h
    have : p.1 = 2 ^ N.length - 1 := Inn.eq (inn_full (hW.ok p hp).1) hin
    exact List.mem_map.2 ⟨p, hp, this⟩
theorem winv_len (hl : N.length ≤ 10) (hW : WInv N s k W) : W.length ≤ 1024 := by
  have h : ∀ (l : List Nat) (m : Nat), l.Nodup → (∀ a ∈ l, a < m) → l.length ≤ m := by
    intro l m
    induction m generalizing l with
    | zero => intro _ h; cases l with
      | nil => simp
      | cons a l => exact absurd (h a (by simp)) (by omega)
    | succ m ih =>
      intro h1 h2
      have := ih (l.erase m) (h1.erase m) (fun a ha => by
        have := h2 a (List.mem_of_mem_erase ha)
        have hne : a ≠ m := fun e => by subst e; exact absurd ha (h1.not_mem_erase)
        omega)
      have := List.length_erase (a := m) (l := l)
      split at this <;> omega
  have := h (W.map (·.1)) (2 ^ N.length) hW.nd (fun a ha => by
    obtain ⟨p, hp, rfl⟩ := List.mem_map.1 ha
    exact (hW.ok p hp).1)
  rw [List.length_map] at this
  exact Nat.le_trans this (pow_le10 hl)
end
/-! ### a connected graph: somebody new is called in each round -/
theorem cl_compl {N : List Nat} (hS : Sym N) {C D : Nat} (hC : ClN N C) (hD : ∀ i, i < N.length → (D.testBit i = true ↔ C.testBit i = false)) (hN : ∀ m ∈ N, m < 2 ^ N.length) : ClN N D := fun i hi hb j hj => by
  have hjl := bit_lt (getD_lt2 hN i) hj
  rw [hD j hjl]
  cases q : C.testBit j with
  | false => rfl
  | true =>
    have := hC j hjl (by rw [bt_eq]; exact q) i (hS _ _ hj)
    rw [bt_eq, hD i hi] at hb
    rw [hb] at this
    cases this
theorem cl_full {N : List Nat} (hS : Sym N) (hN : ∀ m ∈ N, m < 2 ^ N.length) (hc : connN N = true) {C s : Nat} (hs : s < N.length) (hCs : C.testBit s = true) (hC : ClN N C) (hlt : C < 2 ^ N.length) : C = 2 ^ N.length - 1 := by
  rw [connN, decide_eq_true_iff] at hc
  by_cases h0 : C.testBit 0 = true
  · refine Inn.eq (inn_full hlt) ?_
    rw [← hc]
    refine ball_cl hC fun i hi => ?_
    have : i = 0 := by
      have : (1 : Nat) = 2 ^ 0 := rfl
      rw [this, Nat.testBit_two_pow] at hi
      simpa using (of_decide_eq_true hi).symm
    subst this
    exact h0
  · have hD : ∀ i, i < N.length → ((sdiff (2 ^ N.length - 1) C).testBit i = true ↔ C.testBit i = false) := fun i hi => by
      rw [sdiff_bit, Nat.testBit_two_pow_sub_one, decide_eq_true hi]
      simp
    have hb : Inn (2 ^ N.length - 1) (sdiff (2 ^ N.length - 1) C) := by
      conv => lhs; rw [← hc]
      refine ball_cl (cl_compl hS hC hD hN) fun i hi => ?_
      have : i = 0 := by
        have : (1 : Nat) = 2 ^ 0 := rfl
        rw [this, Nat.testBit_two_pow] at hi
        simpa using (of_decide_eq_true hi).symm
      subst this
      rw [hD 0 (by omega)]
      simpa using h0
    have := hb s (by rw [Nat.testBit_two_pow_sub_one]; exact decide_eq_true hs)
    rw [hD s hs, hCs] at this
    cases this
theorem st_one {N : List Nat} {A v w : Nat} (hv : A.testBit v = true) (hw : (N.getD v 0).testBit w = true) : St1 N A (A ||| 2 ^ w) := by
  have key : ∀ u, (A ||| 2 ^ w).testBit u = true → A.testBit u = false → u = w := fun u h1 h2 => by
    rw [Nat.testBit_or, h2, Nat.testBit_two_pow] at h1
    simpa using (of_decide_eq_true (by simpa using h1) : w = u).symm
  exact ⟨Inn.orl _ _, fun _ => v, fun u h1 h2 => by rw [key u h1 h2]; exact ⟨hv, hw⟩, fun u u' h1 h2 h3 h4 _ => by rw [key u h1 h2, key u' h3 h4]⟩
theorem rcs_grow {N : List Nat} (hS : Sym N) (hl : N.length ≤ 10) (hN : ∀ m ∈ N, m < 2 ^ N.length) (hc : connN N = true) {s : Nat} (hs : s < N.length) : ∀ k, ∃ B, Rcs N k (2 ^ s) B ∧ (B = 2 ^ N.length - 1 ∨ k + 1 ≤ cnt B)
  | 0 => ⟨2 ^ s, rfl, .inr (by
    have h : ∀ s, s < 10 → 1 ≤ cnt (2 ^ s) := by decide
    exact h s (by omega))⟩
  | k + 1 => by
    obtain ⟨B, h1, h2⟩ := rcs_grow hS hl hN hc hs k
    rcases h2 with h2 | h2
    · exact ⟨B, h1.more, .inl h2⟩
    · have hlt : B < 2 ^ N.length := h1.lt hN (Nat.pow_lt_pow_right (by omega) hs)
      have hBs : B.testBit s = true := h1.inn s (by simp)
      by_cases hcl : ClN N B
      · exact ⟨B, h1.more, .inl (cl_full hS hN hc hs hBs hcl hlt)⟩
      · obtain ⟨i, hi⟩ := Classical.not_forall.1 hcl
        obtain ⟨i1, hi⟩ := Classical.not_imp.1 hi
        obtain ⟨i2, hi⟩ := Classical.not_imp.1 hi
        obtain ⟨w, hw⟩ := Classical.not_forall.1 hi
        obtain ⟨w1, w2⟩ := Classical.not_imp.1 hw
        rw [bt_eq] at i2
        have hwl := bit_lt (getD_lt2 hN i) w1
        refine ⟨B ||| 2 ^ w, ⟨B, h1, st_one i2 w1⟩, .inr ?_⟩
        have := cnt_lt (Inn.orl B (2 ^ w)) (i := w) (by omega) (by rw [Nat.testBit_or, Nat.testBit_two_pow]; simp) (by simpa using w2)
        omega
theorem isT_ex {N : List Nat} (hS : Sym N) (hl : N.length ≤ 10) (hN : ∀ m ∈ N, m < 2 ^ N.length) (hc : connN N = true) {s : Nat} (hs : s < N.length) : ∃ k, k + 1 ≤ N.length ∧ IsT N s k := by
  obtain ⟨B, h1, h2⟩ := rcs_grow hS hl hN hc hs (N.length - 1)
  have hlt : B < 2 ^ N.length := h1.lt hN (Nat.pow_lt_pow_right (by omega) hs)
  have hB : B = 2 ^ N.length - 1 := by
    rcases h2 with h2 | h2
    · exact h2
    · refine (cnt_full hl hlt).1 ?_
      have hcf : cnt (2 ^ N.length - 1) = N.length := (cnt_full hl (by have := Nat.one_le_two_pow (n := N.length); omega)).2 rfl
      by_cases e : B = 2 ^ N.length - 1
      · rw [e]; exact hcf
      · obtain ⟨i, i1, i2⟩ := inn_diff (inn_full hlt) e
        have := cnt_lt (inn_full hlt) (by have := bit_lt (a := 2 ^ N.length - 1) (n := N.length) (by have := Nat.one_le_two_pow (n := N.length); omega) i1; omega) i1 i2
        omega
  subst hB
  obtain ⟨j, hj, h⟩ := IsT.ex h1
  exact ⟨j, by omega, h⟩
end Go.Proofs.Ytpbighinamljbaa.PA
/- The search of a shortest broadcast: clipped rows, maps from sets to schedules, the closure that adds. No condition. -/
set_option linter.unusedSimpArgs false
set_option linter.unusedVariables false
namespace Go.Proofs.Ytpbighinamljbaa.PA
open Go Go.Eng Go.Proofs
theorem cut_clp {z m : Nat} {H : AHeap} {X : AV} {cs : List AV} (h : Row z H X m cs) (hm : m < 1048576) (ev : XO → Option AV) (a b : XO) (ha : ev a = some (nA m)) (hb : ev b = some (nA m)) : ∃ X', cutA ev z X none (some a) (some b) = some X' ∧ Clp z H X' m cs := by
  obtain ⟨h0, ⟨rfl, rfl⟩ | ⟨i, full, rfl, h1, h2, h3, h4⟩⟩ := h
  · refine ⟨.nils, ?_, hm, .inl ⟨rfl, rfl, List.eq_nil_of_length_eq_zero (by omega)⟩⟩
    have e : bndA 0 (nA 0) = some 0 := bndA_nat (Nat.le_refl 0)
    simp only [cutA, bounds, obnd, hiBnd, ha, hb, Option.bind_some, e]
  · refine ⟨.sl i 0 m m, ?_, hm, .inr ⟨i, full, _, rfl, h1, h2, h3⟩⟩
    have e : bndA m (nA m) = some m := bndA_nat (Nat.le_refl m)
    simp only [cutA, bounds, obnd, hiBnd, ha, hb, Option.bind_some, e]
    rw [if_neg (by unfold openAt openCap; omega), if_pos (by unfold openAt; omega)]
    simp
theorem k_cutC {cf : CF} {n z m : Nat} {H : AHeap} {l : KL0} {x a b : XO} {X X' : AV} (hx : evK l x = some X) (h : cutA (evK l) z X none (some a) (some b) = some X') : XV cf l H n (.cut z x none (some a) (some b)) = some (X', H) := k_any (op_cut hx h)
theorem Kp.eqm {H H' : AHeap} (hm : H'.m = H.m) (hn : H.next ≤ H'.next) : Kp H H' := ⟨hn, fun k _ => by unfold AHeap.get; rw [hm]⟩
/-- Clip: the row without room. -/
def ClipR (z : Nat) (H : AHeap) (m : Nat) (cs : List AV) (v : AV) (H' : AHeap) : Prop := Clp z H v m cs ∧ H'.m = H.m ∧ H.next ≤ H'.next
theorem x82 {cf : CF} {fuel m : Nat} {H : AHeap} {X : AV} {cs : List AV} (h : Row 2 H X m cs) (hm : m < 1048576) : ∃ v H', xfunc cf fuel L82 [X] H = some (v, H') ∧ ClipR 2 H m cs v H' := by
  refine xfunc_ofK rfl (by show 1 ≤ 9; omega) ?_
  have hln : lenN X = some m := (RdR.of (.inl h)).len
  obtain ⟨X', h1, h2⟩ := cut_clp h hm (evK [(7, nA m), (6, X), (5, nA m), (4, X), (3, X), (2, .nils), (0, X)]) (.t 5) (.t 7) rfl rfl
  unfold L82
  dsimp only
  repeat' (first | refine WK.seq ?_ | refine WK.skip ?_ | refine WK.ret ?_ | refine WK.exit ?_ | refine WK.block ?_ | (apply WK.reg; (· exact lnn)) | (apply WK.regC; (· rfl); (· exact lnn); (· decide)) | (apply WK.regd0; (· exact lnn)) | refine WKC.nil ?_ | refine WKO.nil ?_ | ((first | apply WKC.op | apply WKO.op | ((first | apply WKC.gop | apply WKO.gop); (· rfl); (· exact dcd))); (· first | exact k_mv rfl | exact k_lenL rfl hln | exact k_cutC (m := m) rfl h1 | exact opA); (· rfl)) | ((first | apply WKC.gnoT | apply WKO.gnoT | apply WKC.gnoF | apply WKO.gnoF); (· rfl); (· exact dcd)) | ((first | apply WKC.gnu | apply WKO.gnu); (· rfl)) | ((first | apply WKC.gsp | apply WKO.gsp); (· rfl); all_goals ((fail_if_success (refine known ?_ ?_; (· assumption))); intro _)) | ((first | apply WKC.gspB | apply WKO.gspB); (· rfl); all_goals ((fail_if_success (refine known ?_ ?_; (· assumption))); intro _)) | refine pN ?_ | refine pR ?_ | refine pX ?_ | refine bN ?_ | refine bR ?_ | refine bX ?_ | refine bO (by decide) ?_ | (apply WK.condT; (· rfl); (· exact dcd)) | (apply WK.condF; (· rfl); (· exact dcd)) | (apply WK.condD; (· rfl); all_goals intro _) | (apply WK.condN; (· rfl); all_goals intro _) | (apply WK.condB; (· rfl); all_goals intro _))
  exact ⟨nofun, _, rfl, h2, rfl, by simp only [next_bump]; omega⟩
theorem x72 {cf : CF} {fuel m : Nat} {H : AHeap} {X : AV} {cs : List AV} (h : Row 1 H X m cs) (hm : m < 1048576) : ∃ v H', xfunc cf fuel L72 [X] H = some (v, H') ∧ ClipR 1 H m cs v H' := by
  refine xfunc_ofK rfl (by show 1 ≤ 9; omega) ?_
  have hln : lenN X = some m := (RdR.of (.inl h)).len
  obtain ⟨X', h1, h2⟩ := cut_clp h hm (evK [(7, nA m), (6, X), (5, nA m), (4, X), (3, X), (2, .nils), (0, X)]) (.t 5) (.t 7) rfl rfl
  unfold L72
  dsimp only
  repeat' (first | refine WK.seq ?_ | refine WK.skip ?_ | refine WK.ret ?_ | refine WK.exit ?_ | refine WK.block ?_ | (apply WK.reg; (· exact lnn)) | (apply WK.regC; (· rfl); (· exact lnn); (· decide)) | (apply WK.regd0; (· exact lnn)) | refine WKC.nil ?_ | refine WKO.nil ?_ | ((first | apply WKC.op | apply WKO.op | ((first | apply WKC.gop | apply WKO.gop); (· rfl); (· exact dcd))); (· first | exact k_mv rfl | exact k_lenL rfl hln | exact k_cutC (m := m) rfl h1 | exact opA); (· rfl)) | ((first | apply WKC.gnoT | apply WKO.gnoT | apply WKC.gnoF | apply WKO.gnoF); (· rfl); (· exact dcd)) | ((first | apply WKC.gnu | apply WKO.gnu); (· rfl)) | ((first | apply WKC.gsp | apply WKO.gsp); (· rfl); all_goals ((fail_if_success (refine known ?_ ?_; (· assumption))); intro _)) | ((first | apply WKC.gspB | apply WKO.gspB); (· rfl); all_goals ((fail_if_success (refine known ?_ ?_; (· assumption))); intro _)) | refine pN ?_ | refine pR ?_ | refine pX ?_ | refine bN ?_ | refine bR ?_ | refine bX ?_ | refine bO (by decide) ?_ | (apply WK.condT; (· rfl); (· exact dcd)) | (apply WK.condF; (· rfl); (· exact dcd)) | (apply WK.condD; (· rfl); all_goals intro _) | (apply WK.condN; (· rfl); all_goals intro _) | (apply WK.condB; (· rfl); all_goals intro _))
  exact ⟨nofun, _, rfl, h2, rfl, by simp only [next_bump]; omega⟩
/-! ### a map from sets to schedules -/
/-- A row of rows of calls. -/
def RRw (H : AHeap) (Y : AV) (ls : List Prs) : Prop := ∃ cs, Row 1 H Y ls.length cs ∧ ∀ (i : Nat) (l : Prs), ls[i]? = some l → ∃ X, cs[i]? = some X ∧ Row 2 H X l.length (prsC l)
/-- Rows stay. -/
def Kr (H H' : AHeap) : Prop := H.next ≤ H'.next ∧ ∀ k full z, k < H.next → H.get k = some (.cells full (some z)) → H'.get k = some (.cells full (some z))
theorem Kr.refl (H : AHeap) : Kr H H := ⟨Nat.le_refl _, fun _ _ _ _ h => h⟩
theorem Kr.trans {H H' H2 : AHeap} (h : Kr H H') (h2 : Kr H' H2) : Kr H H2 := ⟨Nat.le_trans h.1 h2.1, fun k f z hk hg => h2.2 k f z (Nat.lt_of_lt_of_le hk h.1) (h.2 k f z hk hg)⟩
theorem Kp.kr {H H' : AHeap} (h : Kp H H') : Kr H H' := ⟨h.1, fun k f z hk hg => (h.2 k hk).trans hg⟩
theorem Kr.but {H H' : AHeap} {J : Nat} {o : AObj} (hn : H.next ≤ H'.next) (hg : H.get J = some o) (ho : ∀ f z, o ≠ .cells f (some z)) (h : ∀ k, k < H.next → k ≠ J → H'.get k = H.get k) : Kr H H' := ⟨hn, fun k f z hk hq => by
  rw [h k hk (fun e => by subst e; rw [hg] at hq; exact ho f z (Option.some.inj hq))]
  exact hq⟩
theorem Row.kr {z m : Nat} {H H' : AHeap} {X : AV} {cs : List AV} (h : Row z H X m cs) (k : Kr H H') : Row z H' X m cs := by
  obtain ⟨h0, h | ⟨i, full, rfl, h1, h2, h3, h4⟩⟩ := h
  · exact ⟨h0, .inl h⟩
  · exact ⟨h0, .inr ⟨i, full, rfl, k.2 _ _ _ h4 h1, h2, h3, Nat.lt_of_lt_of_le h4 k.1⟩⟩
theorem RRw.kr {H H' : AHeap} {Y : AV} {ls : List Prs} (h : RRw H Y ls) (k : Kr H H') : RRw H' Y ls := by
  obtain ⟨cs, h1, h2⟩ := h
  exact ⟨cs, Row.kr h1 k, fun i l hl => by
    obtain ⟨X, q1, q2⟩ := h2 i l hl
    exact ⟨X, q1, Row.kr q2 k⟩⟩
theorem RRw.nil (H : AHeap) : RRw H .nils [] := ⟨[], Row.nil 1 H, fun i l h => by cases h⟩
/-- A map's entries, as they are meant. -/
def EntF (H : AHeap) : List (AV × AV) → FW → Prop
  | [], [] => True
  | e :: es, p :: F => e.1 = sA p.1 ∧ RRw H e.2 p.2 ∧ EntF H es F
  | _, _ => False
theorem EntF.kr {H H' : AHeap} (k : Kr H H') : ∀ {es : List (AV × AV)} {F : FW}, EntF H es F → EntF H' es F
  | [], [], _ => trivial
  | e :: es, p :: F, h => ⟨h.1, h.2.1.kr k, EntF.kr k h.2.2⟩
  | [], _ :: _, h => h
  | _ :: _, [], h => h
theorem EntF.add {H : AHeap} {v : AV} {a : Nat} {ls : List Prs} (hv : RRw H v ls) : ∀ {es : List (AV × AV)} {F : FW}, EntF H es F → EntF H (es ++ [(sA a, v)]) (F ++ [(a, ls)])
  | [], [], _ => ⟨rfl, hv, trivial⟩
  | e :: es, p :: F, h => ⟨h.1, h.2.1, EntF.add hv h.2.2⟩
  | [], _ :: _, h => h.elim
  | _ :: _, [], h => h.elim
theorem EntF.len {H : AHeap} : ∀ {es : List (AV × AV)} {F : FW}, EntF H es F → es.length = F.length
  | [], [], _ => rfl
  | e :: es, p :: F, h => by rw [List.length_cons, List.length_cons, EntF.len h.2.2]
  | [], _ :: _, h => h.elim
  | _ :: _, [], h => h.elim
theorem EntF.keys {H : AHeap} : ∀ {es : List (AV × AV)} {F : FW}, EntF H es F → es.map (·.1) = F.map (fun p => sA p.1)
  | [], [], _ => rfl
  | e :: es, p :: F, h => by rw [List.map_cons, List.map_cons, EntF.keys h.2.2, h.1]
  | [], _ :: _, h => h.elim
  | _ :: _, [], h => h.elim
def K16 : KT := .mk false [.i .u16]
theorem key16 {a : Nat} (h : a < 1024) : keyA K16 (sA a) = some [Lit.int .u16 (a : Int)] := by
  have hw : (Lit.int .u16 (a : Int)).wf = true := by
    simp [Lit.wf, IntKind.min, IntKind.max, IntKind.bits, IntKind.signed]
    omega
  simp [keyA, K16, sA, litsA, litA, hw]
theorem lits16 {a b : Nat} : litsEq [Lit.int .u16 (a : Int)] [Lit.int .u16 (b : Int)] = decide (a = b) := by
  simp only [litsEq, litEq]
  rw [Bool.eq_iff_iff]
  simp
  omega
theorem find16 {H : AHeap} {a : Nat} : ∀ {es : List (AV × AV)} {F : FW} (i : Nat), EntF H es F → (∀ p ∈ F, p.1 < 1024) →
    (hasF F a = false ∧ findE K16 [Lit.int .u16 (a : Int)] es i = some none ∧ lookW F a = []) ∨ (hasF F a = true ∧ ∃ j v, findE K16 [Lit.int .u16 (a : Int)] es i = some (some (j, v)) ∧ RRw H v (lookW F a))
  | [], [], i, _, _ => .inl ⟨rfl, rfl, rfl⟩
  | (k, v) :: es, p :: F, i, h, hF => by
    obtain ⟨h1, h2, h3⟩ := h
    dsimp only at h1 h2
    subst h1
    have ih := find16 (a := a) (i + 1) h3 (fun q hq => hF q (List.mem_cons_of_mem _ hq))
    have hk := key16 (hF p (List.mem_cons_self ..))
    by_cases e : a = p.1
    · right
      have e' : (p.1 == a) = true := by simp [e]
      refine ⟨by simp only [hasF, List.any_cons, e', Bool.true_or], i, v, ?_, ?_⟩
      · rcases ih with ⟨_, q, _⟩ | ⟨_, j, u, q, _⟩ <;>
        · simp only [findE, hk, q, lits16]
          rw [if_pos (by simpa using e)]
      · simp only [lookW, List.find?_cons, e', Option.map_some, Option.getD_some]
        exact h2
    · have e' : (p.1 == a) = false := by simp; omega
      have el : lookW (p :: F) a = lookW F a := by simp only [lookW, List.find?_cons, e']
      have eh : hasF (p :: F) a = hasF F a := by simp only [hasF, List.any_cons, e', Bool.false_or]
      rw [el, eh]
      rcases ih with ⟨q0, q, q2⟩ | ⟨q0, j, u, q, q2⟩
      · exact .inl ⟨q0, by simp only [findE, hk, q, lits16]; rw [if_neg (by simpa using e)], q2⟩
      · exact .inr ⟨q0, j, u, by simp only [findE, hk, q, lits16]; rw [if_neg (by simpa using e)], q2⟩
  | [], _ :: _, _, h, _ => h.elim
  | _ :: _, [], _, h, _ => h.elim
theorem upd16 {H : AHeap} {a : Nat} {v : AV} {es : List (AV × AV)} {F : FW} (h : EntF H es F) (hF : ∀ p ∈ F, p.1 < 1024) (hn : hasF F a = false) : updE K16 [Lit.int .u16 (a : Int)] (sA a) v es = some (es ++ [(sA a, v)]) := by
  rcases find16 (a := a) 0 h hF with ⟨_, q, _⟩ | ⟨q, _⟩
  · simp only [updE, q]
  · rw [hn] at q; cases q
theorem Row.one {z : Nat} {H : AHeap} {i : Nat} {c : List AV} (hg : H.get i = some (.cells c (some z))) (hi : i < H.next) {m : Nat} (hc : c.length = m * z) : Row z H (.sl i 0 m openCap) m c :=
  ⟨hc, .inr ⟨i, c, rfl, hg, by rw [List.take_of_length_le (by omega)], by omega, hi⟩⟩
/-- A schedule with a further round. -/
theorem RRw.add {H : AHeap} {ls : List Prs} {l : Prs} {X : AV} {i : Nat} {cs : List AV} (hcs : cs.length = ls.length) (hin : ∀ (j : Nat) (l : Prs), ls[j]? = some l → ∃ X, cs[j]? = some X ∧ Row 2 H X l.length (prsC l)) (hX : Row 2 H X l.length (prsC l)) (hg : H.get i = some (.cells (cs ++ [X]) (some 1))) (hi : i < H.next) : RRw H (.sl i 0 (ls.length + 1) openCap) (ls ++ [l]) := by
  refine ⟨cs ++ [X], ?_, fun j m hj => ?_⟩
  · have := Row.one hg hi (m := (ls ++ [l]).length) (by simp [hcs])
    simpa using this
  · rw [List.getElem?_append] at hj ⊢
    split at hj
    · rename_i h
      rw [if_pos (by omega)]
      exact hin j m hj
    · rename_i h
      rw [if_neg (by omega), hcs]
      cases e : j - ls.length with
      | zero => rw [e] at hj; cases hj; exact ⟨X, rfl, hX⟩
      | succ d => rw [e] at hj; cases hj
end Go.Proofs.Ytpbighinamljbaa.PA
/- The search of a shortest broadcast: the closure that adds a set. No condition. -/
set_option linter.unusedSimpArgs false
set_option linter.unusedVariables false
namespace Go.Proofs.Ytpbighinamljbaa.PA
open Go Go.Eng Go.Proofs
theorem k_ldX {cf : CF} {n i p : Nat} {H : AHeap} {l : KL0} {x : XO} {c : List AV} {opn : Option Nat} {v : AV} (hx : evK l x = some (.ptr i p)) (hg : H.get i = some (.cells c opn)) (hc : c[p]? = some v) : XV cf l H n (.load none x) = some (v, H) := k_any (op_loadc hx hg hc)
theorem xop_look {ev : XO → Option AV} {H : AHeap} {n i : Nat} {K : KT} {zero key : AV} {x y : XO} {ok : Bool} {es : List (AV × AV)} {ls : List Lit} {r : Option (Nat × AV)} (hx : ev x = some (.map i)) (hy : ev y = some key) (he : H.get i = some (.map es)) (hk : keyA K key = some ls) (hf : findE K ls es 0 = some r) :
    xop ev H n (.look K zero x y ok) = .v (if ok then .tup [(r.map (·.2)).getD zero, .bool r.isSome] else (r.map (·.2)).getD zero) := by
  cases r with
  | none => simp only [xop, hx, hy, Option.bind_some, entsA, he, hk, hf]; rfl
  | some q => simp only [xop, hx, hy, Option.bind_some, entsA, he, hk, hf]; rfl
theorem k_lookX {cf : CF} {n i : Nat} {H : AHeap} {l : KL0} {K : KT} {zero key : AV} {x y : XO} {ok : Bool} {es : List (AV × AV)} {ls : List Lit} {r : Option (Nat × AV)} {v : AV} (hx : evK l x = some (.map i)) (hy : evK l y = some key) (he : H.get i = some (.map es)) (hk : keyA K key = some ls) (hf : findE K ls es 0 = some r) (hv : (if ok then AV.tup [(r.map (·.2)).getD zero, .bool r.isSome] else (r.map (·.2)).getD zero) = v) :
    XV cf l H n (.look K zero x y ok) = some (v, H) := by
  subst hv
  exact k_any (by simp only [xval, xop_look hx hy he hk hf])
theorem xop_ld {ev : XO → Option AV} {H : AHeap} {n i p : Nat} {x : XO} {c : List AV} {opn : Option Nat} {v : AV} (hx : ev x = some (.ptr i p)) (hg : H.get i = some (.cells c opn)) (hc : c[p]? = some v) : xop ev H n (.load none x) = .v v := by
  simp only [xop, hx, Option.bind_some, loadA, cellsAt, hg, List.getElem?_drop, Nat.add_zero, hc, AR.ofV]
theorem k_bs1 {cf : CF} {n : Nat} {H : AHeap} {l : KL0} {z v : AV} {x : XO} (hx : evK l x = some v) (hv : v.cells = [v]) : XV cf l H n (.bslice [z] [(0, 1, x)] 1) = some (.sl n 0 1 1, H.set n (some (.cells [v] none))) :=
  k_any (by
    have : (evParts (evK l) [(0, 1, x)]).bind (fillA (List.replicate 1 [z]).flatten) = some [v] := by simp [evParts, hx, fillA, hv]
    simp only [xval, xop, this])
theorem k_bs2 {cf : CF} {n : Nat} {H : AHeap} {l : KL0} {z z' a b : AV} {x : XO} (hx : evK l x = some (.agg [a, b])) : XV cf l H n (.bslice [z, z'] [(0, 2, x)] 1) = some (.sl n 0 1 1, H.set n (some (.cells [a, b] none))) :=
  k_any (by
    have : (evParts (evK l) [(0, 2, x)]).bind (fillA (List.replicate 1 [z, z']).flatten) = some [a, b] := by simp [evParts, hx, fillA, AV.cells]
    simp only [xval, xop, this])
theorem k_appC {cf : CF} {n z m j bytes : Nat} {H : AHeap} {l : KL0} {x y : XO} {X : AV} {cs new : List AV} (hx : evK l x = some X) (hy : evK l y = some (.sl j 0 1 1)) (h : Clp z H X m cs) (hb : bytes ≤ 2 ^ 16) (hj : H.get j = some (.cells new none)) (hnl : new.length = z) (ho : new.all AV.oneCell = true) :
    XV cf l H n (.app z bytes x y) = some (.sl H.next 0 (m + 1) openCap, H.add (.cells (cs ++ new) (some z))) :=
  k_any (by simp only [xval, xop, hx, hy, h.app hb hj hnl ho])
theorem k_updX {cf : CF} {n i : Nat} {H : AHeap} {l : KL0} {K : KT} {x y z : XO} {key v : AV} {es es' : List (AV × AV)} {ls : List Lit} (hx : evK l x = some (.map i)) (hy : evK l y = some key) (hz : evK l z = some v) (hg : H.get i = some (.map es)) (hk : keyA K key = some ls) (hu : updE K ls key v es = some es') :
    XV cf l H n (.upd K x y z) = some (undefA, H.set i (some (.map es'))) :=
  k_any (by simp only [xval, xop, hx, hy, hz, hg, hk, hu])
/-- What the closure looks at. -/
structure AddC (H : AHeap) (b8 b5 b10 J I inf : Nat) (F W : FW) : Prop where
  g8 : H.get b8 = some (.cells [.map J] none)
  g5 : H.get b5 = some (.cells [.map I] none)
  g10 : H.get b10 = some (.cells [sA inf] none)
  l8 : b8 < H.next
  l5 : b5 < H.next
  l10 : b10 < H.next
  lJ : J < H.next
  lI : I < H.next
  eJ : ∃ es, H.get J = some (.map es) ∧ EntF H es F
  eI : ∃ es, H.get I = some (.map es) ∧ EntF H es W
  ne : J ≠ I
/-- What it leaves. -/
structure AddR (H H' : AHeap) (J : Nat) (F : FW) : Prop where
  e : ∃ es, H'.get J = some (.map es) ∧ EntF H' es F
  nx : H.next ≤ H'.next
  fr : ∀ k, k < H.next → k ≠ J → H'.get k = H.get k
theorem AddC.up {H H' : AHeap} {b8 b5 b10 J I inf : Nat} {F W : FW} (h : AddC H b8 b5 b10 J I inf F W) (k : Kp H H') : AddC H' b8 b5 b10 J I inf F W := by
  obtain ⟨es, e1, e2⟩ := h.eJ
  obtain ⟨es', e3, e4⟩ := h.eI
  exact ⟨(k.2 _ h.l8).trans h.g8, (k.2 _ h.l5).trans h.g5, (k.2 _ h.l10).trans h.g10, Nat.lt_of_lt_of_le h.l8 k.1, Nat.lt_of_lt_of_le h.l5 k.1, Nat.lt_of_lt_of_le h.l10 k.1, Nat.lt_of_lt_of_le h.lJ k.1, Nat.lt_of_lt_of_le h.lI k.1,
    ⟨es, (k.2 _ h.lJ).trans e1, e2.kr k.kr⟩, ⟨es', (k.2 _ h.lI).trans e3, e4.kr k.kr⟩, h.ne⟩
theorem AddR.kr {H H' : AHeap} {b8 b5 b10 J I inf : Nat} {F W F' : FW} (h : AddC H b8 b5 b10 J I inf F W) (r : AddR H H' J F') : Kr H H' := by
  obtain ⟨es, e1, _⟩ := h.eJ
  exact Kr.but r.nx e1 (fun _ _ => nofun) r.fr
theorem AddC.step {H H' : AHeap} {b8 b5 b10 J I inf : Nat} {F W F' : FW} (h : AddC H b8 b5 b10 J I inf F W) (r : AddR H H' J F') : AddC H' b8 b5 b10 J I inf F' W := by
  obtain ⟨es, e1, e2⟩ := h.eJ
  obtain ⟨es', e3, e4⟩ := h.eI
  have n8 : b8 ≠ J := fun q => by have := h.g8; rw [q, e1] at this; cases this
  have n5 : b5 ≠ J := fun q => by have := h.g5; rw [q, e1] at this; cases this
  have n10 : b10 ≠ J := fun q => by have := h.g10; rw [q, e1] at this; cases this
  exact ⟨(r.fr _ h.l8 n8).trans h.g8, (r.fr _ h.l5 n5).trans h.g5, (r.fr _ h.l10 n10).trans h.g10, Nat.lt_of_lt_of_le h.l8 r.nx, Nat.lt_of_lt_of_le h.l5 r.nx, Nat.lt_of_lt_of_le h.l10 r.nx, Nat.lt_of_lt_of_le h.lJ r.nx, Nat.lt_of_lt_of_le h.lI r.nx,
    r.e, ⟨es', (r.fr _ h.lI (fun q => h.ne q.symm)).trans e3, e4.kr (r.kr h)⟩, h.ne⟩
set_option maxHeartbeats 1000000 in
theorem x71 {cf : CF} {fuel b8 b5 b10 J I inf now : Nat} {F W : FW} {H0 : AHeap} {CS : AV} {cs : Prs} (hcl : Go.Eng.Clean H0) (h : AddC H0 b8 b5 b10 J I inf F W) (hF : ∀ p ∈ F, p.1 < 1024) (hW : ∀ p ∈ W, p.1 < 1024) (hn : now < 1024) (hi : inf < 1024) (hC : Row 2 H0 CS cs.length (prsC cs)) (hl : (lookW W inf).length < 1000)
    (h72 : ∀ H v m cs, Row 1 H v m cs → m < 1048576 → ∃ u H', cf 72 [v] H = some (u, H') ∧ ClipR 1 H m cs u H') :
    ∃ u H', xfunc cf fuel L71 [sA now, CS, .ptr b8 0, .ptr b5 0, .ptr b10 0] H0 = some (u, H') ∧ u = .tup [] ∧ AddR H0 H' J (addF (lookW W inf) F (now, cs)) := by
  refine xfunc_ofK rfl (by show 5 ≤ 26; omega) ?_
  obtain ⟨es, e1, e2⟩ := h.eJ
  obtain ⟨es', e3, e4⟩ := h.eI
  have g8 := h.g8
  have g5 := h.g5
  have g10 := h.g10
  have l8 := h.l8
  have l5 := h.l5
  have l10 := h.l10
  have lJ := h.lJ
  have lI := h.lI
  have n8 : b8 ≠ J := fun q => by rw [q, e1] at g8; cases g8
  unfold L71
  dsimp only
  rcases find16 (a := now) 0 e2 hF with ⟨f1, f2, _⟩ | ⟨f1, j, v, f2, _⟩
  · obtain ⟨rv, f4, hbase⟩ : ∃ rv, findE K16 [Lit.int .u16 (inf : Int)] es' 0 = some rv ∧ RRw H0 ((rv.map (·.2)).getD .nils) (lookW W inf) := by
      rcases find16 (a := inf) 0 e4 hW with ⟨_, q, q2⟩ | ⟨_, j, v, q, q2⟩
      · exact ⟨none, q, by rw [q2]; exact RRw.nil _⟩
      · exact ⟨some (j, v), q, q2⟩
    obtain ⟨V, hV⟩ : ∃ V, (rv.map (·.2)).getD AV.nils = V := ⟨_, rfl⟩
    rw [hV] at hbase
    obtain ⟨cb, b1, b2⟩ := hbase
    repeat' (first | refine WK.seq ?_ | refine WK.skip ?_ | refine WK.ret ?_ | refine WK.exit ?_ | refine WK.block ?_ | (apply WK.reg; (· exact lnn)) | (apply WK.regC; (· rfl); (· exact lnn); (· decide)) | (apply WK.regd0; (· exact lnn)) | refine WKC.nil ?_ | refine WKO.nil ?_ | ((first | apply WKC.op | apply WKO.op | ((first | apply WKC.gop | apply WKO.gop); (· rfl); (· exact dcd))); (· first | exact k_mv rfl | (apply k_ldX; (· rfl); (· exact g8); (· rfl)) | (apply k_lookX; (· rfl); (· rfl); (· exact e1); (· exact key16 hn); (· exact f2); (· rfl)) | exact opA); (· rfl)) | ((first | apply WKC.gnoT | apply WKO.gnoT | apply WKC.gnoF | apply WKO.gnoF); (· rfl); (· exact dcd)) | ((first | apply WKC.gnu | apply WKO.gnu); (· rfl)) | ((first | apply WKC.gsp | apply WKO.gsp); (· rfl); all_goals ((fail_if_success (refine known ?_ ?_; (· assumption))); intro _)) | ((first | apply WKC.gspB | apply WKO.gspB); (· rfl); all_goals ((fail_if_success (refine known ?_ ?_; (· assumption))); intro _)) | refine pN ?_ | refine pR ?_ | refine pX ?_ | refine bN ?_ | refine bR ?_ | refine bX ?_ | refine bO (by decide) ?_ | (apply WK.condT; (· rfl); (· exact dcd)) | (apply WK.condF; (· rfl); (· exact dcd)) | (apply WK.condD; (· rfl); all_goals intro _) | (apply WK.condN; (· rfl); all_goals intro _) | (apply WK.condB; (· rfl); all_goals intro _))
    refine WK.regT (k := 10) rfl ?_
    generalize hB : AHeap.bump (AHeap.bump H0 8) 2 = HB
    have hBm : HB.m = H0.m := by rw [← hB]; rfl
    have hBn : HB.next = H0.next + 10 := by rw [← hB]; rfl
    have hBg : ∀ k, HB.get k = H0.get k := fun k => by unfold AHeap.get; rw [hBm]
    have hcB : ∀ k, H0.next ≤ k → HB.get k = none := fun k hk => (hBg k).trans (hcl k hk)
    have u8 : ∀ k, (HB.bump 10).get k = H0.get k := hBg
    repeat' (first | refine WK.seq ?_ | refine WK.skip ?_ | refine WK.ret ?_ | refine WK.exit ?_ | refine WK.block ?_ | (apply WK.reg; (· exact lnn)) | (apply WK.regC; (· rfl); (· exact lnn); (· decide)) | (apply WK.regd0; (· exact lnn)) | refine WKT.nil ?_ | refine WKC.nil ?_ | refine WKO.nil ?_ | ((first | apply WKT.op | apply WKC.op | apply WKO.op | ((first | apply WKC.gop | apply WKO.gop); (· rfl); (· exact dcd))); (· first | exact k_mv rfl | (apply k_ldX; (· rfl); (· first | exact (u8 _).trans g8 | exact (u8 _).trans g5 | exact (u8 _).trans g10); (· rfl)) | (apply k_lookX; (· rfl); (· rfl); (· exact (u8 _).trans e3); (· exact key16 hi); (· exact f4); (· exact hV)) | exact opA); (· rfl)) | ((first | apply WKC.gnoT | apply WKO.gnoT | apply WKC.gnoF | apply WKO.gnoF); (· rfl); (· exact dcd)) | ((first | apply WKC.gnu | apply WKO.gnu); (· rfl)) | ((first | apply WKC.gsp | apply WKO.gsp); (· rfl); all_goals ((fail_if_success (refine known ?_ ?_; (· assumption))); intro _)) | ((first | apply WKC.gspB | apply WKO.gspB); (· rfl); all_goals ((fail_if_success (refine known ?_ ?_; (· assumption))); intro _)) | refine pN ?_ | refine pR ?_ | refine pX ?_ | refine bN ?_ | refine bR ?_ | refine bX ?_ | refine bO (by decide) ?_ | (apply WK.condT; (· rfl); (· exact dcd)) | (apply WK.condF; (· rfl); (· exact dcd)) | (apply WK.condD; (· rfl); all_goals intro _) | (apply WK.condN; (· rfl); all_goals intro _) | (apply WK.condB; (· rfl); all_goals intro _))
    refine WKT.callV rfl rfl rfl (h72 _ _ _ _ (b1.frame (H' := HB.bump 10) (by simp only [next_bump]; omega) (fun k _ => u8 k)) (by omega)) ?_
    rintro X H2 ⟨hX, hm2, hn2⟩
    have hg2 : ∀ k, H2.get k = H0.get k := fun k => by unfold AHeap.get; rw [hm2]; exact u8 k
    have hn2' : HB.next + 10 ≤ H2.next := hn2
    repeat' (first | refine WK.seq ?_ | refine WK.skip ?_ | refine WK.ret ?_ | refine WK.exit ?_ | refine WK.block ?_ | (apply WK.reg; (· exact lnn)) | (apply WK.regC; (· rfl); (· exact lnn); (· decide)) | (apply WK.regd0; (· exact lnn)) | refine WKT.nil ?_ | refine WKC.nil ?_ | refine WKO.nil ?_ | ((first | apply WKT.op | apply WKC.op | apply WKO.op | ((first | apply WKC.gop | apply WKO.gop); (· rfl); (· exact dcd))); (· first | exact k_mv rfl | exact opA); (· rfl)) | ((first | apply WKC.gnoT | apply WKO.gnoT | apply WKC.gnoF | apply WKO.gnoF); (· rfl); (· exact dcd)) | ((first | apply WKC.gnu | apply WKO.gnu); (· rfl)) | ((first | apply WKC.gsp | apply WKO.gsp); (· rfl); all_goals ((fail_if_success (refine known ?_ ?_; (· assumption))); intro _)) | ((first | apply WKC.gspB | apply WKO.gspB); (· rfl); all_goals ((fail_if_success (refine known ?_ ?_; (· assumption))); intro _)) | refine pN ?_ | refine pR ?_ | refine pX ?_ | refine bN ?_ | refine bR ?_ | refine bX ?_ | refine bO (by decide) ?_ | (apply WK.condT; (· rfl); (· exact dcd)) | (apply WK.condF; (· rfl); (· exact dcd)) | (apply WK.condD; (· rfl); all_goals intro _) | (apply WK.condN; (· rfl); all_goals intro _) | (apply WK.condB; (· rfl); all_goals intro _))
    obtain ⟨H3, hH3⟩ : ∃ H3, H2.set (HB.next + 7) (some (.cells [CS] none)) = H3 := ⟨_, rfl⟩
    have hg3 : ∀ k, k ≠ HB.next + 7 → H3.get k = H0.get k := fun k hk => by rw [← hH3, AHeap.get_set, if_neg hk, hg2]
    have hn3 : H3.next = H2.next := by rw [← hH3]; rfl
    have hN3 : H3.get (HB.next + 7) = some (.cells [CS] none) := by rw [← hH3, AHeap.get_set, if_pos rfl]
    have hCc : CS.cells = [CS] := row_cells hC
    have hC1 : CS.oneCell = true := row_own1 hC
    refine WKT.op (v := .sl (HB.next + 7) 0 1 1) (H1 := H3) (by rw [← hH3]; exact k_bs1 rfl hCc) rfl ?_
    have hXn : ∀ k, X.own = some k → k ≠ HB.next + 7 := fun k hk e => by
      obtain ⟨_, ⟨rfl, _⟩ | ⟨i, full, opn, rfl, q, _⟩⟩ := hX
      · cases hk
      · cases hk
        rw [e, u8, hcl _ (by omega)] at q
        cases q
    have hXc : Clp 1 H3 X (lookW W inf).length cb := (hX.frame (H' := H3) (fun k hk => by rw [hg3 k (hXn k hk), u8]))
    obtain ⟨H4, hH4⟩ : ∃ H4, H3.add (.cells (cb ++ [CS]) (some 1)) = H4 := ⟨_, rfl⟩
    have hn4 : H4.next = H3.next + 1 := by rw [← hH4]; rfl
    have hN4 : H4.get H3.next = some (.cells (cb ++ [CS]) (some 1)) := by rw [← hH4, AHeap.get_add, if_pos rfl]
    have hg4 : ∀ k, k ≠ HB.next + 7 → k ≠ H3.next → H4.get k = H0.get k := fun k h1 h2 => by rw [← hH4, AHeap.get_add, if_neg h2, hg3 k h1]
    refine WKT.op (v := .sl H3.next 0 ((lookW W inf).length + 1) openCap) (H1 := H4) (by rw [← hH4]; exact k_appC rfl rfl hXc (by omega) hN3 rfl (by simp [hC1])) rfl ?_
    have hJ4 : H4.get J = some (.map es) := (hg4 J (by omega) (by omega)).trans e1
    obtain ⟨H5, hH5⟩ : ∃ H5, H4.set J (some (.map (es ++ [(sA now, .sl H3.next 0 ((lookW W inf).length + 1) openCap)]))) = H5 := ⟨_, rfl⟩
    have hn5 : H5.next = H4.next := by rw [← hH5]; rfl
    have hg5 : ∀ k, k ≠ J → H5.get k = H4.get k := fun k hk => by rw [← hH5, AHeap.get_set, if_neg hk]
    refine WKT.opn (v := undefA) (H1 := H5) (by rw [← hH5]; exact k_updX rfl rfl rfl hJ4 (key16 hn) (upd16 e2 hF f1)) rfl ?_
    have hless : ∀ (Hq : AHeap) (l : List Nat) (k : Nat), k < H0.next → ((Hq.less HB.next [7]).less HB.next l).get k = Hq.get k := fun Hq l k hk => by rw [less_get (H := Hq) l _ (fun i _ => by omega), less_get (H := Hq) [7] _ (fun i _ => by omega)]
    have hJ5 : H5.get J = some (.map (es ++ [(sA now, .sl H3.next 0 ((lookW W inf).length + 1) openCap)])) := by rw [← hH5, AHeap.get_set, if_pos rfl]
    have hfr : ∀ k, k < H0.next → k ≠ J → H5.get k = H0.get k := fun k hk hkJ => by rw [hg5 k hkJ, hg4 k (by omega) (by omega)]
    have hkr : Kr H0 H5 := Kr.but (by omega) e1 (fun _ _ => nofun) hfr
    refine WKT.nil ⟨?_, ?_, (_, H5), rfl, ?_⟩
    · intro q hq
      simp only [List.mem_cons, List.not_mem_nil, or_false] at hq
      rcases hq with rfl | rfl | rfl | rfl
      · refine ⟨_, _, _, _, .map J, rfl, rfl, rfl, xop_ld rfl ((u8 _).trans g8) rfl, fun j hj => ?_⟩
        have hj' : j = 0 ∨ j = 5 ∨ j = 8 ∨ j = 6 ∨ j = 9 := by simpa using hj
        rcases hj' with rfl | rfl | rfl | rfl | rfl <;>
          exact ⟨_, rfl, xop_ld rfl ((hless _ _ _ l8).trans (by first | exact (u8 _).trans g8 | exact (hg2 _).trans g8 | exact (hg3 _ (by omega)).trans g8 | exact (hg4 _ (by omega) (by omega)).trans g8)) rfl⟩
      · refine ⟨_, _, _, _, .map I, rfl, rfl, rfl, xop_ld rfl ((u8 _).trans g5) rfl, fun j hj => ?_⟩
        have hj' : j = 2 := by simpa using hj
        subst hj'
        exact ⟨_, rfl, xop_ld rfl ((hless _ _ _ l5).trans ((u8 _).trans g5)) rfl⟩
      · refine ⟨_, _, _, _, sA inf, rfl, rfl, rfl, xop_ld rfl ((u8 _).trans g10) rfl, fun j hj => ?_⟩
        have hj' : j = 3 := by simpa using hj
        subst hj'
        exact ⟨_, rfl, xop_ld rfl ((hless _ _ _ l10).trans ((u8 _).trans g10)) rfl⟩
      · refine ⟨_, _, _, _, _, rfl, rfl, rfl, xop_look rfl rfl ((u8 _).trans e3) (key16 hi) f4, fun j hj => ?_⟩
        have hj' : j = 4 := by simpa using hj
        subst hj'
        exact ⟨_, rfl, xop_look rfl rfl ((hless _ _ _ lI).trans ((u8 _).trans e3)) (key16 hi) f4⟩
    · intro j hj
      have hj' : j = 7 := by simpa using hj
      subst hj'
      refine ⟨_, rfl, rfl, fun i hi => ?_⟩
      have hi' : i = 0 ∨ i = 1 ∨ i = 2 ∨ i = 3 ∨ i = 4 ∨ i = 5 ∨ i = 6 ∨ i = 7 := by omega
      rcases hi' with rfl | rfl | rfl | rfl | rfl | rfl | rfl | rfl <;>
        exact ⟨_, rfl, by first | exact (u8 _).trans (hcl _ (by omega)) | exact (hg2 _).trans (hcl _ (by omega))⟩
    · dsimp only
      refine ⟨nofun, _, rfl, rfl, ⟨_, hJ5, ?_⟩, by omega, hfr⟩
      rw [addF, if_neg (fun q => by rw [f1] at q; cases q)]
      refine (e2.kr hkr).add ?_
      have hcb : cb.length = (lookW W inf).length := by have := b1.1; omega
      have hCr : Row 2 H5 CS cs.length (prsC cs) := Row.kr hC hkr
      refine RRw.add (X := CS) hcb (fun i l hl => ?_) hCr ?_ (by omega)
      · obtain ⟨X', q1, q2⟩ := b2 i l hl
        exact ⟨X', q1, Row.kr q2 hkr⟩
      · rw [hg5 _ (by omega)]; exact hN4
  · repeat' (first | refine WK.seq ?_ | refine WK.skip ?_ | refine WK.ret ?_ | refine WK.exit ?_ | refine WK.block ?_ | (apply WK.reg; (· exact lnn)) | (apply WK.regC; (· rfl); (· exact lnn); (· decide)) | (apply WK.regd0; (· exact lnn)) | refine WKC.nil ?_ | refine WKO.nil ?_ | ((first | apply WKC.op | apply WKO.op | ((first | apply WKC.gop | apply WKO.gop); (· rfl); (· exact dcd))); (· first | exact k_mv rfl | (apply k_ldX; (· rfl); (· exact g8); (· rfl)) | (apply k_lookX; (· rfl); (· rfl); (· exact e1); (· exact key16 hn); (· exact f2); (· rfl)) | exact opA); (· rfl)) | ((first | apply WKC.gnoT | apply WKO.gnoT | apply WKC.gnoF | apply WKO.gnoF); (· rfl); (· exact dcd)) | ((first | apply WKC.gnu | apply WKO.gnu); (· rfl)) | ((first | apply WKC.gsp | apply WKO.gsp); (· rfl); all_goals ((fail_if_success (refine known ?_ ?_; (· assumption))); intro _)) | ((first | apply WKC.gspB | apply WKO.gspB); (· rfl); all_goals ((fail_if_success (refine known ?_ ?_; (· assumption))); intro _)) | refine pN ?_ | refine pR ?_ | refine pX ?_ | refine bN ?_ | refine bR ?_ | refine bX ?_ | refine bO (by decide) ?_ | (apply WK.condT; (· rfl); (· exact dcd)) | (apply WK.condF; (· rfl); (· exact dcd)) | (apply WK.condD; (· rfl); all_goals intro _) | (apply WK.condN; (· rfl); all_goals intro _) | (apply WK.condB; (· rfl); all_goals intro _))
    refine ⟨nofun, _, rfl, rfl, ⟨es, e1, ?_⟩, ?_, fun k _ _ => rfl⟩
    · rw [addF, if_pos f1]
      refine EntF.kr (Kp.kr (Kp.eqm (H := H0) (H' := (H0.bump 8).bump 2) rfl ?_)) e2
      simp only [next_bump]
      omega
    · simp only [next_bump]; omega
end Go.Proofs.Ytpbighinamljbaa.PA
/- The search of a shortest broadcast: all rounds from a set. No condition. -/
set_option linter.unusedSimpArgs false
set_option linter.unusedVariables false
namespace Go.Proofs.Ytpbighinamljbaa.PA
open Go Go.Eng Go.Proofs
/-- A graph in the heap. -/
structure GrH (H : AHeap) (G M m : Nat) (N : List Nat) : Prop where
  g : H.get G = some (.cells [nA m, .sl M 0 m m] none)
  s : H.get M = some (.cells (N.map sA) none)
  lg : G < H.next
  ls : M < H.next
theorem GrH.up {H H' : AHeap} {G M m : Nat} {N : List Nat} (h : GrH H G M m N) (k : Kp H H') : GrH H' G M m N :=
  ⟨(k.2 _ h.lg).trans h.g, (k.2 _ h.ls).trans h.s, Nat.lt_of_lt_of_le h.lg k.1, Nat.lt_of_lt_of_le h.ls k.1⟩
theorem GrH.step {H H' : AHeap} {G M m J : Nat} {N : List Nat} {F : FW} {es : List (AV × AV)} (h : GrH H G M m N) (hJ : H.get J = some (.map es)) (r : AddR H H' J F) : GrH H' G M m N := by
  have n1 : G ≠ J := fun q => by have := h.g; rw [q, hJ] at this; cases this
  have n2 : M ≠ J := fun q => by have := h.s; rw [q, hJ] at this; cases this
  exact ⟨(r.fr _ h.lg n1).trans h.g, (r.fr _ h.ls n2).trans h.s, Nat.lt_of_lt_of_le h.lg r.nx, Nat.lt_of_lt_of_le h.ls r.nx⟩
theorem outs_lt {N : List Nat} {A : Nat} (hl : N.length ≤ 10) : ∀ (s v now : Nat) (cs : Prs), now < 1024 → ∀ p ∈ outs N A s v now cs, p.1 < 1024
  | 0, v, now, cs, h, p, hp => by
    have : p = (now, cs) := by simpa [outs] using hp
    subst this; exact h
  | s + 1, v, now, cs, h, p, hp => by
    rw [outs] at hp
    split at hp
    · split at hp
      · exact outs_lt hl s _ _ _ h p hp
      · obtain ⟨w, hw, hp⟩ := List.mem_flatMap.1 hp
        have hw := (gws_mem.1 hw).1
        exact outs_lt hl s _ _ _ (or10 h (pow10 (by omega))) p hp
    · exact outs_lt hl s _ _ _ h p hp
theorem foldA_lt {base : List Prs} {l : List (Nat × Prs)} {F : FW} (hF : ∀ p ∈ F, p.1 < 1024) (hl : ∀ p ∈ l, p.1 < 1024) : ∀ p ∈ l.foldl (addF base) F, p.1 < 1024 := fun p hp => by
  rcases foldA_mem l F p hp with h | ⟨q, hq, rfl⟩
  · exact hF p h
  · exact hl q hq
theorem AddR.refl {H H' : AHeap} {b8 b5 b10 J I inf : Nat} {F W : FW} (h : AddC H b8 b5 b10 J I inf F W) (k : Kp H H') : AddR H H' J F := by
  obtain ⟨es, e1, e2⟩ := h.eJ
  exact ⟨⟨es, (k.2 _ h.lJ).trans e1, e2.kr k.kr⟩, k.1, fun j hj _ => k.2 j hj⟩
theorem AddR.trans {H H' H2 : AHeap} {J : Nat} {F F' : FW} (h : AddR H H' J F) (g : AddR H' H2 J F') : AddR H H2 J F' :=
  ⟨g.e, Nat.le_trans h.nx g.nx, fun k hk hJ => (g.fr k (Nat.lt_of_lt_of_le hk h.nx) hJ).trans (h.fr k hk hJ)⟩
theorem AddR.pre {H H' H2 : AHeap} {J : Nat} {F : FW} (h : Kp H H') (g : AddR H' H2 J F) : AddR H H2 J F :=
  ⟨g.e, Nat.le_trans h.1 g.nx, fun k hk hJ => (g.fr k (Nat.lt_of_lt_of_le hk h.1) hJ).trans (h.2 k hk)⟩
theorem AddR.up {H H' H2 : AHeap} {J : Nat} {F : FW} (h : AddR H H' J F) (hm : H2.m = H'.m) (hn : H'.next ≤ H2.next) (hlt : J < H'.next) : AddR H H2 J F := by
  obtain ⟨es, e1, e2⟩ := h.e
  have hg : ∀ k, H2.get k = H'.get k := fun k => by unfold AHeap.get; rw [hm]
  exact ⟨⟨es, (hg _).trans e1, e2.kr (Kp.kr (Kp.eqm hm hn))⟩, Nat.le_trans h.nx hn, fun k hk hJ => (hg k).trans (h.fr k hk hJ)⟩
theorem clean_eqm {H H' : AHeap} (h : Go.Eng.Clean H) (hm : H'.m = H.m) (hn : H.next ≤ H'.next) : Go.Eng.Clean H' := fun j hj => by
  have : H'.get j = H.get j := by unfold AHeap.get; rw [hm]
  rw [this]
  exact h j (Nat.le_trans hn hj)
/-- All rounds from a set, from a vertex on. -/
def K70 (cf : CF) (N : List Nat) (m G M b8 b5 b10 J I inf : Nat) (W : FW) (v : Nat) : Prop :=
  ∀ (H : AHeap) (now : Nat) (cs : Prs) (CS : AV) (F : FW), Go.Eng.Clean H → AddC H b8 b5 b10 J I inf F W → GrH H G M m N → Row 2 H CS cs.length (prsC cs) → now < 1024 → (∀ p ∈ F, p.1 < 1024) → cs.length ≤ v →
    ∃ u H', cf 70 [.ptr G 0, sA inf, sA now, nA v, CS, .fn 71 [.ptr b8 0, .ptr b5 0, .ptr b10 0]] H = some (u, H') ∧ u = .tup [] ∧ AddR H H' J ((outs N inf (m - v) v now cs).foldl (addF (lookW W inf)) F)
/-- Whom a vertex can call, below some number. -/
def gwu (N : List Nat) (v now w : Nat) : List Nat := (List.range w).filter fun w => bt (sdiff (N.getD v 0) now) w
theorem gwu_succ (N : List Nat) (v now w : Nat) : gwu N v now (w + 1) = gwu N v now w ++ if bt (sdiff (N.getD v 0) now) w = true then [w] else [] := by
  unfold gwu
  rw [List.range_succ, List.filter_append]
  congr 1
  rw [List.filter_cons, List.filter_nil]
theorem sdiff_lt {a b n : Nat} (h : a < n) : sdiff a b < n := Nat.lt_of_le_of_lt (sdiff_le a b) h
set_option maxHeartbeats 2000000 in
theorem x70 {cf : CF} {fuel m G M b8 b5 b10 J I inf now v : Nat} {N : List Nat} {F W : FW} {H0 : AHeap} {CS : AV} {cs : Prs} (hNl : N.length = m) (hm : m ≤ 10) (hNt : ∀ c ∈ N, c < 1024) (hfu : 20 < fuel) (hcc : CleanCF cf)
    (hcl : Go.Eng.Clean H0) (h : AddC H0 b8 b5 b10 J I inf F W) (hg : GrH H0 G M m N) (hC : Row 2 H0 CS cs.length (prsC cs)) (hnow : now < 1024) (hF : ∀ p ∈ F, p.1 < 1024) (hcs : cs.length ≤ v) (hv : v ≤ m) (hi : inf < 1024)
    (h64 : ∀ H m i, m < 1024 → i < 10 → cf 64 [sA m, nA i] H = some (.bool (m.testBit i), H))
    (h82 : ∀ H v m cs, Row 2 H v m cs → m < 1048576 → ∃ u H', cf 82 [v] H = some (u, H') ∧ ClipR 2 H m cs u H')
    (h71 : ∀ H now cs CS F, Go.Eng.Clean H → AddC H b8 b5 b10 J I inf F W → (∀ p ∈ F, p.1 < 1024) → now < 1024 → Row 2 H CS cs.length (prsC cs) → ∃ u H', cf 71 [sA now, CS, .ptr b8 0, .ptr b5 0, .ptr b10 0] H = some (u, H') ∧ u = .tup [] ∧ AddR H H' J (addF (lookW W inf) F (now, cs)))
    (h70 : ∀ v', v < v' → v' ≤ m → K70 cf N m G M b8 b5 b10 J I inf W v') :
    ∃ u H', xfunc cf fuel L70 [.ptr G 0, sA inf, sA now, nA v, CS, .fn 71 [.ptr b8 0, .ptr b5 0, .ptr b10 0]] H0 = some (u, H') ∧ u = .tup [] ∧ AddR H0 H' J ((outs N inf (m - v) v now cs).foldl (addF (lookW W inf)) F) := by
  refine xfunc_ofK rfl (by show 6 ≤ 83; omega) ?_
  have hgm : ∀ {H : AHeap}, H.m = H0.m → ∀ k, H.get k = H0.get k := fun h k => by unfold AHeap.get; rw [h]
  unfold L70
  dsimp only
  refine WK.cut (α := Nat) (fun v' => [(0, .ptr G 0), (1, sA inf), (2, sA now), (3, nA v'), (4, CS), (5, .fn 71 [.ptr b8 0, .ptr b5 0, .ptr b10 0])]) (fun v' H => v ≤ v' ∧ v' ≤ m ∧ (v' < m → bt inf v' = true) ∧ outs N inf (m - v') v' now cs = outs N inf (m - v) v now cs ∧ H.m = H0.m ∧ H0.next ≤ H.next) ?_ ?_
  · repeat' (first | refine WK.seq ?_ | refine WK.skip ?_ | refine WK.ret ?_ | refine WK.exit ?_ | refine WK.block ?_ | (apply WK.reg; (· exact lnn)) | (apply WK.regC; (· rfl); (· exact lnn); (· decide)) | (apply WK.regd0; (· exact lnn)) | refine WKC.nil ?_ | refine WKO.nil ?_ | ((first | apply WKC.op | apply WKO.op | ((first | apply WKC.gop | apply WKO.gop); (· rfl); (· exact dcd))); (· first | exact k_mv rfl | exact opA); (· rfl)) | ((first | apply WKC.gnoT | apply WKO.gnoT | apply WKC.gnoF | apply WKO.gnoF); (· rfl); (· exact dcd)) | ((first | apply WKC.gnu | apply WKO.gnu); (· rfl)) | ((first | apply WKC.gsp | apply WKO.gsp); (· rfl); all_goals ((fail_if_success (refine known ?_ ?_; (· assumption))); intro _)) | ((first | apply WKC.gspB | apply WKO.gspB); (· rfl); all_goals ((fail_if_success (refine known ?_ ?_; (· assumption))); intro _)) | refine pN ?_ | refine pR ?_ | refine pX ?_ | refine bN ?_ | refine bR ?_ | refine bX ?_ | refine bO (by decide) ?_ | (apply WK.condT; (· rfl); (· exact dcd)) | (apply WK.condF; (· rfl); (· exact dcd)) | (apply WK.condD; (· rfl); all_goals intro _) | (apply WK.condN; (· rfl); all_goals intro _) | (apply WK.condB; (· rfl); all_goals intro _))
    refine WK.loop (α := Nat) (fun v' => [(0, .ptr G 0), (1, sA inf), (2, sA now), (3, nA v'), (4, CS), (5, .fn 71 [.ptr b8 0, .ptr b5 0, .ptr b10 0])]) (fun v' H => v ≤ v' ∧ v' ≤ m ∧ outs N inf (m - v') v' now cs = outs N inf (m - v) v now cs ∧ H.m = H0.m ∧ H0.next ≤ H.next) (fun v' => m - v') v (.cons rfl <| .cons rfl <| .cons rfl <| .cons rfl <| .cons rfl <| .cons rfl <| .nil _) ⟨Nat.le_refl _, hv, rfl, rfl, Nat.le_refl _⟩ (by omega) ?_
    rintro v' H ⟨a1, a2, a3, a4, a5⟩
    have hgG := (hgm a4 G).trans hg.g
    by_cases hvm : v' < m
    · repeat' (first | refine WK.seq ?_ | refine WK.skip ?_ | refine WK.ret ?_ | refine WK.exit ?_ | refine WK.block ?_ | (apply WK.reg; (· exact lnn)) | (apply WK.regC; (· rfl); (· exact lnn); (· decide)) | (apply WK.regd0; (· exact lnn)) | refine WKC.nil ?_ | refine WKO.nil ?_ | ((first | apply WKC.op | apply WKO.op | ((first | apply WKC.gop | apply WKO.gop); (· rfl); (· exact dcd))); (· first | exact k_mv rfl | (apply k_ldX; (· rfl); (· exact hgG); (· rfl)) | exact k_nilc rfl | exact k_faddr rfl | exact k_bt64 h64 rfl rfl hi (by omega) | exact opA); (· rfl)) | ((first | apply WKC.gnoT | apply WKO.gnoT | apply WKC.gnoF | apply WKO.gnoF); (· rfl); (· exact dcd)) | ((first | apply WKC.gnu | apply WKO.gnu); (· rfl)) | ((first | apply WKC.gsp | apply WKO.gsp); (· rfl); all_goals ((fail_if_success (refine known ?_ ?_; (· assumption))); intro _)) | ((first | apply WKC.gspB | apply WKO.gspB); (· rfl); all_goals ((fail_if_success (refine known ?_ ?_; (· assumption))); intro _)) | refine pN ?_ | refine pR ?_ | refine pX ?_ | refine bN ?_ | refine bR ?_ | refine bX ?_ | refine bO (by decide) ?_ | (apply WK.condT; (· rfl); (· exact dcd)) | (apply WK.condF; (· rfl); (· exact dcd)) | (apply WK.condD; (· rfl); all_goals intro _) | (apply WK.condN; (· rfl); all_goals intro _) | (apply WK.condB; (· rfl); all_goals intro _))
      · rename_i hb
        refine ⟨v' + 1, (.cons rfl <| .cons rfl <| .cons rfl <| .cons rfl <| .cons rfl <| .cons rfl <| .nil _), ⟨by omega, by omega, ?_, a4, by simp only [next_bump]; omega⟩, by omega⟩
        rw [← a3, show m - v' = m - (v' + 1) + 1 by omega, outs, if_neg (by rw [hb]; decide)]
      · rename_i hb
        exact ⟨v', (.cons rfl <| .cons rfl <| .cons rfl <| .cons rfl <| .cons rfl <| .cons rfl <| .nil _), by omega, by omega, fun _ => hb, a3, a4, by simp only [next_bump]; omega⟩
    · repeat' (first | refine WK.seq ?_ | refine WK.skip ?_ | refine WK.ret ?_ | refine WK.exit ?_ | refine WK.block ?_ | (apply WK.reg; (· exact lnn)) | (apply WK.regC; (· rfl); (· exact lnn); (· decide)) | (apply WK.regd0; (· exact lnn)) | refine WKC.nil ?_ | refine WKO.nil ?_ | ((first | apply WKC.op | apply WKO.op | ((first | apply WKC.gop | apply WKO.gop); (· rfl); (· exact dcd))); (· first | exact k_mv rfl | (apply k_ldX; (· rfl); (· exact hgG); (· rfl)) | exact k_nilc rfl | exact k_faddr rfl | exact k_bt64 h64 rfl rfl hi (by omega) | exact opA); (· rfl)) | ((first | apply WKC.gnoT | apply WKO.gnoT | apply WKC.gnoF | apply WKO.gnoF); (· rfl); (· exact dcd)) | ((first | apply WKC.gnu | apply WKO.gnu); (· rfl)) | ((first | apply WKC.gsp | apply WKO.gsp); (· rfl); all_goals ((fail_if_success (refine known ?_ ?_; (· assumption))); intro _)) | ((first | apply WKC.gspB | apply WKO.gspB); (· rfl); all_goals ((fail_if_success (refine known ?_ ?_; (· assumption))); intro _)) | refine pN ?_ | refine pR ?_ | refine pX ?_ | refine bN ?_ | refine bR ?_ | refine bX ?_ | refine bO (by decide) ?_ | (apply WK.condT; (· rfl); (· exact dcd)) | (apply WK.condF; (· rfl); (· exact dcd)) | (apply WK.condD; (· rfl); all_goals intro _) | (apply WK.condN; (· rfl); all_goals intro _) | (apply WK.condB; (· rfl); all_goals intro _))
      exact ⟨v', (.cons rfl <| .cons rfl <| .cons rfl <| .cons rfl <| .cons rfl <| .cons rfl <| .nil _), by omega, by omega, fun q => absurd q hvm, a3, a4, by simp only [next_bump]; omega⟩
  · rintro v' H ⟨a1, a2, a3, a4, a5, a6⟩
    have hgG := (hgm a5 G).trans hg.g
    rw [← a4]
    have hkp : ∀ {H' : AHeap}, H'.m = H.m → H.next ≤ H'.next → Kp H0 H' := fun q1 q2 => Kp.eqm (q1.trans a5) (Nat.le_trans a6 q2)
    have hcH : ∀ {H' : AHeap}, H'.m = H.m → H.next ≤ H'.next → Go.Eng.Clean H' := fun q1 q2 => clean_eqm hcl (q1.trans a5) (Nat.le_trans a6 q2)
    by_cases hvm : v' = m
    · subst hvm
      have c71 : ∀ {H' : AHeap}, H'.m = H.m → H.next ≤ H'.next → ∃ u H'', cf 71 [sA now, CS, .ptr b8 0, .ptr b5 0, .ptr b10 0] H' = some (u, H'') ∧ u = .tup [] ∧ AddR H' H'' J (addF (lookW W inf) F (now, cs)) := fun q1 q2 =>
        h71 _ now cs CS F (hcH q1 q2) (h.up (hkp q1 q2)) hF hnow (Row.kr hC (hkp q1 q2).kr)
      repeat' (first | refine WK.seq ?_ | refine WK.skip ?_ | refine WK.ret ?_ | refine WK.exit ?_ | refine WK.block ?_ | (apply WK.reg; (· exact lnn)) | (apply WK.regC; (· rfl); (· exact lnn); (· decide)) | (apply WK.regd0; (· exact lnn)) | (refine WKO.callV rfl rfl rfl (c71 (by rfl) (by simp only [next_bump]; omega)) ?_; rintro _ _ ⟨rfl, _⟩) | refine WKC.nil ?_ | refine WKO.nil ?_ | ((first | apply WKC.op | apply WKO.op | ((first | apply WKC.gop | apply WKO.gop); (· rfl); (· exact dcd))); (· first | exact k_mv rfl | (apply k_ldX; (· rfl); (· exact hgG); (· rfl)) | exact k_nilc rfl | exact k_faddr rfl | exact opA); (· rfl)) | ((first | apply WKC.gnoT | apply WKO.gnoT | apply WKC.gnoF | apply WKO.gnoF); (· rfl); (· exact dcd)) | ((first | apply WKC.gnu | apply WKO.gnu); (· rfl)) | ((first | apply WKC.gsp | apply WKO.gsp); (· rfl); all_goals ((fail_if_success (refine known ?_ ?_; (· assumption))); intro _)) | ((first | apply WKC.gspB | apply WKO.gspB); (· rfl); all_goals ((fail_if_success (refine known ?_ ?_; (· assumption))); intro _)) | refine pN ?_ | refine pR ?_ | refine pX ?_ | refine bN ?_ | refine bR ?_ | refine bX ?_ | refine bO (by decide) ?_ | (apply WK.condT; (· rfl); (· exact dcd)) | (apply WK.condF; (· rfl); (· exact dcd)) | (apply WK.condD; (· rfl); all_goals intro _) | (apply WK.condN; (· rfl); all_goals intro _) | (apply WK.condB; (· rfl); all_goals intro _))
      rename_i H2 hr
      refine ⟨nofun, _, rfl, rfl, ?_⟩
      rw [Nat.sub_self]
      exact AddR.pre (hkp (by rfl) (by simp only [next_bump]; omega)) hr
    · have hvb := a3 (by omega)
      repeat' (first | refine WK.seq ?_ | refine WK.skip ?_ | refine WK.ret ?_ | refine WK.exit ?_ | refine WK.block ?_ | (apply WK.reg; (· exact lnn)) | (apply WK.regC; (· rfl); (· exact lnn); (· decide)) | (apply WK.regd0; (· exact lnn)) | refine WKC.nil ?_ | refine WKO.nil ?_ | ((first | apply WKC.op | apply WKO.op | ((first | apply WKC.gop | apply WKO.gop); (· rfl); (· exact dcd))); (· first | exact k_mv rfl | (apply k_ldX; (· rfl); (· exact hgG); (· rfl)) | exact k_nilc rfl | exact k_faddr rfl | exact opA); (· rfl)) | ((first | apply WKC.gnoT | apply WKO.gnoT | apply WKC.gnoF | apply WKO.gnoF); (· rfl); (· exact dcd)) | ((first | apply WKC.gnu | apply WKO.gnu); (· rfl)) | ((first | apply WKC.gsp | apply WKO.gsp); (· rfl); all_goals ((fail_if_success (refine known ?_ ?_; (· assumption))); intro _)) | ((first | apply WKC.gspB | apply WKO.gspB); (· rfl); all_goals ((fail_if_success (refine known ?_ ?_; (· assumption))); intro _)) | refine pN ?_ | refine pR ?_ | refine pX ?_ | refine bN ?_ | refine bR ?_ | refine bX ?_ | refine bO (by decide) ?_ | (apply WK.condT; (· rfl); (· exact dcd)) | (apply WK.condF; (· rfl); (· exact dcd)) | (apply WK.condD; (· rfl); all_goals intro _) | (apply WK.condN; (· rfl); all_goals intro _) | (apply WK.condB; (· rfl); all_goals intro _))
      have hlJ := h.lJ
      obtain ⟨es0, hJ0, _⟩ := h.eJ
      refine WK.loop (α := Nat × FW) (fun p => [(0, .ptr G 0), (1, sA inf), (2, sA now), (3, nA v'), (4, CS), (5, .fn 71 [.ptr b8 0, .ptr b5 0, .ptr b10 0]), (12, .bool (gwu N v' now p.1).isEmpty), (41, nA m), (42, nA p.1)])
        (fun p H => p.1 ≤ m ∧ p.2 = ((gwu N v' now p.1).flatMap fun u => outs N inf (m - (v' + 1)) (v' + 1) (now ||| 2 ^ u) (cs ++ [(v', u)])).foldl (addF (lookW W inf)) F ∧ AddR H0 H J p.2 ∧ Go.Eng.Clean H) (fun p => m - p.1) (0, F) (.cons rfl <| .cons rfl <| .cons rfl <| .cons rfl <| .cons rfl <| .cons rfl <| .cons rfl <| .cons rfl <| .cons rfl <| .nil _)
        ⟨Nat.zero_le _, rfl, AddR.refl h (hkp (by rfl) (by simp only [next_bump]; omega)), hcH (by rfl) (by simp only [next_bump]; omega)⟩ (by dsimp only; omega) ?_
      clear hgG hkp hcH
      rintro ⟨w, F'⟩ H ⟨b1, b2, b3, b4⟩
      dsimp only at b1 b2 b3 b4 ⊢
      have hgr := hg.step hJ0 b3
      have hgG := hgr.g
      have hgM := hgr.s
      have hnx := b3.nx
      have hF' : ∀ p ∈ F', p.1 < 1024 := by
        rw [b2]
        refine foldA_lt hF fun p hp => ?_
        obtain ⟨u, hu, hp⟩ := List.mem_flatMap.1 hp
        have hu' : u < w := by
          unfold gwu at hu
          exact List.mem_range.1 (List.mem_filter.1 hu).1
        exact outs_lt (by omega) _ _ _ _ (or10 hnow (pow10 (by omega))) p hp
      by_cases hw : w < m
      · have hs := gwu_succ N v' now w
        repeat' (first | refine WK.seq ?_ | refine WK.skip ?_ | refine WK.ret ?_ | refine WK.exit ?_ | refine WK.block ?_ | (apply WK.reg; (· exact lnn)) | (apply WK.regC; (· rfl); (· exact lnn); (· decide)) | (apply WK.regd0; (· exact lnn)) | refine WKC.nil ?_ | refine WKO.nil ?_ | ((first | apply WKC.op | apply WKO.op | ((first | apply WKC.gop | apply WKO.gop); (· rfl); (· exact dcd))); (· first | exact k_mv rfl | (apply k_ldX; (· rfl); (· exact hgG); (· rfl)) | (apply k_ldX; (· rfl); (· exact hgM); (· exact map_at (by omega))) | exact k_ia1s rfl rfl (by omega) | exact k_nilc rfl | exact k_faddr rfl | exact k_dif16 rfl rfl (getD_lt10 hNt _) hnow | exact k_bt64 h64 rfl rfl (sdiff_lt (getD_lt10 hNt _)) (by omega) | exact opA); (· rfl)) | ((first | apply WKC.gnoT | apply WKO.gnoT | apply WKC.gnoF | apply WKO.gnoF); (· rfl); (· exact dcd)) | ((first | apply WKC.gnu | apply WKO.gnu); (· rfl)) | ((first | apply WKC.gsp | apply WKO.gsp); (· rfl); all_goals ((fail_if_success (refine known ?_ ?_; (· assumption))); intro _)) | ((first | apply WKC.gspB | apply WKO.gspB); (· rfl); all_goals ((fail_if_success (refine known ?_ ?_; (· assumption))); intro _)) | refine pN ?_ | refine pR ?_ | refine pX ?_ | refine bN ?_ | refine bR ?_ | refine bX ?_ | refine bO (by decide) ?_ | (apply WK.condT; (· rfl); (· exact dcd)) | (apply WK.condF; (· rfl); (· exact dcd)) | (apply WK.condD; (· rfl); all_goals intro _) | (apply WK.condN; (· rfl); all_goals intro _) | (apply WK.condB; (· rfl); all_goals intro _))
        · rename_i hb
          have hs1 : gwu N v' now (w + 1) = gwu N v' now w ++ [w] := by rw [hs, if_pos hb]
          have hne : (gwu N v' now (w + 1)).isEmpty = false := by rw [hs1]; simp
          refine WK.regT (k := 17) rfl ?_
          generalize hB : AHeap.bump _ 1 = HB
          have hBm : HB.m = H.m := by rw [← hB]; rfl
          have hBn : H.next ≤ HB.next := by rw [← hB]; simp only [next_bump]; omega
          clear hB
          have hBg : ∀ k, (HB.bump 17).get k = H.get k := fun k => by
            show HB.m.get k = _
            rw [hBm]
            rfl
          have hcB : ∀ k, H.next ≤ k → (HB.bump 17).get k = none := fun k hk => (hBg k).trans (b4 k hk)
          have hkB : Kp H (HB.bump 17) := ⟨by simp only [next_bump]; omega, fun k _ => hBg k⟩
          have hCr : Row 2 (HB.bump 17) CS cs.length (prsC cs) := Row.kr hC ((b3.kr h).trans hkB.kr)
          repeat' (first | refine WK.seq ?_ | refine WK.skip ?_ | refine WK.ret ?_ | refine WK.exit ?_ | refine WK.block ?_ | (apply WK.reg; (· exact lnn)) | (apply WK.regC; (· rfl); (· exact lnn); (· decide)) | (apply WK.regd0; (· exact lnn)) | refine WKT.nil ?_ | refine WKC.nil ?_ | refine WKO.nil ?_ | ((first | apply WKT.op | apply WKC.op | apply WKO.op | ((first | apply WKC.gop | apply WKO.gop); (· rfl); (· exact dcd))); (· first | exact k_mv rfl | exact k_shl16 rfl rfl (by omega) | exact k_or16 rfl rfl hnow (pow10 (by omega)) | exact opA); (· rfl)) | ((first | apply WKC.gnoT | apply WKO.gnoT | apply WKC.gnoF | apply WKO.gnoF); (· rfl); (· exact dcd)) | ((first | apply WKC.gnu | apply WKO.gnu); (· rfl)) | ((first | apply WKC.gsp | apply WKO.gsp); (· rfl); all_goals ((fail_if_success (refine known ?_ ?_; (· assumption))); intro _)) | ((first | apply WKC.gspB | apply WKO.gspB); (· rfl); all_goals ((fail_if_success (refine known ?_ ?_; (· assumption))); intro _)) | refine pN ?_ | refine pR ?_ | refine pX ?_ | refine bN ?_ | refine bR ?_ | refine bX ?_ | refine bO (by decide) ?_ | (apply WK.condT; (· rfl); (· exact dcd)) | (apply WK.condF; (· rfl); (· exact dcd)) | (apply WK.condD; (· rfl); all_goals intro _) | (apply WK.condN; (· rfl); all_goals intro _) | (apply WK.condB; (· rfl); all_goals intro _))
          refine WKT.callV rfl rfl rfl (h82 _ _ _ _ hCr (by omega)) ?_
          rintro X H2 ⟨hX, hm2, hn2⟩
          have hg2 : ∀ k, H2.get k = H.get k := fun k => (show H2.m.get k = _ by rw [hm2]; exact hBg k)
          have hn2' : HB.next + 17 ≤ H2.next := hn2
          repeat' (first | refine WK.seq ?_ | refine WK.skip ?_ | refine WK.ret ?_ | refine WK.exit ?_ | refine WK.block ?_ | (apply WK.reg; (· exact lnn)) | (apply WK.regC; (· rfl); (· exact lnn); (· decide)) | (apply WK.regd0; (· exact lnn)) | refine WKT.nil ?_ | refine WKC.nil ?_ | refine WKO.nil ?_ | ((first | apply WKT.op | apply WKC.op | apply WKO.op | ((first | apply WKC.gop | apply WKO.gop); (· rfl); (· exact dcd))); (· first | exact k_mv rfl | exact opA); (· rfl)) | ((first | apply WKC.gnoT | apply WKO.gnoT | apply WKC.gnoF | apply WKO.gnoF); (· rfl); (· exact dcd)) | ((first | apply WKC.gnu | apply WKO.gnu); (· rfl)) | ((first | apply WKC.gsp | apply WKO.gsp); (· rfl); all_goals ((fail_if_success (refine known ?_ ?_; (· assumption))); intro _)) | ((first | apply WKC.gspB | apply WKO.gspB); (· rfl); all_goals ((fail_if_success (refine known ?_ ?_; (· assumption))); intro _)) | refine pN ?_ | refine pR ?_ | refine pX ?_ | refine bN ?_ | refine bR ?_ | refine bX ?_ | refine bO (by decide) ?_ | (apply WK.condT; (· rfl); (· exact dcd)) | (apply WK.condF; (· rfl); (· exact dcd)) | (apply WK.condD; (· rfl); all_goals intro _) | (apply WK.condN; (· rfl); all_goals intro _) | (apply WK.condB; (· rfl); all_goals intro _))
          obtain ⟨H3, hH3⟩ : ∃ H3, H2.set (HB.next + 13) (some (.cells [nA v', nA w] none)) = H3 := ⟨_, rfl⟩
          have hg3 : ∀ k, k ≠ HB.next + 13 → H3.get k = H.get k := fun k hk => by rw [← hH3, AHeap.get_set, if_neg hk, hg2]
          have hn3 : H3.next = H2.next := by rw [← hH3]; rfl
          have hN3 : H3.get (HB.next + 13) = some (.cells [nA v', nA w] none) := by rw [← hH3, AHeap.get_set, if_pos rfl]
          have hc3 : Go.Eng.Clean H3 := fun k hk => by rw [hg3 k (by omega), b4 k (by omega)]
          refine WKT.op (v := .sl (HB.next + 13) 0 1 1) (H1 := H3) (by rw [← hH3]; exact k_bs2 rfl) rfl ?_
          have hXn : ∀ k, X.own = some k → k ≠ HB.next + 13 := fun k hk e => by
            obtain ⟨_, ⟨rfl, _⟩ | ⟨i, full, opn, rfl, q, _⟩⟩ := hX
            · cases hk
            · cases hk
              rw [e, hcB _ (by omega)] at q
              cases q
          have hXc : Clp 2 H3 X cs.length (prsC cs) := (hX.frame (H' := H3) (fun k hk => by rw [hg3 k (hXn k hk), hBg]))
          obtain ⟨H4, hH4⟩ : ∃ H4, H3.add (.cells (prsC cs ++ [nA v', nA w]) (some 2)) = H4 := ⟨_, rfl⟩
          have hn4 : H4.next = H3.next + 1 := by rw [← hH4]; rfl
          have hN4 : H4.get H3.next = some (.cells (prsC (cs ++ [(v', w)])) (some 2)) := by rw [← hH4, AHeap.get_add, if_pos rfl, prsC_app]; rfl
          have hg4 : ∀ k, k ≠ HB.next + 13 → k ≠ H3.next → H4.get k = H.get k := fun k h1 h2 => by rw [← hH4, AHeap.get_add, if_neg h2, hg3 k h1]
          have hc4 : Go.Eng.Clean H4 := by rw [← hH4]; exact (clean_add H3 _).1 hc3
          have hk4 : Kp H H4 := ⟨by omega, fun k hk => hg4 k (by omega) (by omega)⟩
          refine WKT.op (v := .sl H3.next 0 (cs.length + 1) openCap) (H1 := H4) (by rw [← hH4]; exact k_appC rfl rfl hXc (by omega) hN3 rfl rfl) rfl ?_
          have hR4 : Row 2 H4 (.sl H3.next 0 (cs.length + 1) openCap) (cs ++ [(v', w)]).length (prsC (cs ++ [(v', w)])) := by
            have := Row.one hN4 (by omega) (m := (cs ++ [(v', w)]).length) (prsC_len _)
            simpa using this
          repeat' (first | refine WK.seq ?_ | refine WK.skip ?_ | refine WK.ret ?_ | refine WK.exit ?_ | refine WK.block ?_ | (apply WK.reg; (· exact lnn)) | (apply WK.regC; (· rfl); (· exact lnn); (· decide)) | (apply WK.regd0; (· exact lnn)) | refine WKT.nil ?_ | refine WKC.nil ?_ | refine WKO.nil ?_ | ((first | apply WKT.op | apply WKC.op | apply WKO.op | ((first | apply WKC.gop | apply WKO.gop); (· rfl); (· exact dcd))); (· first | exact k_mv rfl | exact opA); (· rfl)) | ((first | apply WKC.gnoT | apply WKO.gnoT | apply WKC.gnoF | apply WKO.gnoF); (· rfl); (· exact dcd)) | ((first | apply WKC.gnu | apply WKO.gnu); (· rfl)) | ((first | apply WKC.gsp | apply WKO.gsp); (· rfl); all_goals ((fail_if_success (refine known ?_ ?_; (· assumption))); intro _)) | ((first | apply WKC.gspB | apply WKO.gspB); (· rfl); all_goals ((fail_if_success (refine known ?_ ?_; (· assumption))); intro _)) | refine pN ?_ | refine pR ?_ | refine pX ?_ | refine bN ?_ | refine bR ?_ | refine bX ?_ | refine bO (by decide) ?_ | (apply WK.condT; (· rfl); (· exact dcd)) | (apply WK.condF; (· rfl); (· exact dcd)) | (apply WK.condD; (· rfl); all_goals intro _) | (apply WK.condN; (· rfl); all_goals intro _) | (apply WK.condB; (· rfl); all_goals intro _))
          have c70 : ∃ u H', cf 70 [.ptr G 0, sA inf, sA (now ||| 2 ^ w), nA (v' + 1), .sl H3.next 0 (cs.length + 1) openCap, .fn 71 [.ptr b8 0, .ptr b5 0, .ptr b10 0]] H4 = some (u, H') ∧ u = .tup [] ∧ AddR H4 H' J ((outs N inf (m - (v' + 1)) (v' + 1) (now ||| 2 ^ w) (cs ++ [(v', w)])).foldl (addF (lookW W inf)) F') ∧ Go.Eng.Clean H' := by
            obtain ⟨u, H', q1, q2, q3⟩ := h70 (v' + 1) (by omega) (by omega) H4 (now ||| 2 ^ w) (cs ++ [(v', w)]) _ F' hc4 ((h.step b3).up hk4) (hgr.up hk4) hR4 (or10 hnow (pow10 (by omega))) hF' (by simp; omega)
            exact ⟨u, H', q1, q2, q3, (hcc _ _ _ _ _ q1).1 hc4⟩
          refine WKT.callV rfl rfl rfl c70 ?_
          rintro _ H5 ⟨rfl, hr5, hc5⟩
          have hnJ : J < H5.next := by have := hr5.nx; omega
          have hfold : (outs N inf (m - (v' + 1)) (v' + 1) (now ||| 2 ^ w) (cs ++ [(v', w)])).foldl (addF (lookW W inf)) F' = ((gwu N v' now (w + 1)).flatMap fun u => outs N inf (m - (v' + 1)) (v' + 1) (now ||| 2 ^ u) (cs ++ [(v', u)])).foldl (addF (lookW W inf)) F := by
            rw [hs1, List.flatMap_append, List.foldl_append, ← b2]
            simp only [List.flatMap_cons, List.flatMap_nil, List.append_nil]
          refine WKT.nil ⟨fun q hq => (by cases hq), ?_, (_, H5), rfl, ?_⟩
          · intro j hj
            have hj' : j = 13 := by simpa using hj
            subst hj'
            refine ⟨_, rfl, rfl, fun i hi => ?_⟩
            have hi' : i = 0 ∨ i = 1 ∨ i = 2 ∨ i = 3 ∨ i = 4 ∨ i = 5 ∨ i = 6 ∨ i = 7 ∨ i = 8 ∨ i = 9 ∨ i = 10 ∨ i = 11 ∨ i = 12 ∨ i = 13 := by omega
            rcases hi' with rfl | rfl | rfl | rfl | rfl | rfl | rfl | rfl | rfl | rfl | rfl | rfl | rfl | rfl <;>
              exact ⟨_, rfl, by first | exact hcB _ (by omega) | exact (hg2 _).trans (b4 _ (by omega))⟩
          · dsimp only
            repeat' (first | refine WK.seq ?_ | refine WK.skip ?_ | refine WK.ret ?_ | refine WK.exit ?_ | refine WK.block ?_ | (apply WK.reg; (· exact lnn)) | (apply WK.regC; (· rfl); (· exact lnn); (· decide)) | (apply WK.regd0; (· exact lnn)) | refine WKC.nil ?_ | refine WKO.nil ?_ | ((first | apply WKC.op | apply WKO.op | ((first | apply WKC.gop | apply WKO.gop); (· rfl); (· exact dcd))); (· first | exact k_mv rfl | exact opA); (· rfl)) | ((first | apply WKC.gnoT | apply WKO.gnoT | apply WKC.gnoF | apply WKO.gnoF); (· rfl); (· exact dcd)) | ((first | apply WKC.gnu | apply WKO.gnu); (· rfl)) | ((first | apply WKC.gsp | apply WKO.gsp); (· rfl); all_goals ((fail_if_success (refine known ?_ ?_; (· assumption))); intro _)) | ((first | apply WKC.gspB | apply WKO.gspB); (· rfl); all_goals ((fail_if_success (refine known ?_ ?_; (· assumption))); intro _)) | refine pN ?_ | refine pR ?_ | refine pX ?_ | refine bN ?_ | refine bR ?_ | refine bX ?_ | refine bO (by decide) ?_ | (apply WK.condT; (· rfl); (· exact dcd)) | (apply WK.condF; (· rfl); (· exact dcd)) | (apply WK.condD; (· rfl); all_goals intro _) | (apply WK.condN; (· rfl); all_goals intro _) | (apply WK.condB; (· rfl); all_goals intro _))
            refine ⟨(w + 1, (outs N inf (m - (v' + 1)) (v' + 1) (now ||| 2 ^ w) (cs ++ [(v', w)])).foldl (addF (lookW W inf)) F'), (.cons rfl <| .cons rfl <| .cons rfl <| .cons rfl <| .cons rfl <| .cons rfl <| .cons (by rw [hne]; rfl) <| .cons rfl <| .cons rfl <| .nil _), ⟨hw, hfold, ?_, ?_⟩, ?_⟩ <;> try dsimp only
            · exact ((b3.trans (AddR.pre hk4 hr5))).up rfl (by simp only [next_bump]; omega) hnJ
            · exact clean_eqm hc5 rfl (by simp only [next_bump]; omega)
            · omega
        · rename_i hb
          have hs1 : gwu N v' now (w + 1) = gwu N v' now w := by rw [hs, if_neg (by rw [hb]; decide), List.append_nil]
          refine ⟨(w + 1, F'), (.cons rfl <| .cons rfl <| .cons rfl <| .cons rfl <| .cons rfl <| .cons rfl <| .cons (by rw [hs1]; rfl) <| .cons rfl <| .cons rfl <| .nil _), ⟨hw, ?_, ?_, ?_⟩, ?_⟩ <;> try dsimp only
          · rw [hs1]; exact b2
          · exact b3.up rfl (by simp only [next_bump]; omega) (by omega)
          · exact clean_eqm b4 rfl (by simp only [next_bump]; omega)
          · omega
      · have hwm : w = m := by omega
        subst hwm
        have hgw : gwu N v' now w = gws N v' now := by unfold gwu gws; rw [hNl]
        have c70 : ∀ {H' : AHeap}, H'.m = H.m → H.next ≤ H'.next → ∃ u H'', cf 70 [.ptr G 0, sA inf, sA now, nA (v' + 1), CS, .fn 71 [.ptr b8 0, .ptr b5 0, .ptr b10 0]] H' = some (u, H'') ∧ u = .tup [] ∧ AddR H' H'' J ((outs N inf (w - (v' + 1)) (v' + 1) now cs).foldl (addF (lookW W inf)) F') := fun q1 q2 =>
          h70 (v' + 1) (by omega) (by omega) _ now cs CS F' (clean_eqm b4 q1 q2) ((h.step b3).up (Kp.eqm q1 q2)) (hgr.up (Kp.eqm q1 q2)) (Row.kr hC ((b3.kr h).trans (Kp.eqm q1 q2).kr)) hnow hF' (by omega)
        repeat' (first | refine WK.seq ?_ | refine WK.skip ?_ | refine WK.ret ?_ | refine WK.exit ?_ | refine WK.block ?_ | (apply WK.reg; (· exact lnn)) | (apply WK.regC; (· rfl); (· exact lnn); (· decide)) | (apply WK.regd0; (· exact lnn)) | (refine WKO.callV rfl rfl rfl (c70 (by rfl) (by simp only [next_bump]; omega)) ?_; rintro _ _ ⟨rfl, _⟩) | refine WKC.nil ?_ | refine WKO.nil ?_ | ((first | apply WKC.op | apply WKO.op | ((first | apply WKC.gop | apply WKO.gop); (· rfl); (· exact dcd))); (· first | exact k_mv rfl | exact opA); (· rfl)) | ((first | apply WKC.gnoT | apply WKO.gnoT | apply WKC.gnoF | apply WKO.gnoF); (· rfl); (· exact dcd)) | ((first | apply WKC.gnu | apply WKO.gnu); (· rfl)) | ((first | apply WKC.gsp | apply WKO.gsp); (· rfl); all_goals ((fail_if_success (refine known ?_ ?_; (· assumption))); intro _)) | ((first | apply WKC.gspB | apply WKO.gspB); (· rfl); all_goals ((fail_if_success (refine known ?_ ?_; (· assumption))); intro _)) | refine pN ?_ | refine pR ?_ | refine pX ?_ | refine bN ?_ | refine bR ?_ | refine bX ?_ | refine bO (by decide) ?_ | (apply WK.condT; (· rfl); (· exact dcd)) | (apply WK.condF; (· rfl); (· exact dcd)) | (apply WK.condD; (· rfl); all_goals intro _) | (apply WK.condN; (· rfl); all_goals intro _) | (apply WK.condB; (· rfl); all_goals intro _))
        · rename_i hem H2 hr
          refine ⟨nofun, _, rfl, rfl, ?_⟩
          have he : gws N v' now = [] := by rw [← hgw]; exact List.isEmpty_iff.1 hem
          have hF0 : F' = F := by rw [b2, hgw, he]; rfl
          rw [show w - v' = w - (v' + 1) + 1 by omega, outs, if_pos hvb, if_pos he, ← hF0]
          exact b3.trans (AddR.pre (Kp.eqm (by rfl) (by simp only [next_bump]; omega)) hr)
        · rename_i hem
          refine ⟨nofun, _, rfl, rfl, ?_⟩
          have he : gws N v' now ≠ [] := fun e => by rw [hgw, e] at hem; cases hem
          rw [show w - v' = w - (v' + 1) + 1 by omega, outs, if_pos hvb, if_neg he, ← hgw, ← b2]
          exact b3.up rfl (by simp only [next_bump]; omega) (by omega)
end Go.Proofs.Ytpbighinamljbaa.PA
/- The search of a shortest broadcast: the sorted sets; a range's entries; code leaves nothing behind the next name. No condition. -/
set_option linter.unusedSimpArgs false
set_option linter.unusedVariables false
namespace Go.Eng
section
variable {cf : CF} {fuel : Nat} {l : KL0} {H : AHeap} {Q : XE → KL0 → AHeap → Prop}
theorem WK.cl {c : XCode} (hc : CleanCF cf) (h : WK cf fuel c l H fun e l' H' => CleanTo H H' → Q e l' H') : WK cf fuel c l H Q := by
  unfold WK at h ⊢
  intro tm ht
  have h1 := h tm ht
  unfold W at h1 ⊢
  obtain ⟨e, s', q1, l', q2, q3⟩ := h1
  exact ⟨e, s', q1, l', q2, q3 (xcode_clean hc fuel _ _ _ _ q1)⟩
theorem WK.seqC {a b : XCode} (hc : CleanCF cf) (h : WK cf fuel a l H fun e l' H' => CleanTo H H' → (e = .normal → WK cf fuel b l' H' Q) ∧ (e ≠ .normal → Q e l' H')) : WK cf fuel (.seq a b) l H Q :=
  WK.seq (WK.cl hc h)
end
theorem dropE_mem {e : AV × AV} : ∀ {l : List (AV × AV)}, e ∈ l → ∃ l', dropE e l = some l'
  | x :: l, h => by
    unfold dropE
    split
    · exact ⟨_, rfl⟩
    · rename_i q
      rcases List.mem_cons.1 h with rfl | h
      · exact absurd (by rw [AV.beq_refl, AV.beq_refl]; rfl) q
      · obtain ⟨l', h'⟩ := dropE_mem h
        exact ⟨x :: l', by rw [h']; rfl⟩
theorem permEq_of : ∀ {r l : List (AV × AV)}, r.Perm l → permEq r l = true
  | [], l, h => by
    have := h.symm.eq_nil
    subst this
    rfl
  | e :: r, l, h => by
    obtain ⟨l', h'⟩ := dropE_mem (h.mem_iff.1 (List.mem_cons_self ..))
    have hp := dropE_perm h'
    unfold permEq
    rw [h']
    exact permEq_of ((h.trans hp).cons_inv)
end Go.Eng
namespace Go.Proofs.Ytpbighinamljbaa.PA
open Go Go.Eng Go.Proofs
theorem x69 {cf : CF} {fuel I : Nat} {H0 : AHeap} : ∃ u H', xfunc cf fuel L69 [.map I] H0 = some (u, H') ∧ ∃ p, u = .fn 81 [.ptr p 0] ∧ H0.next ≤ p ∧ p < H'.next ∧ H'.get p = some (.cells [.map I] none) ∧ Kp H0 H' := by
  refine xfunc_ofK rfl (by show 1 ≤ 4; omega) ?_
  have hF0 := hf0 H0
  unfold L69
  dsimp only
  repeat' (first | refine WK.seq ?_ | refine WK.skip ?_ | refine WK.ret ?_ | refine WK.exit ?_ | refine WK.block ?_ | (apply WK.reg; (· exact lnn)) | (apply WK.regC; (· rfl); (· exact lnn); (· decide)) | (apply WK.regd0; (· exact lnn)) | (apply WKO.boxO; (· rfl); (· assumption); (· rfl); (· exact nxx); (· exact nxx); (· exact nxx); intro _ _ _) | (apply WKO.alO; (· assumption); (· rfl); (· exact nxx); (· exact nxx); (· exact nxx); intro _ _ _) | (apply WKO.mapO; (· assumption); (· rfl); (· exact nxx); (· exact nxx); (· exact nxx); intro _ _ _) | (apply WKO.bsO; (· rfl); (· rfl); (· assumption); (· rfl); (· exact nxx); (· exact nxx); (· exact nxx); intro _ _ _) | (apply WKO.stO0; (· rfl); (· rfl); (· assumption); (· rfl); (· exact nxx); (· first | exact .inr nxx | exact .inl (by simp)); (· rfl); (· rfl); (· first | decide | (simp; done) | omega); intro _ _ _) | (apply WKO.stO1; (· rfl); (· rfl); (· assumption); (· rfl); (· exact nxx); (· first | exact .inr nxx | exact .inl (by simp)); (· rfl); (· rfl); (· first | decide | (simp; done) | omega); intro _ _ _) | (apply WKO.stO2; (· rfl); (· rfl); (· assumption); (· rfl); (· exact nxx); (· first | exact .inr nxx | exact .inl (by simp)); (· rfl); (· rfl); (· first | decide | (simp; done) | omega); intro _ _ _) | refine WKC.nil ?_ | refine WKO.nil ?_ | ((first | apply WKC.op | apply WKO.op | ((first | apply WKC.gop | apply WKO.gop); (· rfl); (· exact dcd))); (· first | exact k_mv rfl | exact k_mkfn rfl | (apply k_ldO; (· rfl); (· assumption); (· rfl); (· exact mmb); (· rfl)) | (apply k_ldA; (· rfl); (· assumption); (· rfl); (· exact mmb); (· first | rfl | assumption | (simp; done))) | exact k_faddr rfl | exact k_nilc rfl | exact opA); (· rfl)) | ((first | apply WKC.gnoT | apply WKO.gnoT | apply WKC.gnoF | apply WKO.gnoF); (· rfl); (· exact dcd)) | ((first | apply WKC.gnu | apply WKO.gnu); (· rfl)) | ((first | apply WKC.gsp | apply WKO.gsp); (· rfl); all_goals ((fail_if_success (refine known ?_ ?_; (· assumption))); intro _)) | ((first | apply WKC.gspB | apply WKO.gspB); (· rfl); all_goals ((fail_if_success (refine known ?_ ?_; (· assumption))); intro _)) | refine pN ?_ | refine pR ?_ | refine pX ?_ | refine bN ?_ | refine bR ?_ | refine bX ?_ | refine bO (by decide) ?_ | (apply WK.condT; (· rfl); (· exact dcd)) | (apply WK.condF; (· rfl); (· exact dcd)) | (apply WK.condD; (· rfl); all_goals intro _) | (apply WK.condN; (· rfl); all_goals intro _) | (apply WK.condB; (· rfl); all_goals intro _))
  rename_i H1 hF1 hn1
  refine ⟨nofun, _, rfl, _, rfl, Nat.le_refl _, ?_, hF1.obj _ (.head _), hF1.kp.up rfl (by simp only [next_bump]; omega)⟩
  have h1 := hF1.lt _ (.head _)
  have h2 := hF1.le
  simp only [next_bump] at *
  omega
/-- The sets of a map, sorted. -/
theorem g_68 {k p I : Nat} {H : AHeap} {W : FW} {opn : Option Nat} {es : List (AV × AV)} (hp : H.get p = some (.cells [.map I] opn)) (hI : H.get I = some (.map es)) (hE : EntF H es W) (hW : ∀ q ∈ W, q.1 < 1024) (h0 : W ≠ []) (hl : W.length ≤ 1024) :
    ∃ u H', cfG k 68 [.fn 81 [.ptr p 0]] H = some (u, H') ∧ ∃ (i : Nat) (ks : List Nat), u = .sl i 0 ks.length openCap ∧ ks.length ≤ 1024 ∧ (∀ a, a ∈ ks ↔ a ∈ W.map (·.1)) ∧ H.next ≤ i ∧ i < H'.next ∧ H'.get i = some (.cells (ks.map sA) (some 1)) ∧ Kp H H' := by
  have hkeys := hE.keys
  have hlen := hE.len
  have hall : es.all (fun e => keyU e.1) = true := by
    rw [List.all_eq_true]
    intro e he
    have : e.1 ∈ es.map (·.1) := List.mem_map_of_mem he
    rw [hkeys] at this
    obtain ⟨q, hq, hqe⟩ := List.mem_map.1 this
    rw [← hqe]
    have := hW q hq
    show (decide (0 ≤ (q.1 : Int)) && decide ((q.1 : Int) < 65536)) = true
    simp
    omega
  have hint : (es.map fun e => keyInt e.1) = W.map fun q => (q.1 : Int) := by
    have : (es.map fun e => keyInt e.1) = (es.map (·.1)).map keyInt := by rw [List.map_map]; rfl
    rw [this, hkeys, List.map_map]
    rfl
  have hne : es.isEmpty = false := by
    cases es with
    | nil => exact absurd (List.eq_nil_of_length_eq_zero (by rw [← hlen]; rfl)) h0
    | cons e es => rfl
  have hK : K68 68 [.fn 81 [.ptr p 0]] H = some (.sl (H.next + 4) 0 es.length openCap, srtH H (.fn 81 [.ptr p 0]) (es.map fun e => keyInt e.1)) := by
    unfold K68
    simp only [if_true, hp, List.getElem?_cons_zero, hI]
    rw [if_pos]
    rw [hall, hne]
    simp only [Bool.true_and, Bool.not_false, Bool.and_true, Nat.ble_eq]
    omega
  have hperm := sortL_perm (W.map fun q => (q.1 : Int))
  obtain ⟨ks, hks⟩ : ∃ ks : List Nat, sortL (W.map fun q => (q.1 : Int)) = ks.map (fun a : Nat => (a : Int)) := by
    refine ⟨(sortL (W.map fun q => (q.1 : Int))).map Int.toNat, ?_⟩
    rw [List.map_map]
    conv => lhs; rw [← List.map_id (sortL _)]
    refine List.map_congr_left fun a ha => ?_
    obtain ⟨q, _, rfl⟩ := List.mem_map.1 (hperm.mem_iff.1 ha)
    rfl
  have hlk : ks.length = es.length := by
    have := hperm.length_eq
    rw [hks, List.length_map, List.length_map] at this
    omega
  refine ⟨_, _, cfG_KG hK, H.next + 4, ks, by rw [hlk], by omega, fun a => ?_, by omega, ?_, ?_, ?_⟩
  · have h1 : a ∈ ks ↔ (a : Int) ∈ ks.map (fun a : Nat => (a : Int)) := ⟨fun h => List.mem_map.2 ⟨a, h, rfl⟩, fun h => by
      obtain ⟨b, hb, e⟩ := List.mem_map.1 h
      rwa [← Int.ofNat.inj e]⟩
    have h2 : (a : Int) ∈ W.map (fun q => (q.1 : Int)) ↔ a ∈ W.map (·.1) := ⟨fun h => by
      obtain ⟨q, hq, e⟩ := List.mem_map.1 h
      exact List.mem_map.2 ⟨q, hq, Int.ofNat.inj e⟩, fun h => by
      obtain ⟨q, hq, e⟩ := List.mem_map.1 h
      exact List.mem_map.2 ⟨q, hq, by rw [e]⟩⟩
    rw [h1, ← hks, hperm.mem_iff, h2]
  · have := srtH_next (H := H) (x := .fn 81 [.ptr p 0]) (ks := es.map fun e => keyInt e.1)
    omega
  · rw [srtH_get, if_pos rfl, hint, hks, List.map_map]
    rfl
  · refine ⟨by have := srtH_next (H := H) (x := .fn 81 [.ptr p 0]) (ks := es.map fun e => keyInt e.1); omega, fun j hj => ?_⟩
    rw [srtH_get, if_neg (by omega), if_pos hj]
/-- Entries in another order. -/
theorem EntF.perm {H : AHeap} {r es : List (AV × AV)} (hp : r.Perm es) : ∀ {F : FW}, EntF H r F → ∃ F', F'.Perm F ∧ EntF H es F' := by
  induction hp with
  | nil => intro F h; exact ⟨F, .refl _, h⟩
  | cons x _ ih =>
    intro F h
    cases F with
    | nil => exact h.elim
    | cons p F =>
      obtain ⟨F', q1, q2⟩ := ih h.2.2
      exact ⟨p :: F', q1.cons p, h.1, h.2.1, q2⟩
  | swap x y l =>
    intro F h
    match F, h with
    | p :: q :: F, h => exact ⟨q :: p :: F, .swap .., h.2.2.1, h.2.2.2.1, h.1, h.2.1, h.2.2.2.2⟩
    | [p], h => exact h.2.2.elim
  | trans _ _ ih1 ih2 =>
    intro F h
    obtain ⟨F1, q1, q2⟩ := ih1 h
    obtain ⟨F2, q3, q4⟩ := ih2 q2
    exact ⟨F2, q3.trans q1, q4⟩
def keyN (k : AV) : Nat := (keyInt k).toNat
/-- Whether an entry's set lies within none of the others. -/
def inE (es : List (AV × AV)) (e : AV × AV) : Bool := es.any fun q => decide (keyN e.1 ≠ keyN q.1) && decide (sdiff (keyN e.1) (keyN q.1) = 0)
theorem inE_F {H : AHeap} : ∀ {es : List (AV × AV)} {F : FW} (e : AV × AV) (a : Nat), EntF H es F → e.1 = sA a → inE es e = inO F a
  | [], [], e, a, _, _ => rfl
  | x :: es, p :: F, e, a, h, he => by
    have ih := inE_F e a h.2.2 he
    unfold inE inO at ih ⊢
    rw [List.any_cons, List.any_cons, ih, he, h.1]
    congr 1
    show (decide (a ≠ p.1) && decide (sdiff a p.1 = 0)) = _
    rw [Bool.eq_iff_iff]
    simp
  | [], _ :: _, _, _, h, _ => h.elim
  | _ :: _, [], _, _, h, _ => h.elim
theorem EntF.filter {H : AHeap} {es : List (AV × AV)} {F : FW} (hE : EntF H es F) : ∀ {r : List (AV × AV)} {G : FW}, EntF H r G → EntF H (r.filter fun e => !inE es e) (G.filter fun p => !inO F p.1)
  | [], [], _ => trivial
  | x :: r, p :: G, h => by
    have := EntF.filter hE h.2.2
    rw [List.filter_cons, List.filter_cons, inE_F x p.1 hE h.1]
    split
    · exact ⟨h.1, h.2.1, this⟩
    · exact this
  | [], _ :: _, h => h.elim
  | _ :: _, [], h => h.elim
theorem EntF.mem {H : AHeap} : ∀ {es : List (AV × AV)} {F : FW} {e : AV × AV}, EntF H es F → e ∈ es → ∃ p ∈ F, e.1 = sA p.1 ∧ RRw H e.2 p.2
  | x :: es, p :: F, e, h, he => by
    rcases List.mem_cons.1 he with rfl | he
    · exact ⟨p, by simp, h.1, h.2.1⟩
    · obtain ⟨q, q1, q2⟩ := EntF.mem h.2.2 he
      exact ⟨q, by simp [q1], q2⟩
  | [], _ :: _, _, h, _ => h.elim
  | _ :: _, [], _, h, _ => h.elim
theorem findE_none {K : KT} {a : Nat} (hK : K = K16) : ∀ (es : List (AV × AV)) (i : Nat), (∀ e ∈ es, ∃ b, e.1 = sA b ∧ b < 1024 ∧ b ≠ a) → findE K [Lit.int .u16 (a : Int)] es i = some none
  | [], i, _ => rfl
  | (k, v) :: es, i, h => by
    obtain ⟨b, h1, h2, h3⟩ := h (k, v) (by simp)
    dsimp only at h1
    subst h1 hK
    have ih := findE_none (a := a) rfl es (i + 1) (fun e he => h e (by simp [he]))
    simp only [findE, key16 h2, ih, lits16]
    rw [if_neg (by simp; omega)]
end Go.Proofs.Ytpbighinamljbaa.PA
/- The search of a shortest broadcast, whole: schedule. No condition. -/
set_option linter.unusedSimpArgs false
set_option linter.unusedVariables false
namespace Go.Proofs.Ytpbighinamljbaa.PA
open Go Go.Eng Go.Proofs
theorem _root_.Go.Eng.HF.re {H0 H : AHeap} {mod : List Nat} {T : Nat} {fs gs : List (Nat × AObj)} (h : HF H0 mod T fs H) (hs : ∀ p ∈ gs, p ∈ fs) (nd : (gs.map (·.1)).Nodup) : HF H0 mod T gs H :=
  ⟨fun p hp => h.obj p (hs p hp), fun p hp => h.lt p (hs p hp), nd, h.base, h.le, h.fr⟩
theorem _root_.Go.Eng.HF.top {H0 H : AHeap} {mod : List Nat} {T : Nat} {fs : List (Nat × AObj)} (h : HF H0 mod T fs H) : HF H0 mod H.next fs H :=
  ⟨h.obj, fun p hp => Nat.lt_of_lt_of_le (h.lt p hp) h.le, h.nd, Nat.le_trans h.base h.le, Nat.le_refl _, h.fr⟩
theorem _root_.Go.Eng.HF.addK {H0 H H' : AHeap} {mod : List Nat} {T : Nat} {fs : List (Nat × AObj)} (h : HF H0 mod T fs H) (hk : Kp H H') {i : Nat} {o : AObj} (hi : H.next ≤ i) (hl : i < H'.next) (hg : H'.get i = some o) : HF H0 mod H'.next ((i, o) :: fs) H' :=
  ((h.callK hk).top).add hg hl (fun w => by
    obtain ⟨p, hp, e⟩ := List.mem_map.1 w
    have := h.lt p hp
    have := h.le
    omega)
theorem _root_.Go.Eng.HF.rebase {H H1 H' : AHeap} {mod mod1 : List Nat} {T T1 : Nat} {fs fs1 : List (Nat × AObj)} (h : HF H1 mod1 T fs H') (h0 : HF H mod T1 fs1 H1) (hm : ∀ j ∈ mod1, H.next ≤ j ∨ j ∈ mod) : HF H mod T fs H' :=
  ⟨h.obj, h.lt, h.nd, Nat.le_trans h0.base (Nat.le_trans h0.le h.base), h.le, fun k h1 h2 => (h.fr k (Nat.lt_of_lt_of_le h1 (Nat.le_trans h0.base h0.le)) (fun w => by
    rcases hm k w with w | w
    · omega
    · exact h2 w)).trans (h0.fr k h1 h2)⟩
theorem _root_.Go.Eng.HF.here {H H0 : AHeap} {mod : List Nat} {T : Nat} {fs : List (Nat × AObj)} (h : HF H0 mod T fs H) (mod' : List Nat) : HF H mod' H.next fs H :=
  ⟨h.obj, fun p hp => Nat.lt_of_lt_of_le (h.lt p hp) h.le, h.nd, Nat.le_refl _, Nat.le_refl _, fun _ _ _ => rfl⟩
theorem _root_.Go.Eng.HF.rows {H H' : AHeap} {J T : Nat} {fs : List (Nat × AObj)} {o : AObj} (h : HF H [J] T fs H') (hJ : H.get J = some o) (ho : ∀ f z, o ≠ .cells f (some z)) : Kr H H' :=
  Kr.but (Nat.le_trans h.base h.le) hJ ho fun k hk hne => h.fr k hk (by simpa using hne)
/-- The whole of the loop's round, as it is known at its begin. -/
structure SchI (H0 : AHeap) (m : Nat) (N : List Nat) (s b5 k : Nat) (W : FW) (H : AHeap) : Prop where
  w : WInv N s k W
  lo : ∀ j, j < k → ¬ Rcs N j (2 ^ s) (2 ^ m - 1)
  hf : ∃ I T es, H0.next ≤ I ∧ HF H0 [] T [(b5, .cells [.map I] none), (I, .map es)] H ∧ EntF H es W
  cl : Go.Eng.Clean H
/-- What schedule answers. -/
def SchR (H0 : AHeap) (N : List Nat) (s : Nat) (u : AV) (H' : AHeap) : Prop :=
  ∃ k ls, IsT N s k ∧ ls.length = k ∧ RRw H' u ls ∧ vR N ls (2 ^ s) = some (2 ^ N.length - 1) ∧ (∀ l ∈ ls, l.length ≤ N.length ∧ ∀ c ∈ l, c.1 < N.length ∧ c.2 < N.length) ∧ Kp H0 H'
def body47 : XCode := match L47.code with
  | .seq _ (.seq _ (.block _ (.loop c))) => c
  | _ => .skip
set_option maxHeartbeats 2000000 in
theorem body47_ok {kk fuel G M m s b5 k : Nat} {N : List Nat} {W : FW} {H0 H : AHeap} (hNl : N.length = m) (hm : m ≤ 10) (hNt : ∀ c ∈ N, c < 1024) (hN2 : ∀ c ∈ N, c < 2 ^ N.length) (hfu : 1030 < fuel) (hs : s < m)
    (hg : GrH H0 G M m N) (hI : SchI H0 m N s b5 k W H) (hb5 : H0.next ≤ b5) {T : Nat} (hT : IsT N s T) (hT10 : T ≤ 10)
    (h70 : ∀ b8 b10 J I inf W, inf < 1024 → (∀ p ∈ W, p.1 < 1024) → (lookW W inf).length < 1000 → K70 (cfG kk) N m G M b8 b5 b10 J I inf W 0)
    (h69 : ∀ I H, ∃ u H', cfG kk 69 [.map I] H = some (u, H') ∧ ∃ p, u = .fn 81 [.ptr p 0] ∧ H.next ≤ p ∧ p < H'.next ∧ H'.get p = some (.cells [.map I] none) ∧ Kp H H') :
    WK (cfG kk) fuel body47 [(0, .ptr G 0), (1, nA s), (4, .nils), (5, .ptr b5 0)] H fun e l' H' =>
      (e = .normal → ∃ W', Eng.Sub l' [(0, .ptr G 0), (1, nA s), (4, .nils), (5, .ptr b5 0)] ∧ SchI H0 m N s b5 (k + 1) W' H' ∧ k < T) ∧
      (e ≠ .normal → e = .ret ∧ ∃ u, Eng.look l' 4 = some u ∧ SchR H0 N s u H') := by
  obtain ⟨hw, hlo, ⟨I, T0, es, hIn, hF, hE⟩, hcl⟩ := hI
  have hcc := cfG_clean kk
  have hpw := pow_le10 hm
  have hW1 : ∀ p ∈ W, p.1 < 1024 := fun p hp => Nat.lt_of_lt_of_le (hw.ok p hp).1 (by rw [hNl]; exact hpw)
  have hfull : 2 ^ m - 1 < 1024 := by have := Nat.one_le_two_pow (n := m); omega
  have hTl := hF.le
  have hTb := hF.base
  have g5 : H.get b5 = some (.cells [.map I] none) := hF.obj _ (.head _)
  have gI : H.get I = some (.map es) := hF.obj _ (.tail _ (.head _))
  have gG : H.get G = some (.cells [nA m, .sl M 0 m m] none) := (hF.fr G hg.lg (by simp)).trans hg.g
  have l5 : b5 < H.next := Nat.lt_of_lt_of_le (hF.lt _ (.head _)) hTl
  have lI : I < H.next := Nat.lt_of_lt_of_le (hF.lt _ (.tail _ (.head _))) hTl
  have lG := hg.lg
  have ne5 : b5 ≠ I := fun e => by rw [e, gI] at g5; cases g5
  have hgH : GrH H G M m N := hg.up hF.kp
  have hFb : HF H [b5] H.next [(b5, .cells [.map I] none), (I, .map es), (G, .cells [nA m, .sl M 0 m m] none)] H := {
    obj := by simp only [List.mem_cons, List.not_mem_nil, or_false, forall_eq_or_imp, forall_eq]; exact ⟨g5, gI, gG⟩
    lt := by simp only [List.mem_cons, List.not_mem_nil, or_false, forall_eq_or_imp, forall_eq]; exact ⟨l5, lI, by omega⟩
    nd := by simp only [List.map_cons, List.map_nil, List.nodup_cons, List.mem_cons, List.not_mem_nil, or_false, not_or, not_false_eq_true, List.nodup_nil, and_true]; exact ⟨⟨ne5, by omega⟩, by omega⟩
    base := Nat.le_refl _
    le := Nat.le_refl _
    fr := fun _ _ _ => rfl }
  have hrows : ∀ {H' : AHeap} {T' : Nat} {fs : List (Nat × AObj)}, HF H [b5] T' fs H' → Kr H H' := fun h => h.rows g5 (fun _ _ => nofun)
  refine WK.cl hcc ?_
  unfold body47 L47
  dsimp only
  rcases find16 (a := 2 ^ m - 1) 0 hE hW1 with ⟨f1, f2, _⟩ | ⟨f1, j, v, f2, f3⟩
  · have hnot : ¬ Rcs N k (2 ^ s) (2 ^ m - 1) := fun q => by
      rw [← hNl, ← winv_full hw] at q
      rw [hNl, ← hasF_iff, f1] at q
      cases q
    have hkT : k < T := by
      rcases Nat.lt_or_ge k T with q | q
      · exact q
      · exact absurd ((hNl ▸ hT.1).le q) hnot
    repeat' (first | refine WK.seqC (by assumption) ?_ | intro (_ : CleanTo _ _) | refine WK.skip ?_ | refine WK.ret ?_ | refine WK.exit ?_ | refine WK.block ?_ | (apply WK.reg; (· exact lnn)) | (apply WK.regC; (· rfl); (· exact lnn); (· decide)) | (apply WK.regd0; (· exact lnn)) | (apply WKO.boxO; (· rfl); (· assumption); (· rfl); (· exact nxx); (· exact nxx); (· exact nxx); intro _ _ _) | (apply WKO.alO; (· assumption); (· rfl); (· exact nxx); (· exact nxx); (· exact nxx); intro _ _ _) | (apply WKO.mapO; (· assumption); (· rfl); (· exact nxx); (· exact nxx); (· exact nxx); intro _ _ _) | (apply WKO.bsO; (· rfl); (· rfl); (· assumption); (· rfl); (· exact nxx); (· exact nxx); (· exact nxx); intro _ _ _) | (apply WKO.stO0; (· rfl); (· rfl); (· assumption); (· rfl); (· exact nxx); (· first | exact .inr nxx | exact .inl (by simp)); (· rfl); (· rfl); (· first | decide | (simp; done) | omega); intro _ _ _) | (apply WKO.stO1; (· rfl); (· rfl); (· assumption); (· rfl); (· exact nxx); (· first | exact .inr nxx | exact .inl (by simp)); (· rfl); (· rfl); (· first | decide | (simp; done) | omega); intro _ _ _) | (apply WKO.stO2; (· rfl); (· rfl); (· assumption); (· rfl); (· exact nxx); (· first | exact .inr nxx | exact .inl (by simp)); (· rfl); (· rfl); (· first | decide | (simp; done) | omega); intro _ _ _) | refine WKC.nil ?_ | refine WKO.nil ?_ | ((first | apply WKC.op | apply WKO.op | ((first | apply WKC.gop | apply WKO.gop); (· rfl); (· exact dcd))); (· first | exact k_mv rfl | exact k_shl16 rfl rfl (by omega) | exact k_sub16 rfl rfl Nat.one_le_two_pow (by omega) | (apply k_lookX; (· rfl); (· rfl); (· exact gI); (· exact key16 hfull); (· exact f2); (· rfl)) | (apply k_ldO; (· rfl); (· assumption); (· rfl); (· exact mmb); (· rfl)) | (apply k_ldA; (· rfl); (· assumption); (· rfl); (· exact mmb); (· first | rfl | assumption | (simp; done))) | exact k_faddr rfl | exact k_nilc rfl | exact opA); (· rfl)) | ((first | apply WKC.gnoT | apply WKO.gnoT | apply WKC.gnoF | apply WKO.gnoF); (· rfl); (· exact dcd)) | ((first | apply WKC.gnu | apply WKO.gnu); (· rfl)) | ((first | apply WKC.gsp | apply WKO.gsp); (· rfl); all_goals ((fail_if_success (refine known ?_ ?_; (· assumption))); intro _)) | ((first | apply WKC.gspB | apply WKO.gspB); (· rfl); all_goals ((fail_if_success (refine known ?_ ?_; (· assumption))); intro _)) | refine pN ?_ | refine pR ?_ | refine pX ?_ | refine bN ?_ | refine bR ?_ | refine bX ?_ | refine bO (by decide) ?_ | (apply WK.condT; (· rfl); (· exact dcd)) | (apply WK.condF; (· rfl); (· exact dcd)) | (apply WK.condD; (· rfl); all_goals intro _) | (apply WK.condN; (· rfl); all_goals intro _) | (apply WK.condB; (· rfl); all_goals intro _))
    rename_i c1 c2 c3 Ha _ na Hb _ nb H1 hF1 n1 cl1
    have hC1 : Go.Eng.Clean H1 := cl1.1 (c3.1 hcl)
    have hn1 : H1.next = H.next + 17 := by simp only [next_bump] at na; omega
    have hb8 : ((H.bump 13).bump 1).next = H.next + 14 := by simp only [next_bump]
    rw [hb8] at hF1 ⊢
    clear hb8 na nb n1 c1 c2 c3 cl1 hFb
    rename_i hx1 hx2
    clear hx1 hx2 Ha Hb
    generalize hJ : H.next + 14 = J at hF1 ⊢
    have hT1 := hF1.le
    refine WKO.callV rfl rfl rfl (h69 I (H1.bump 5)) ?_
    rintro _ H2 ⟨p, rfl, p1, p2, p3, hk2⟩
    have hF2 := (hF1.up (H' := H1.bump 5) rfl (by simp only [next_bump]; omega)).addK hk2 p1 p2 p3
    have hW0 : W ≠ [] := fun e => by
      obtain ⟨q, hq, _⟩ := hw.cp _ ((show Rcs N 0 (2 ^ s) (2 ^ s) from rfl).le (Nat.zero_le k))
      rw [e] at hq
      cases hq
    refine WKO.callV rfl rfl rfl (g_68 (hF2.obj _ (.head _)) (hF2.obj (I, .map es) (by simp)) (hE.kr (hrows hF2)) hW1 hW0 (winv_len (by omega) hw)) ?_
    rintro _ H3 ⟨S, ks, rfl, s0, s1, s2, s3, s4, hk3⟩
    have hF3 := hF2.addK hk3 s2 s3 s4
    have hS : H1.next ≤ S := by have := hk2.1; simp only [next_bump] at this; omega
    have hF4 := hF3.re (gs := [(J, .map []), (S, .cells (ks.map sA) (some 1)), (J + 1, .cells [.map J] none), (b5, .cells [.map I] none), (I, .map es), (G, .cells [nA m, .sl M 0 m m] none)]) (by
      intro q hq
      simp only [List.mem_cons, List.not_mem_nil, or_false] at hq ⊢
      rcases hq with rfl | rfl | rfl | rfl | rfl | rfl
      · exact .inr (.inr (.inr (.inl rfl)))
      · exact .inl rfl
      · exact .inr (.inr (.inl rfl))
      · exact .inr (.inr (.inr (.inr (.inl rfl))))
      · exact .inr (.inr (.inr (.inr (.inr (.inl rfl)))))
      · exact .inr (.inr (.inr (.inr (.inr (.inr rfl)))))) (by
      simp only [List.map_cons, List.map_nil, List.nodup_cons, List.mem_cons, List.not_mem_nil, or_false, not_or, not_false_eq_true, List.nodup_nil, and_true]
      refine ⟨⟨?_, ?_, ?_, ?_, ?_⟩, ⟨?_, ?_, ?_, ?_⟩, ⟨?_, ?_, ?_⟩, ⟨?_, ?_⟩, ?_⟩ <;> omega)
    clear hF2 hF3 p3
    have hT3 := hF4.le
    repeat' (first | refine WK.seqC (by assumption) ?_ | intro (_ : CleanTo _ _) | refine WK.skip ?_ | refine WK.ret ?_ | refine WK.exit ?_ | refine WK.block ?_ | (apply WK.reg; (· exact lnn)) | (apply WK.regC; (· rfl); (· exact lnn); (· decide)) | (apply WK.regd0; (· exact lnn)) | refine WKC.nil ?_ | refine WKO.nil ?_ | ((first | apply WKC.op | apply WKO.op | ((first | apply WKC.gop | apply WKO.gop); (· rfl); (· exact dcd))); (· first | exact k_mv rfl | exact opA); (· rfl)) | ((first | apply WKC.gnoT | apply WKO.gnoT | apply WKC.gnoF | apply WKO.gnoF); (· rfl); (· exact dcd)) | ((first | apply WKC.gnu | apply WKO.gnu); (· rfl)) | ((first | apply WKC.gsp | apply WKO.gsp); (· rfl); all_goals ((fail_if_success (refine known ?_ ?_; (· assumption))); intro _)) | ((first | apply WKC.gspB | apply WKO.gspB); (· rfl); all_goals ((fail_if_success (refine known ?_ ?_; (· assumption))); intro _)) | refine pN ?_ | refine pR ?_ | refine pX ?_ | refine bN ?_ | refine bR ?_ | refine bX ?_ | refine bO (by decide) ?_ | (apply WK.condT; (· rfl); (· exact dcd)) | (apply WK.condF; (· rfl); (· exact dcd)) | (apply WK.condD; (· rfl); all_goals intro _) | (apply WK.condN; (· rfl); all_goals intro _) | (apply WK.condB; (· rfl); all_goals intro _))
    rename_i cl3
    have hC3 : Go.Eng.Clean H3 := cl3.1 hC1
    clear cl3
    refine WK.loop (α := Nat × FW) (fun q => [(0, .ptr G 0), (1, nA s), (4, .nils), (5, .ptr b5 0), (8, .ptr (J + 1) 0), (35, .sl S 0 ks.length openCap), (36, nA ks.length), (37, nA q.1)])
      (fun q H' => q.1 ≤ ks.length ∧ q.2 = (ks.take q.1).foldl (fun F a => (outs N a N.length 0 a []).foldl (addF (lookW W a)) F) [] ∧ (∃ T' esJ, HF H [b5] T' [(J, .map esJ), (S, .cells (ks.map sA) (some 1)), (J + 1, .cells [.map J] none), (b5, .cells [.map I] none), (I, .map es), (G, .cells [nA m, .sl M 0 m m] none)] H' ∧ EntF H' esJ q.2) ∧ Go.Eng.Clean H')
      (fun q => ks.length - q.1) (0, []) (.cons rfl <| .cons rfl <| .cons rfl <| .cons rfl <| .cons rfl <| .cons rfl <| .cons rfl <| .cons rfl <| .nil _) ⟨Nat.zero_le _, rfl, ⟨_, [], hF4.up rfl (by first | exact Nat.le_refl _ | (simp only [next_bump]; omega)), trivial⟩, clean_eqm hC3 rfl (by first | exact Nat.le_refl _ | (simp only [next_bump]; omega))⟩ (by dsimp only; omega) ?_
    clear hF4 hC3 hT3
    rintro ⟨i, F'⟩ H4 ⟨a1, a2, ⟨T4, esJ, hF4, hEJ⟩, hC4⟩
    dsimp only at a1 a2 hF4 hEJ ⊢
    have hT4 := hF4.le
    have hB4 := hF4.base
    by_cases hi : i < ks.length
    · have gJ4 : H4.get J = some (.map esJ) := hF4.obj _ (.head _)
      have lJ4 : J < H4.next := Nat.lt_of_lt_of_le (hF4.lt _ (.head _)) hT4
      have hR := hF4.here [J]
      refine WK.cl hcc ?_
      repeat' (first | refine WK.seqC (by assumption) ?_ | intro (_ : CleanTo _ _) | refine WK.skip ?_ | refine WK.ret ?_ | refine WK.exit ?_ | refine WK.block ?_ | (apply WK.reg; (· exact lnn)) | (apply WK.regC; (· rfl); (· exact lnn); (· decide)) | (apply WK.regd0; (· exact lnn)) | (apply WKO.boxO; (· rfl); (· assumption); (· rfl); (· exact nxx); (· exact nxx); (· exact nxx); intro _ _ _) | (apply WKO.alO; (· assumption); (· rfl); (· exact nxx); (· exact nxx); (· exact nxx); intro _ _ _) | (apply WKO.mapO; (· assumption); (· rfl); (· exact nxx); (· exact nxx); (· exact nxx); intro _ _ _) | (apply WKO.bsO; (· rfl); (· rfl); (· assumption); (· rfl); (· exact nxx); (· exact nxx); (· exact nxx); intro _ _ _) | (apply WKO.stO0; (· rfl); (· rfl); (· assumption); (· rfl); (· exact nxx); (· first | exact .inr nxx | exact .inl (by simp)); (· rfl); (· rfl); (· first | decide | (simp; done) | omega); intro _ _ _) | (apply WKO.stO1; (· rfl); (· rfl); (· assumption); (· rfl); (· exact nxx); (· first | exact .inr nxx | exact .inl (by simp)); (· rfl); (· rfl); (· first | decide | (simp; done) | omega); intro _ _ _) | (apply WKO.stO2; (· rfl); (· rfl); (· assumption); (· rfl); (· exact nxx); (· first | exact .inr nxx | exact .inl (by simp)); (· rfl); (· rfl); (· first | decide | (simp; done) | omega); intro _ _ _) | refine WKC.nil ?_ | refine WKO.nil ?_ | ((first | apply WKC.op | apply WKO.op | ((first | apply WKC.gop | apply WKO.gop); (· rfl); (· exact dcd))); (· first | exact k_mv rfl | exact k_ia1s rfl rfl (by omega) | (apply k_ldO; (· rfl); (· assumption); (· rfl); (· exact mmb); (· exact map_at (by omega))) | exact k_mkfn rfl | (apply k_ldO; (· rfl); (· assumption); (· rfl); (· exact mmb); (· rfl)) | (apply k_ldA; (· rfl); (· assumption); (· rfl); (· exact mmb); (· first | rfl | assumption | (simp; done))) | exact k_faddr rfl | exact k_nilc rfl | exact opA); (· rfl)) | ((first | apply WKC.gnoT | apply WKO.gnoT | apply WKC.gnoF | apply WKO.gnoF); (· rfl); (· exact dcd)) | ((first | apply WKC.gnu | apply WKO.gnu); (· rfl)) | ((first | apply WKC.gsp | apply WKO.gsp); (· rfl); all_goals ((fail_if_success (refine known ?_ ?_; (· assumption))); intro _)) | ((first | apply WKC.gspB | apply WKO.gspB); (· rfl); all_goals ((fail_if_success (refine known ?_ ?_; (· assumption))); intro _)) | refine pN ?_ | refine pR ?_ | refine pX ?_ | refine bN ?_ | refine bR ?_ | refine bX ?_ | refine bO (by decide) ?_ | (apply WK.condT; (· rfl); (· exact dcd)) | (apply WK.condF; (· rfl); (· exact dcd)) | (apply WK.condD; (· rfl); all_goals intro _) | (apply WK.condN; (· rfl); all_goals intro _) | (apply WK.condB; (· rfl); all_goals intro _))
      rename_i c1 c2 Ha _ na H5 hF5 n5 cl5
      have hC5 : Go.Eng.Clean H5 := cl5.1 (c2.1 (c1.1 hC4))
      have hkr := hF5.rows gJ4 (fun _ _ => nofun)
      generalize (H4.bump 1).next + 1 + 1 = b10 at hF5 ⊢
      have hT5 := hF5.le
      have hB5 := hF5.base
      have hF6 := hF5.up (H' := H5.bump 5) rfl (by simp only [next_bump]; omega)
      have hkr6 : Kr H4 (H5.bump 5) := hkr.trans (Kp.bump 5).kr
      have hT6 := hF6.le
      have hmem : ks.getD i 0 ∈ ks := by
        rw [List.getD_eq_getElem?_getD, List.getElem?_eq_getElem hi]
        exact List.getElem_mem _
      obtain ⟨pw, hpw1, hpw2⟩ := List.mem_map.1 ((s1 _).1 hmem)
      have inf10 : ks.getD i 0 < 1024 := by rw [← hpw2]; exact hW1 pw hpw1
      have hlk : (lookW W (ks.getD i 0)).length < 1000 := by
        rw [lookW_mem hw.nd (l := pw.2) (by rw [← hpw2]; exact hpw1), (hw.ok pw hpw1).2.1]
        omega
      have hF1024 : ∀ q ∈ F', q.1 < 1024 := fun q hq => by
        rw [a2] at hq
        rcases nextG_mem _ _ q hq with h | ⟨c, hc, r, hr, rfl⟩
        · cases h
        · obtain ⟨pc, hpc, rfl⟩ := List.mem_map.1 ((s1 _).1 (List.mem_of_mem_take hc))
          exact outs_lt (by omega) _ _ _ _ (hW1 pc hpc) r hr
      have hA : AddC (H5.bump 5) (J + 1) b5 b10 J I (ks.getD i 0) F' W := {
        g8 := hF6.obj (J + 1, _) (by simp)
        g5 := hF6.obj (b5, _) (by simp)
        g10 := hF6.obj _ (.head _)
        l8 := Nat.lt_of_lt_of_le (hF6.lt (J + 1, .cells [.map J] none) (by simp)) hT6
        l5 := Nat.lt_of_lt_of_le (hF6.lt (b5, .cells [.map I] none) (by simp)) hT6
        l10 := Nat.lt_of_lt_of_le (hF6.lt _ (.head _)) hT6
        lJ := Nat.lt_of_lt_of_le (hF6.lt (J, .map esJ) (by simp)) hT6
        lI := Nat.lt_of_lt_of_le (hF6.lt (I, .map es) (by simp)) hT6
        eJ := ⟨esJ, hF6.obj (J, _) (by simp), hEJ.kr hkr6⟩
        eI := ⟨es, hF6.obj (I, _) (by simp), hE.kr ((hrows hF4).trans hkr6)⟩
        ne := by omega }
      have hgr : GrH (H5.bump 5) G M m N := ⟨hF6.obj (G, _) (by simp), (hF6.fr M (by have := hg.ls; omega) (by have := hg.ls; simp only [List.mem_singleton]; omega)).trans ((hF4.fr M (by have := hg.ls; omega) (by have := hg.ls; simp only [List.mem_singleton]; omega)).trans hgH.s), by omega, by have := hg.ls; omega⟩
      have hC6 : Go.Eng.Clean (H5.bump 5) := clean_eqm hC5 rfl (by simp only [next_bump]; omega)
      have c70 := h70 (J + 1) b10 J I (ks.getD i 0) W inf10 hW1 hlk (H5.bump 5) (ks.getD i 0) [] .nils F' hC6 hA hgr (Row.nil 2 _) inf10 hF1024 (Nat.le_refl _)
      refine WKO.callV rfl rfl rfl c70 ?_
      rintro _ H7 ⟨rfl, hr⟩
      repeat' (first | refine WK.seqC (by assumption) ?_ | intro (_ : CleanTo _ _) | refine WK.skip ?_ | refine WK.ret ?_ | refine WK.exit ?_ | refine WK.block ?_ | (apply WK.reg; (· exact lnn)) | (apply WK.regC; (· rfl); (· exact lnn); (· decide)) | (apply WK.regd0; (· exact lnn)) | refine WKC.nil ?_ | refine WKO.nil ?_ | ((first | apply WKC.op | apply WKO.op | ((first | apply WKC.gop | apply WKO.gop); (· rfl); (· exact dcd))); (· first | exact k_mv rfl | exact opA); (· rfl)) | ((first | apply WKC.gnoT | apply WKO.gnoT | apply WKC.gnoF | apply WKO.gnoF); (· rfl); (· exact dcd)) | ((first | apply WKC.gnu | apply WKO.gnu); (· rfl)) | ((first | apply WKC.gsp | apply WKO.gsp); (· rfl); all_goals ((fail_if_success (refine known ?_ ?_; (· assumption))); intro _)) | ((first | apply WKC.gspB | apply WKO.gspB); (· rfl); all_goals ((fail_if_success (refine known ?_ ?_; (· assumption))); intro _)) | refine pN ?_ | refine pR ?_ | refine pX ?_ | refine bN ?_ | refine bR ?_ | refine bX ?_ | refine bO (by decide) ?_ | (apply WK.condT; (· rfl); (· exact dcd)) | (apply WK.condF; (· rfl); (· exact dcd)) | (apply WK.condD; (· rfl); all_goals intro _) | (apply WK.condN; (· rfl); all_goals intro _) | (apply WK.condB; (· rfl); all_goals intro _))
      rename_i cl7 cl8
      obtain ⟨es', e1, e2⟩ := hr.e
      have hn7 := hr.nx
      have hF7 := ((((hF6.sub (gs := [(S, .cells (ks.map sA) (some 1)), (J + 1, .cells [.map J] none), (b5, .cells [.map I] none), (I, .map es), (G, .cells [nA m, .sl M 0 m m] none)]) (.cons _ (.cons _ (.refl _))) (Nat.le_refl _) hT6).call (H' := H7) (mod' := [J]) (fun k hk hm => hr.fr k hk (by simpa using hm)) hn7 (fun k hk => .inl hk) (by
        simp only [List.mem_cons, List.not_mem_nil, or_false, forall_eq_or_imp, forall_eq, List.mem_singleton]
        refine ⟨?_, ?_, ?_, ?_, ?_⟩ <;> omega)).top).add e1 (by omega) (by
        simp only [List.map_cons, List.map_nil, List.mem_cons, List.not_mem_nil, or_false, not_or]
        refine ⟨?_, ?_, ?_, ?_, ?_⟩ <;> omega)).rebase hF4 (fun j hj => by
        have : j = J := by simpa using hj
        subst this
        exact .inl (by omega))
      refine ⟨(i + 1, _), (.cons rfl <| .cons rfl <| .cons rfl <| .cons rfl <| .cons rfl <| .cons rfl <| .cons rfl <| .cons rfl <| .nil _), ⟨hi, ?_, ⟨_, es', hF7.up rfl (by simp only [next_bump]; omega), EntF.kr (Kp.kr (Kp.bump 2)) e2⟩, cl8.1 hC4⟩, by dsimp only; omega⟩
      have htk : ks.take (i + 1) = ks.take i ++ [ks.getD i 0] := by
        rw [List.take_add_one, List.getD_eq_getElem?_getD, List.getElem?_eq_getElem hi]
        rfl
      dsimp only
      rw [htk, List.foldl_append, ← a2, hNl]
      rfl
    · have hF5 := (hF4.re (gs := [(b5, .cells [.map I] none), (J, .map esJ), (J + 1, .cells [.map J] none)]) (by
        intro q hq
        simp only [List.mem_cons, List.not_mem_nil, or_false] at hq ⊢
        rcases hq with rfl | rfl | rfl <;> simp) (by simp; omega)).here [b5]
      have gJ4 : H4.get J = some (.map esJ) := hF4.obj _ (.head _)
      have g54 : H4.get b5 = some (.cells [.map I] none) := hF4.obj (b5, _) (by simp)
      have lJ4 : J < H4.next := Nat.lt_of_lt_of_le (hF4.lt _ (.head _)) hT4
      have hjn : H.next ≤ J := by omega
      have heq : F' = nextF N W ks := by rw [a2, List.take_of_length_le (by omega)]; rfl
      have hFk : ∀ q ∈ F', q.1 < 1024 := fun q hq => by
        rw [heq] at hq
        exact Nat.lt_of_lt_of_le (next_ok hN2 hw s1 hq).1 (by rw [hNl]; exact hpw)
      have hFn : (F'.map (·.1)).Nodup := by rw [heq]; exact nextG_nd ks [] (by simp)
      repeat' (first | refine WK.seqC (by assumption) ?_ | intro (_ : CleanTo _ _) | refine WK.skip ?_ | refine WK.ret ?_ | refine WK.exit ?_ | refine WK.block ?_ | (apply WK.reg; (· exact lnn)) | (apply WK.regC; (· rfl); (· exact lnn); (· decide)) | (apply WK.regd0; (· exact lnn)) | (apply WKO.boxO; (· rfl); (· assumption); (· rfl); (· exact nxx); (· exact nxx); (· exact nxx); intro _ _ _) | (apply WKO.alO; (· assumption); (· rfl); (· exact nxx); (· exact nxx); (· exact nxx); intro _ _ _) | (apply WKO.mapO; (· assumption); (· rfl); (· exact nxx); (· exact nxx); (· exact nxx); intro _ _ _) | (apply WKO.bsO; (· rfl); (· rfl); (· assumption); (· rfl); (· exact nxx); (· exact nxx); (· exact nxx); intro _ _ _) | (apply WKO.stO0; (· rfl); (· rfl); (· assumption); (· rfl); (· exact nxx); (· first | exact .inr nxx | exact .inl (by simp)); (· rfl); (· rfl); (· first | decide | (simp; done) | omega); intro _ _ _) | (apply WKO.stO1; (· rfl); (· rfl); (· assumption); (· rfl); (· exact nxx); (· first | exact .inr nxx | exact .inl (by simp)); (· rfl); (· rfl); (· first | decide | (simp; done) | omega); intro _ _ _) | (apply WKO.stO2; (· rfl); (· rfl); (· assumption); (· rfl); (· exact nxx); (· first | exact .inr nxx | exact .inl (by simp)); (· rfl); (· rfl); (· first | decide | (simp; done) | omega); intro _ _ _) | refine WKC.nil ?_ | refine WKO.nil ?_ | ((first | apply WKC.op | apply WKO.op | ((first | apply WKC.gop | apply WKO.gop); (· rfl); (· exact dcd))); (· first | exact k_mv rfl | (apply k_ldO; (· rfl); (· assumption); (· rfl); (· exact mmb); (· rfl)) | (apply k_ldA; (· rfl); (· assumption); (· rfl); (· exact mmb); (· first | rfl | assumption | (simp; done))) | exact k_faddr rfl | exact k_nilc rfl | exact opA); (· rfl)) | ((first | apply WKC.gnoT | apply WKO.gnoT | apply WKC.gnoF | apply WKO.gnoF); (· rfl); (· exact dcd)) | ((first | apply WKC.gnu | apply WKO.gnu); (· rfl)) | ((first | apply WKC.gsp | apply WKO.gsp); (· rfl); all_goals ((fail_if_success (refine known ?_ ?_; (· assumption))); intro _)) | ((first | apply WKC.gspB | apply WKO.gspB); (· rfl); all_goals ((fail_if_success (refine known ?_ ?_; (· assumption))); intro _)) | refine pN ?_ | refine pR ?_ | refine pX ?_ | refine bN ?_ | refine bR ?_ | refine bX ?_ | refine bO (by decide) ?_ | (apply WK.condT; (· rfl); (· exact dcd)) | (apply WK.condF; (· rfl); (· exact dcd)) | (apply WK.condD; (· rfl); all_goals intro _) | (apply WK.condN; (· rfl); all_goals intro _) | (apply WK.condB; (· rfl); all_goals intro _))
      rename_i c1 c2 c3 Ha _ na H8 hF8 n8 cl8
      generalize hI2 : (H4.bump 1).next = I2 at hF8 ⊢
      have hn8 : H4.next + 3 ≤ H8.next := by simp only [next_bump] at na; omega
      have hI2n : I2 = H4.next + 1 := by rw [← hI2]; rfl
      have gI8 : H8.get I2 = some (.map []) := hF8.obj _ (.head _)
      have g58 : H8.get b5 = some (.cells [.map I2] none) := hF8.obj _ (.tail _ (.head _))
      have gJ8 : H8.get J = some (.map esJ) := hF8.obj (J, _) (by simp)
      have g88 : H8.get (J + 1) = some (.cells [.map J] none) := hF8.obj (J + 1, _) (by simp)
      have hE8 : EntF H8 esJ F' := hEJ.kr (hF8.rows g54 (fun _ _ => nofun))
      have fr8 : ∀ j, j < H4.next → j ≠ b5 → H8.get j = H4.get j := fun j h1 h2 => hF8.fr j h1 (by simpa using h2)
      have l8J : J + 1 < H4.next := Nat.lt_of_lt_of_le (hF4.lt (J + 1, .cells [.map J] none) (by simp)) hT4
      clear hF8 na n8 hI2 c1 c2 c3 cl8
      rename_i hx1 hx2
      clear hx1 hx2 Ha
      refine WK.mrange (k := 2) (k' := 5) rfl rfl ?_
      repeat' (first | refine WK.seq ?_ | refine WK.skip ?_ | refine WK.ret ?_ | refine WK.exit ?_ | refine WK.block ?_ | (apply WK.reg; (· exact lnn)) | (apply WK.regC; (· rfl); (· exact lnn); (· decide)) | (apply WK.regd0; (· exact lnn)) | refine WKC.nil ?_ | refine WKO.nil ?_ | ((first | apply WKC.op | apply WKO.op | ((first | apply WKC.gop | apply WKO.gop); (· rfl); (· exact dcd))); (· first | exact k_mv rfl | (apply k_ldX; (· rfl); (· exact g88); (· rfl)) | exact opA); (· rfl)) | ((first | apply WKC.gnoT | apply WKO.gnoT | apply WKC.gnoF | apply WKO.gnoF); (· rfl); (· exact dcd)) | ((first | apply WKC.gnu | apply WKO.gnu); (· rfl)) | ((first | apply WKC.gsp | apply WKO.gsp); (· rfl); all_goals ((fail_if_success (refine known ?_ ?_; (· assumption))); intro _)) | ((first | apply WKC.gspB | apply WKO.gspB); (· rfl); all_goals ((fail_if_success (refine known ?_ ?_; (· assumption))); intro _)) | refine pN ?_ | refine pR ?_ | refine pX ?_ | refine bN ?_ | refine bR ?_ | refine bX ?_ | refine bO (by decide) ?_ | (apply WK.condT; (· rfl); (· exact dcd)) | (apply WK.condF; (· rfl); (· exact dcd)) | (apply WK.condD; (· rfl); all_goals intro _) | (apply WK.condN; (· rfl); all_goals intro _) | (apply WK.condB; (· rfl); all_goals intro _))
      refine ⟨J, esJ, fun _ => [(49, .ptr (H8.bump 2).next 0), (0, .ptr G 0), (1, nA s), (4, .nils), (5, .ptr b5 0), (8, .ptr (J + 1) 0)],
        fun done H2 => (∀ j, H2.get j = if j = J then some (.lmap esJ (H8.bump 2).next) else if j = I2 then some (.map (done.filter fun e => !inE esJ e)) else H8.get j) ∧ H8.next ≤ H2.next,
        [(0, .ptr G 0), (1, nA s), (4, .nils), (5, .ptr b5 0)], rfl, gJ8, (.cons rfl <| .cons rfl <| .cons rfl <| .cons rfl <| .cons rfl <| .cons rfl <| .nil _), ⟨fun j => ?_, ?_⟩, fun done H2 h2 => by rw [h2.1, if_pos rfl], fun _ => rfl, fun _ => rfl, fun done e todo hp H2 h2 => ?_, fun r r' H2 H3 hr hr' h2 h3 j => ?_, fun _ _ => (.cons rfl <| .cons rfl <| .cons rfl <| .cons rfl <| .nil _), fun r H2 H3 hr h2 hg3 hn3 => ?_⟩
      · show ((H8.m.set J _).get j) = _
        rw [Tr.get_set]
        split
        · rfl
        · split
          · rename_i e; rw [e]; exact gI8
          · rfl
      · show H8.next ≤ H8.next + 2 + 1
        omega
      · obtain ⟨pe, hpe, he1, _⟩ := EntF.mem hE8 (hp.mem_iff.1 (by simp : e ∈ done ++ e :: todo))
        have ha := hFk pe hpe
        obtain ⟨ek, ev⟩ := e
        dsimp only at he1
        subst he1
        generalize pe.1 = a at ha hp ⊢
        have g82 : H2.get (J + 1) = some (.cells [.map J] none) := by rw [h2.1, if_neg (by omega), if_neg (by omega)]; exact g88
        have gJ2 : H2.get J = some (.lmap esJ (H8.bump 2).next) := by rw [h2.1, if_pos rfl]
        have g52 : H2.get b5 = some (.cells [.map I2] none) := by rw [h2.1, if_neg (by omega), if_neg (by omega)]; exact g58
        have gI2 : H2.get I2 = some (.map (done.filter fun e => !inE esJ e)) := by rw [h2.1, if_neg (by omega), if_pos rfl]
        dsimp only
        repeat' (first | refine WK.seq ?_ | refine WK.skip ?_ | refine WK.ret ?_ | refine WK.exit ?_ | refine WK.block ?_ | (apply WK.reg; (· exact lnn)) | (apply WK.regC; (· rfl); (· exact lnn); (· decide)) | (apply WK.regd0; (· exact lnn)) | refine WKC.nil ?_ | refine WKO.nil ?_ | ((first | apply WKC.op | apply WKO.op | ((first | apply WKC.gop | apply WKO.gop); (· rfl); (· exact dcd))); (· first | exact k_mv rfl | exact opA); (· rfl)) | ((first | apply WKC.gnoT | apply WKO.gnoT | apply WKC.gnoF | apply WKO.gnoF); (· rfl); (· exact dcd)) | ((first | apply WKC.gnu | apply WKO.gnu); (· rfl)) | ((first | apply WKC.gsp | apply WKO.gsp); (· rfl); all_goals ((fail_if_success (refine known ?_ ?_; (· assumption))); intro _)) | ((first | apply WKC.gspB | apply WKO.gspB); (· rfl); all_goals ((fail_if_success (refine known ?_ ?_; (· assumption))); intro _)) | refine pN ?_ | refine pR ?_ | refine pX ?_ | refine bN ?_ | refine bR ?_ | refine bX ?_ | refine bO (by decide) ?_ | (apply WK.condT; (· rfl); (· exact dcd)) | (apply WK.condF; (· rfl); (· exact dcd)) | (apply WK.condD; (· rfl); all_goals intro _) | (apply WK.condN; (· rfl); all_goals intro _) | (apply WK.condB; (· rfl); all_goals intro _))
        refine WK.mrangeL (k := 2) (k' := 3) rfl rfl ?_
        repeat' (first | refine WK.seq ?_ | refine WK.skip ?_ | refine WK.ret ?_ | refine WK.exit ?_ | refine WK.block ?_ | (apply WK.reg; (· exact lnn)) | (apply WK.regC; (· rfl); (· exact lnn); (· decide)) | (apply WK.regd0; (· exact lnn)) | refine WKC.nil ?_ | refine WKO.nil ?_ | ((first | apply WKC.op | apply WKO.op | ((first | apply WKC.gop | apply WKO.gop); (· rfl); (· exact dcd))); (· first | exact k_mv rfl | (apply k_ldX; (· rfl); (· exact g82); (· rfl)) | exact opA); (· rfl)) | ((first | apply WKC.gnoT | apply WKO.gnoT | apply WKC.gnoF | apply WKO.gnoF); (· rfl); (· exact dcd)) | ((first | apply WKC.gnu | apply WKO.gnu); (· rfl)) | ((first | apply WKC.gsp | apply WKO.gsp); (· rfl); all_goals ((fail_if_success (refine known ?_ ?_; (· assumption))); intro _)) | ((first | apply WKC.gspB | apply WKO.gspB); (· rfl); all_goals ((fail_if_success (refine known ?_ ?_; (· assumption))); intro _)) | refine pN ?_ | refine pR ?_ | refine pX ?_ | refine bN ?_ | refine bR ?_ | refine bX ?_ | refine bO (by decide) ?_ | (apply WK.condT; (· rfl); (· exact dcd)) | (apply WK.condF; (· rfl); (· exact dcd)) | (apply WK.condD; (· rfl); all_goals intro _) | (apply WK.condN; (· rfl); all_goals intro _) | (apply WK.condB; (· rfl); all_goals intro _))
        refine ⟨J, (H8.bump 2).next, esJ, fun d => [(56, .ptr _ 0), (13, .bool (d.any fun q => decide (a ≠ keyN q.1) && decide (sdiff a (keyN q.1) = 0))), (0, .ptr G 0), (1, nA s), (4, .nils), (5, .ptr b5 0), (8, .ptr (J + 1) 0), (49, .ptr (H8.bump 2).next 0), (11, sA a), (12, ev)],
          [(13, .bool (inE esJ (sA a, ev))), (0, .ptr G 0), (1, nA s), (4, .nils), (5, .ptr b5 0), (8, .ptr (J + 1) 0), (49, .ptr (H8.bump 2).next 0), (11, sA a), (12, ev)], rfl, gJ2, (.cons rfl <| .cons rfl <| .cons rfl <| .cons rfl <| .cons rfl <| .cons rfl <| .cons rfl <| .cons rfl <| .cons rfl <| .cons rfl <| .nil _), fun _ => rfl, fun _ => rfl, fun d e' todo' hp' H5 hm5 hn5 => ?_, fun r hr => ?_, fun H5 hm5 hn5 => ?_⟩
        · obtain ⟨pe', hpe', he1', _⟩ := EntF.mem hE8 (hp'.mem_iff.1 (by simp : e' ∈ d ++ e' :: todo'))
          have hb := hFk pe' hpe'
          obtain ⟨ek', ev'⟩ := e'
          dsimp only at he1'
          subst he1'
          generalize pe'.1 = b at hb hp' ⊢
          have hany : ((d ++ [(sA b, ev')]).any fun q => decide (a ≠ keyN q.1) && decide (sdiff a (keyN q.1) = 0)) = ((d.any fun q => decide (a ≠ keyN q.1) && decide (sdiff a (keyN q.1) = 0)) || (decide (a ≠ b) && decide (sdiff a b = 0))) := by
            rw [List.any_append]
            simp only [List.any_cons, List.any_nil, Bool.or_false]
            rfl
          dsimp only
          rw [hany]
          generalize (d.any fun q => decide (a ≠ keyN q.1) && decide (sdiff a (keyN q.1) = 0)) = X
          repeat' (first | refine WK.seq ?_ | refine WK.skip ?_ | refine WK.ret ?_ | refine WK.exit ?_ | refine WK.block ?_ | (apply WK.reg; (· exact lnn)) | (apply WK.regC; (· rfl); (· exact lnn); (· decide)) | (apply WK.regd0; (· exact lnn)) | refine WKC.nil ?_ | refine WKO.nil ?_ | ((first | apply WKC.op | apply WKO.op | ((first | apply WKC.gop | apply WKO.gop); (· rfl); (· exact dcd))); (· first | exact k_mv rfl | exact k_neq16 rfl rfl | exact k_dif16 rfl rfl ha hb | exact k_eql16 rfl rfl | exact opA); (· rfl)) | ((first | apply WKC.gnoT | apply WKO.gnoT | apply WKC.gnoF | apply WKO.gnoF); (· rfl); (· exact dcd)) | ((first | apply WKC.gnu | apply WKO.gnu); (· rfl)) | ((first | apply WKC.gsp | apply WKO.gsp); (· rfl); all_goals ((fail_if_success (refine known ?_ ?_; (· assumption))); intro _)) | ((first | apply WKC.gspB | apply WKO.gspB); (· rfl); all_goals ((fail_if_success (refine known ?_ ?_; (· assumption))); intro _)) | refine pN ?_ | refine pR ?_ | refine pX ?_ | refine bN ?_ | refine bR ?_ | refine bX ?_ | refine bO (by decide) ?_ | (apply WK.condT; (· rfl); (· exact dcd)) | (apply WK.condF; (· rfl); (· exact dcd)) | (apply WK.condD; (· rfl); all_goals intro _) | (apply WK.condN; (· rfl); all_goals intro _) | (apply WK.condB; (· rfl); all_goals intro _))
          · rename_i hX
            exact ⟨.inl rfl, (.cons rfl <| .cons (by rw [hX]; rfl) <| .cons rfl <| .cons rfl <| .cons rfl <| .cons rfl <| .cons rfl <| .cons rfl <| .cons rfl <| .cons rfl <| .nil _), hm5, by simp only [next_bump] at *; omega⟩
          · rename_i hX hab
            exact ⟨.inl rfl, (.cons rfl <| .cons (by rw [hX, decide_eq_true hab]; rfl) <| .cons rfl <| .cons rfl <| .cons rfl <| .cons rfl <| .cons rfl <| .cons rfl <| .cons rfl <| .cons rfl <| .nil _), hm5, by simp only [next_bump] at *; omega⟩
          · rename_i hX hab
            exact ⟨.inl rfl, (.cons rfl <| .cons (by rw [hX, decide_eq_false hab]; rfl) <| .cons rfl <| .cons rfl <| .cons rfl <| .cons rfl <| .cons rfl <| .cons rfl <| .cons rfl <| .cons rfl <| .nil _), hm5, by simp only [next_bump] at *; omega⟩
        · have e : (r.any fun q => decide (a ≠ keyN q.1) && decide (sdiff a (keyN q.1) = 0)) = inE esJ (sA a, ev) := by rw [hr.any_eq]; rfl
          dsimp only
          rw [e]
          exact (.cons rfl <| .cons rfl <| .cons rfl <| .cons rfl <| .cons rfl <| .cons rfl <| .cons rfl <| .cons rfl <| .cons rfl <| .nil _)
        · have hg5 : ∀ j, H5.get j = H2.get j := fun j => (show H5.m.get j = _ by rw [hm5]; rfl)
          have hn5' : H2.next ≤ H5.next := by simp only [next_bump] at hn5; omega
          have hnd : (((done ++ (sA a, ev) :: todo).map (·.1))).Nodup := by
            refine (hp.map _).nodup_iff.2 ?_
            rw [hE8.keys]
            rw [List.nodup_iff_pairwise_ne, List.pairwise_map] at hFn ⊢
            exact hFn.imp fun {p q} hne e => hne (by
              have : ((p.1 : Nat) : Int) = q.1 := by injection e
              omega)
          have hup : updE K16 [Lit.int .u16 (a : Int)] (sA a) ev (done.filter fun e => !inE esJ e) = some ((done.filter fun e => !inE esJ e) ++ [(sA a, ev)]) := by
            have := findE_none (a := a) rfl (done.filter fun e => !inE esJ e) 0 (fun e he => by
              have he := (List.mem_filter.1 he).1
              obtain ⟨q, hq, hq1, _⟩ := EntF.mem hE8 (hp.mem_iff.1 (by simp [he] : e ∈ done ++ (sA a, ev) :: todo))
              refine ⟨q.1, hq1, hFk q hq, fun e2 => ?_⟩
              rw [List.map_append, List.nodup_append] at hnd
              exact hnd.2.2 e.1 (List.mem_map_of_mem he) (sA a) (by simp) (by rw [hq1, e2]))
            simp only [updE, this]
          repeat' (first | refine WK.seq ?_ | refine WK.skip ?_ | refine WK.ret ?_ | refine WK.exit ?_ | refine WK.block ?_ | (apply WK.reg; (· exact lnn)) | (apply WK.regC; (· rfl); (· exact lnn); (· decide)) | (apply WK.regd0; (· exact lnn)) | refine WKC.nil ?_ | refine WKO.nil ?_ | ((first | apply WKC.op | apply WKO.op | ((first | apply WKC.gop | apply WKO.gop); (· rfl); (· exact dcd))); (· first | exact k_mv rfl | (apply k_ldX; (· rfl); (· exact (hg5 _).trans g52); (· rfl)) | exact opA); (· rfl)) | ((first | apply WKC.gnoT | apply WKO.gnoT | apply WKC.gnoF | apply WKO.gnoF); (· rfl); (· exact dcd)) | ((first | apply WKC.gnu | apply WKO.gnu); (· rfl)) | ((first | apply WKC.gsp | apply WKO.gsp); (· rfl); all_goals ((fail_if_success (refine known ?_ ?_; (· assumption))); intro _)) | ((first | apply WKC.gspB | apply WKO.gspB); (· rfl); all_goals ((fail_if_success (refine known ?_ ?_; (· assumption))); intro _)) | refine pN ?_ | refine pR ?_ | refine pX ?_ | refine bN ?_ | refine bR ?_ | refine bX ?_ | refine bO (by decide) ?_ | (apply WK.condT; (· rfl); (· exact dcd)) | (apply WK.condF; (· rfl); (· exact dcd)) | (apply WK.condD; (· rfl); all_goals intro _) | (apply WK.condN; (· rfl); all_goals intro _) | (apply WK.condB; (· rfl); all_goals intro _))
          · rename_i hk
            refine WKO.opn (k_updX rfl rfl rfl ((hg5 _).trans gI2) (key16 ha) hup) rfl (WKO.nil ⟨.inl rfl, (.cons rfl <| .cons rfl <| .cons rfl <| .cons rfl <| .cons rfl <| .cons rfl <| .nil _), fun j => ?_, ?_⟩)
            · rw [AHeap.get_set]
              by_cases e : j = I2
              · subst e
                rw [if_pos rfl, if_neg (by omega), if_pos rfl, List.filter_append, List.filter_cons, hk]
                rfl
              · rw [if_neg e]
                refine (hg5 j).trans ?_
                rw [h2.1, if_neg e, if_neg e]
            · rw [next_set]
              simp only [next_bump]
              have := h2.2
              omega
          · rename_i hk
            refine ⟨.inl rfl, (.cons rfl <| .cons rfl <| .cons rfl <| .cons rfl <| .cons rfl <| .cons rfl <| .nil _), fun j => (hg5 j).trans ?_, ?_⟩
            · rw [h2.1, List.filter_append, List.filter_cons, hk]
              simp only [Bool.not_true, Bool.false_eq_true, if_false, List.filter_nil, List.append_nil]
            · simp only [next_bump]
              have := h2.2
              omega
      · rw [h2.1, h3.1]
        split
        · exact objEq_refl _
        · split
          · exact permEq_of ((hr.trans hr'.symm).filter _)
          · exact objEq_refl _
      · refine ⟨nofun, fun _ hcl3 => ⟨fun _ => ?_, fun q => absurd rfl q⟩⟩
        have hne : I2 ≠ J := by omega
        have gI3 : H3.get I2 = some (.map (r.filter fun e => !inE esJ e)) := by rw [hg3, if_neg hne, h2.1, if_neg hne, if_pos rfl]
        have g3 : ∀ j, j ≠ I2 → H3.get j = H8.get j := fun j hj => by
          rw [hg3]
          split
          · rename_i e; rw [e, gJ8]
          · rename_i e; rw [h2.1, if_neg e, if_neg hj]
        have hkr3 : Kr H8 H3 := Kr.but (Nat.le_trans h2.2 hn3) gI8 (fun _ _ => nofun) fun k _ hk => g3 k hk
        obtain ⟨F2, hp2, hE2⟩ := EntF.perm hr.symm hE8
        have hEf := (EntF.filter hE8 hE2).kr hkr3
        have hwp : (F2.filter fun p => !inO F' p.1).Perm (maxF (nextF N W ks)) := by
          rw [← heq]
          exact hp2.filter _
        have h3n : H8.next ≤ H3.next := Nat.le_trans h2.2 hn3
        refine ⟨F2.filter fun p => !inO F' p.1, (.cons rfl <| .cons rfl <| .cons rfl <| .cons rfl <| .nil _), ⟨winv_next (by omega) hN2 hw s1 hwp, fun j hj => ?_, ⟨I2, H3.next, _, by omega, ?_, hEf⟩, hcl3.1 hcl⟩, hkT⟩
        · rcases Nat.lt_or_ge j k with q | q
          · exact hlo j q
          · obtain rfl : j = k := by omega
            exact hnot
        · exact {
            obj := by simp only [List.mem_cons, List.not_mem_nil, or_false, forall_eq_or_imp, forall_eq]; exact ⟨(g3 b5 (by omega)).trans g58, gI3⟩
            lt := by simp only [List.mem_cons, List.not_mem_nil, or_false, forall_eq_or_imp, forall_eq]; exact ⟨by omega, by omega⟩
            nd := by simp; omega
            base := by omega
            le := Nat.le_refl _
            fr := fun j hj _ => by rw [g3 j (by omega), fr8 j (by omega) (by omega), hF4.fr j (by omega) (by simp only [List.mem_singleton]; omega), hF.fr j hj (by simp)] }
  · repeat' (first | refine WK.seq ?_ | refine WK.skip ?_ | refine WK.ret ?_ | refine WK.exit ?_ | refine WK.block ?_ | (apply WK.reg; (· exact lnn)) | (apply WK.regC; (· rfl); (· exact lnn); (· decide)) | (apply WK.regd0; (· exact lnn)) | (apply WKO.boxO; (· rfl); (· assumption); (· rfl); (· exact nxx); (· exact nxx); (· exact nxx); intro _ _ _) | (apply WKO.alO; (· assumption); (· rfl); (· exact nxx); (· exact nxx); (· exact nxx); intro _ _ _) | (apply WKO.mapO; (· assumption); (· rfl); (· exact nxx); (· exact nxx); (· exact nxx); intro _ _ _) | (apply WKO.bsO; (· rfl); (· rfl); (· assumption); (· rfl); (· exact nxx); (· exact nxx); (· exact nxx); intro _ _ _) | (apply WKO.stO0; (· rfl); (· rfl); (· assumption); (· rfl); (· exact nxx); (· first | exact .inr nxx | exact .inl (by simp)); (· rfl); (· rfl); (· first | decide | (simp; done) | omega); intro _ _ _) | (apply WKO.stO1; (· rfl); (· rfl); (· assumption); (· rfl); (· exact nxx); (· first | exact .inr nxx | exact .inl (by simp)); (· rfl); (· rfl); (· first | decide | (simp; done) | omega); intro _ _ _) | (apply WKO.stO2; (· rfl); (· rfl); (· assumption); (· rfl); (· exact nxx); (· first | exact .inr nxx | exact .inl (by simp)); (· rfl); (· rfl); (· first | decide | (simp; done) | omega); intro _ _ _) | refine WKC.nil ?_ | refine WKO.nil ?_ | ((first | apply WKC.op | apply WKO.op | ((first | apply WKC.gop | apply WKO.gop); (· rfl); (· exact dcd))); (· first | exact k_mv rfl | exact k_shl16 rfl rfl (by omega) | exact k_sub16 rfl rfl Nat.one_le_two_pow (by omega) | (apply k_lookX; (· rfl); (· rfl); (· exact gI); (· exact key16 hfull); (· exact f2); (· rfl)) | (apply k_ldO; (· rfl); (· assumption); (· rfl); (· exact mmb); (· rfl)) | (apply k_ldA; (· rfl); (· assumption); (· rfl); (· exact mmb); (· first | rfl | assumption | (simp; done))) | exact k_faddr rfl | exact k_nilc rfl | exact opA); (· rfl)) | ((first | apply WKC.gnoT | apply WKO.gnoT | apply WKC.gnoF | apply WKO.gnoF); (· rfl); (· exact dcd)) | ((first | apply WKC.gnu | apply WKO.gnu); (· rfl)) | ((first | apply WKC.gsp | apply WKO.gsp); (· rfl); all_goals ((fail_if_success (refine known ?_ ?_; (· assumption))); intro _)) | ((first | apply WKC.gspB | apply WKO.gspB); (· rfl); all_goals ((fail_if_success (refine known ?_ ?_; (· assumption))); intro _)) | refine pN ?_ | refine pR ?_ | refine pX ?_ | refine bN ?_ | refine bR ?_ | refine bX ?_ | refine bO (by decide) ?_ | (apply WK.condT; (· rfl); (· exact dcd)) | (apply WK.condF; (· rfl); (· exact dcd)) | (apply WK.condD; (· rfl); all_goals intro _) | (apply WK.condN; (· rfl); all_goals intro _) | (apply WK.condB; (· rfl); all_goals intro _))
    intro _
    refine ⟨nofun, fun _ => ⟨rfl, _, rfl, ?_⟩⟩
    obtain ⟨p, hp, hpe⟩ := List.mem_map.1 (hasF_iff.1 f1)
    have hlk : lookW W (2 ^ m - 1) = p.2 := lookW_mem hw.nd (by rw [← hpe]; exact hp)
    obtain ⟨o1, o2, o3, o4⟩ := hw.ok p hp
    rw [hlk] at f3
    have hkp : Kp H ((((H.bump 13).bump 1).bump 2)) := Kp.eqm rfl (by simp only [next_bump]; omega)
    refine ⟨k, p.2, ?_, o2, f3.kr hkp.kr, by rw [o3, hpe, hNl], o4, hF.kp.trans hkp⟩
    refine ⟨?_, fun j hj => by rw [hNl]; exact hlo j hj⟩
    rw [← winv_full hw, ← hasF_iff, hNl]
    exact f1
end Go.Proofs.Ytpbighinamljbaa.PA
