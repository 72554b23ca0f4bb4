/- Ranges over maps, walked: whatever the order, one end. No condition. -/
import Derived.Test.YtpbighinamljbaaSym
set_option linter.unusedSimpArgs false
set_option linter.unusedVariables false
namespace Go.Eng
theorem insAll_mem {α : Type} {x : α} : ∀ {l r : List α}, r ∈ insAll x l → r.Perm (x :: l)
  | [], r, h => by simp only [insAll, List.mem_singleton] at h; rw [h]
  | y :: l, r, h => by
    simp only [insAll, List.mem_cons, List.mem_map] at h
    rcases h with rfl | ⟨q, hq, rfl⟩
    · exact .refl _
    · exact ((insAll_mem hq).cons y).trans (.swap x y l)
theorem permsL_mem {α : Type} : ∀ {l r : List α}, r ∈ permsL l → r.Perm l
  | [], r, h => by simp only [permsL, List.mem_singleton] at h; rw [h]
  | x :: l, r, h => by
    simp only [permsL, List.mem_flatMap] at h
    obtain ⟨q, hq, hr⟩ := h
    exact (insAll_mem hr).trans ((permsL_mem hq).cons x)
theorem objEq_none {o : Option AObj} (h : objEq none o = true) : o = none := by
  cases o with
  | none => rfl
  | some x => cases x <;> simp [objEq] at h
theorem objEq_none' {o : Option AObj} (h : objEq o none = true) : o = none := by
  cases o with
  | none => rfl
  | some x => cases x <;> simp [objEq] at h
theorem noneB_of {α : Type} : ∀ {t : Tr α}, (∀ k, t.get k = none) → t.noneB = true
  | .e, _ => rfl
  | .n l v r, h => by
    have h0 : v = none := by simpa [Tr.get] using h 0
    have hl : ∀ k, l.get k = none := fun k => by
      have := h (2 * k + 1)
      simp only [Tr.get] at this
      rwa [if_pos (by simp), show 2 * k / 2 = k by omega] at this
    have hr : ∀ k, r.get k = none := fun k => by
      have := h (2 * k + 1 + 1)
      simp only [Tr.get] at this
      rwa [if_neg (by simp), show (2 * k + 1) / 2 = k by omega] at this
    simp [Tr.noneB, noneB_of hl, noneB_of hr, h0]
theorem trEq_of : ∀ {t t' : Tr AObj}, (∀ k, objEq (t.get k) (t'.get k) = true) → trEq t t' = true
  | .e, t', h => by
    cases t' <;> exact noneB_of fun k => objEq_none (by have := h k; rwa [Tr.get_e] at this)
  | .n l v r, .e, h => noneB_of (t := .n l v r) fun k => objEq_none' (by have := h k; rwa [Tr.get_e] at this)
  | .n l v r, .n l' v' r', h => by
    have h0 : objEq v v' = true := by simpa [Tr.get] using h 0
    have hl : trEq l l' = true := trEq_of fun k => by
      have := h (2 * k + 1)
      simp only [Tr.get] at this
      rwa [if_pos (by simp), if_pos (by simp), show 2 * k / 2 = k by omega] at this
    have hr : trEq r r' = true := trEq_of fun k => by
      have := h (2 * k + 1 + 1)
      simp only [Tr.get] at this
      rwa [if_neg (by simp), if_neg (by simp), show (2 * k + 1) / 2 = k by omega] at this
    simp [trEq, h0, hl, hr]
theorem tmMeet_get : ∀ {t t' : Tr AV} {d : Nat} {v : AV}, t.get d = some v → t'.get d = some v → (tmMeet t t').get d = some v
  | .e, _, d, v, h, _ => by simp [Tr.get] at h
  | .n _ _ _, .e, d, v, _, h => by simp [Tr.get] at h
  | .n l x r, .n l' x' r', 0, v, h, h' => by
    simp only [Tr.get] at h h'
    simp only [tmMeet, Tr.get, h, h', AV.beq_refl, if_true]
  | .n l x r, .n l' x' r', d + 1, v, h, h' => by
    simp only [Tr.get] at h h'
    simp only [tmMeet, Tr.get]
    split
    · rename_i q
      rw [if_pos q] at h h'
      exact tmMeet_get h h'
    · rename_i q
      rw [if_neg q] at h h'
      exact tmMeet_get h h'
theorem meetR_ex : ∀ (l : List (Option (XE × St))) (s : St) (P : St → Prop), P s → (∀ q ∈ l, ∃ s', q = some (.normal, s') ∧ P s') → (∀ s s', P s → P s' → trEq s.H.m s'.H.m = true) →
    ∀ s0 : St, s0.H.m = s.H.m → s.H.next ≤ s0.H.next → (∀ d v, (∀ t, P t → t.tm.get d = some v) → s0.tm.get d = some v) →
    ∃ s1, meetR .normal s0 l = some (.normal, s1) ∧ s1.H.m = s.H.m ∧ s.H.next ≤ s1.H.next ∧ ∀ d v, (∀ t, P t → t.tm.get d = some v) → s1.tm.get d = some v
  | [], s, P, hs, _, _, s0, h1, h2, h3 => ⟨s0, rfl, h1, h2, h3⟩
  | q :: l, s, P, hs, hl, ht, s0, h1, h2, h3 => by
    obtain ⟨s', rfl, hs'⟩ := hl q (by simp)
    obtain ⟨s1, q1, q2, q3, q4⟩ := meetR_ex l s P hs (fun q hq => hl q (by simp [hq])) ht ⟨tmMeet s0.tm s'.tm, ⟨s0.H.m, Nat.max s0.H.next s'.H.next⟩⟩ h1 (Nat.le_trans h2 (Nat.le_max_left _ _)) (fun d v hd => tmMeet_get (h3 d v hd) (hd s' hs'))
    refine ⟨s1, ?_, q2, q3, q4⟩
    have e : (XE.beq .normal .normal && trEq s0.H.m s'.H.m) = true := by rw [h1, ht s s' hs hs']; rfl
    rw [meetR, if_pos e]
    exact q1
theorem meetAll_ex {l : List (Option (XE × St))} {P : St → Prop} (hne : l ≠ []) (hl : ∀ q ∈ l, ∃ s', q = some (.normal, s') ∧ P s') (ht : ∀ s s', P s → P s' → trEq s.H.m s'.H.m = true) :
    ∃ s s1, P s ∧ meetAll l = some (.normal, s1) ∧ s1.H.m = s.H.m ∧ s.H.next ≤ s1.H.next ∧ ∀ d v, (∀ t, P t → t.tm.get d = some v) → s1.tm.get d = some v := by
  cases l with
  | nil => exact absurd rfl hne
  | cons q l =>
    obtain ⟨s, rfl, hs⟩ := hl q (by simp)
    obtain ⟨s1, h⟩ := meetR_ex l s P hs (fun q hq => hl q (by simp [hq])) ht s rfl (Nat.le_refl _) (fun d v hd => hd s hs)
    exact ⟨s, s1, hs, h⟩
/-- Temporaries that are not named stay known. -/
def notIn (a b : Nat) (l : KL0) : Bool := l.all fun p => !(Nat.beq p.1 a) && !(Nat.beq p.1 b)
theorem look_ne {l : KL0} {a b d : Nat} {v : AV} (h : notIn a b l = true) (hd : look l d = some v) : d ≠ a ∧ d ≠ b := by
  induction l with
  | nil => cases hd
  | cons p l ih =>
    obtain ⟨e, u⟩ := p
    simp only [notIn, List.all_cons, Bool.and_eq_true, Bool.not_eq_true'] at h
    unfold look at hd
    split at hd
    · rename_i q
      have : d = e := by simpa using q
      subst this
      obtain ⟨⟨h1, h2⟩, _⟩ := h
      exact ⟨fun w => by subst w; simp at h1, fun w => by subst w; simp at h2⟩
    · exact ih (by unfold notIn; exact h.2) hd
theorem Kw.drop {tm : Tr AV} {l : KL0} {a b : Nat} (h : Kw tm l) (hn : notIn a b l = true) : Kw ((tm.set a none).set b none) l := fun d v hd => by
  obtain ⟨h1, h2⟩ := look_ne hn hd
  rw [Tr.get_set_ne _ _ h2, Tr.get_set_ne _ _ h1]
  exact h d v hd
section
variable {cf : CF} {fuel : Nat}
/-- One order's run. -/
theorem mrun_ex {i it t tl nx mo out : Nat} {rnd : AV × AV → St → Option (XE × St)} {es : List (AV × AV)} (L : List (AV × AV) → KL0) (I : List (AV × AV) → AHeap → Prop)
    (hlk : ∀ done H, I done H → isLock tl (H.get i) = true) (hit : ∀ done, look (L done) it = some (.ptr t 0)) (hnm : ∀ done, notIn nx mo (L done) = true)
    (hstep : ∀ done e todo, (done ++ e :: todo).Perm es → ∀ s, Kw s.tm (L done) → I done s.H → ∃ s', rnd e s = some (.normal, s') ∧ Kw s'.tm (L (done ++ [e])) ∧ I (done ++ [e]) s'.H) :
    ∀ (todo done : List (AV × AV)) (s : St), (done ++ todo).Perm es → Kw s.tm (L done) → I done s.H →
      ∃ s', mrun (fun s => isLock tl (s.H.get i) && isIt t (s.tm.get it)) (fun s => ⟨(s.tm.set nx none).set mo none, s.H⟩) rnd out todo s = some (.normal, s') ∧ Kw s'.tm (L (done ++ todo)) ∧ I (done ++ todo) s'.H
  | [], done, s, hp, hk, hI => by
    have hok : (isLock tl (s.H.get i) && isIt t (s.tm.get it)) = true := by rw [hlk done _ hI, hk _ _ (hit done)]; simp [isIt]
    refine ⟨⟨(s.tm.set nx none).set mo none, s.H⟩, by simp only [mrun, hok, if_true], ?_, by simpa using hI⟩
    rw [List.append_nil]
    exact hk.drop (hnm done)
  | e :: todo, done, s, hp, hk, hI => by
    have hok : (isLock tl (s.H.get i) && isIt t (s.tm.get it)) = true := by rw [hlk done _ hI, hk _ _ (hit done)]; simp [isIt]
    obtain ⟨s1, h1, h2, h3⟩ := hstep done e todo hp s hk hI
    obtain ⟨s', q1, q2, q3⟩ := mrun_ex L I hlk hit hnm hstep todo (done ++ [e]) s1 (by simpa using hp) h2 h3
    refine ⟨s', ?_, by simpa using q2, by simpa using q3⟩
    simp only [mrun, hok, if_true, h1]
    exact q1
theorem mrounds_ex {i it t tl nx mo out : Nat} {rnd : AV × AV → St → Option (XE × St)} {es : List (AV × AV)} {s : St} (L : List (AV × AV) → KL0) (I : List (AV × AV) → AHeap → Prop) (Lf : KL0)
    (hlk : ∀ done H, I done H → isLock tl (H.get i) = true) (hit : ∀ done, look (L done) it = some (.ptr t 0)) (hnm : ∀ done, notIn nx mo (L done) = true)
    (hstep : ∀ done e todo, (done ++ e :: todo).Perm es → ∀ s, Kw s.tm (L done) → I done s.H → ∃ s', rnd e s = some (.normal, s') ∧ Kw s'.tm (L (done ++ [e])) ∧ I (done ++ [e]) s'.H)
    (h0 : Kw s.tm (L [])) (hI0 : I [] s.H) (hmeet : ∀ r r' H H', r.Perm es → r'.Perm es → I r H → I r' H' → ∀ k, objEq (H.get k) (H'.get k) = true) (hf : ∀ r, r.Perm es → Sub (L r) Lf) :
    ∃ r H1 s1, r.Perm es ∧ I r H1 ∧ mrounds i it t tl nx mo out rnd es s = some (.normal, s1) ∧ s1.H.m = H1.m ∧ H1.next ≤ s1.H.next ∧ Kw s1.tm Lf := by
  have hall : ∀ q ∈ (permsL es).map (fun r => mrun (fun s => isLock tl (s.H.get i) && isIt t (s.tm.get it)) (fun s => ⟨(s.tm.set nx none).set mo none, s.H⟩) rnd out r s), ∃ s', q = some (.normal, s') ∧ ∃ r, r.Perm es ∧ Kw s'.tm (L r) ∧ I r s'.H := by
    intro q hq
    obtain ⟨r, hr, rfl⟩ := List.mem_map.1 hq
    obtain ⟨s', h1, h2, h3⟩ := mrun_ex (out := out) L I hlk hit hnm hstep r [] s (by simpa using permsL_mem hr) h0 hI0
    exact ⟨s', h1, r, permsL_mem hr, by simpa using h2, by simpa using h3⟩
  obtain ⟨s0, s1, ⟨r, p1, p2, p3⟩, q1, q2, q3, q4⟩ := meetAll_ex (P := fun s' => ∃ r, r.Perm es ∧ Kw s'.tm (L r) ∧ I r s'.H) (by
    intro w
    have := List.map_eq_nil_iff.1 w
    have hm := perms_mem (List.Perm.refl es)
    rw [this] at hm
    cases hm) hall (fun s s' ⟨r, a1, _, a3⟩ ⟨r', b1, _, b3⟩ => trEq_of (hmeet r r' _ _ a1 b1 a3 b3))
  exact ⟨r, s0.H, s1, p1, p3, q1, q2, q3, fun d v hd => q4 d v fun t ⟨r, a1, a2, _⟩ => a2 d v (hf r a1 d v hd)⟩
theorem WKO.use {ops : List XOper} {n : Nat} {l : KL0} {H : AHeap} {R : KL0 → AHeap → Prop} (h : WKO cf ops n l H R) {tm : Tr AV} (ht : Kw tm l) : ∃ s', xops cf ops n ⟨tm, H⟩ = some s' ∧ ∃ l', Kw s'.tm l' ∧ R l' s'.H := by
  unfold WKO at h
  have := h tm ht
  unfold WO at this
  exact this
theorem WK.use {c : XCode} {l : KL0} {H : AHeap} {Q : XE → KL0 → AHeap → Prop} (h : WK cf fuel c l H Q) {tm : Tr AV} (ht : Kw tm l) : ∃ e s', xcode cf fuel c ⟨tm, H⟩ = some (e, s') ∧ ∃ l', Kw s'.tm l' ∧ Q e l' s'.H := by
  unfold WK at h
  have := h tm ht
  unfold W at this
  exact this
/-- The code of one round. -/
def rndF (cf : CF) (fuel : Nat) (nx mo pr nb : Nat) (rest : List XOper) (code : XCode) (e : AV × AV) (s : St) : Option (XE × St) :=
  match xops cf rest (s.H.next + 1) (Go.Eng.bump ⟨((s.tm.set nx none).set mo none).set pr (some (.tup [e.1, e.2])), s.H⟩ (rest.length + 1)) with
  | none => none
  | some s2 => match xcode cf fuel code s2 with
    | some (.exit i, s3) => if i = nb then some (.normal, s3) else some (.exit i, s3)
    | r => r
theorem rnd_ex {nx mo pr nb k : Nat} {rest : List XOper} {code : XCode} {e : AV × AV} {s : St} {L : KL0} {Q : KL0 → AHeap → Prop} (hk : Kw s.tm L) (hnm : notIn nx mo L = true) (hlen : rest.length + 1 = k)
    (h : WKO cf rest (s.H.next + 1) ((pr, .tup [e.1, e.2]) :: L) (s.H.bump k) fun l3 H3 => WK cf fuel code l3 H3 fun x l4 H4 => (x = .normal ∨ x = .exit nb) ∧ Q l4 H4) :
    ∃ s', rndF cf fuel nx mo pr nb rest code e s = some (.normal, s') ∧ ∃ l4, Kw s'.tm l4 ∧ Q l4 s'.H := by
  subst hlen
  obtain ⟨s2, q1, l3, q2, q3⟩ := h.use ((hk.drop hnm).set pr _)
  obtain ⟨x, s3, r1, l4, r2, r3, r4⟩ := q3.use q2
  refine ⟨s3, ?_, l4, r2, r4⟩
  have q1' : xops cf rest (s.H.next + 1) (Go.Eng.bump ⟨((s.tm.set nx none).set mo none).set pr (some (.tup [e.1, e.2])), s.H⟩ (rest.length + 1)) = some s2 := q1
  have r1' : xcode cf fuel code s2 = some (x, s3) := r1
  unfold rndF
  simp only [q1', r1']
  rcases r3 with rfl | rfl <;> simp
/-- A range over a map that is not being ranged over. -/
theorem WK.mrange {pre rest : List XOper} {it : Nat} {m : XO} {out nx mo nb pr k k' : Nat} {code : XCode} {l : KL0} {H : AHeap} {Q : XE → KL0 → AHeap → Prop} (hlen : pre.length + 1 = k) (hlen' : rest.length + 1 = k')
    (h : WKO cf pre H.next l (H.bump k) fun l1 H1 => ∃ (i : Nat) (es : List (AV × AV)) (L : List (AV × AV) → KL0) (I : List (AV × AV) → AHeap → Prop) (Lf : KL0), evK l1 m = some (.map i) ∧ H1.get i = some (.map es) ∧
      Sub ((it, .ptr H1.next 0) :: l1) (L []) ∧ I [] ⟨H1.m.set i (some (.lmap es H1.next)), H1.next + 1⟩ ∧
      (∀ done H2, I done H2 → H2.get i = some (.lmap es H1.next)) ∧ (∀ done, look (L done) it = some (.ptr H1.next 0)) ∧ (∀ done, notIn nx mo (L done) = true) ∧
      (∀ done e todo, (done ++ e :: todo).Perm es → ∀ H2, I done H2 → WKO cf rest (H2.next + 1) ((pr, .tup [e.1, e.2]) :: L done) (H2.bump k') fun l3 H3 => WK cf fuel code l3 H3 fun x l4 H4 => (x = .normal ∨ x = .exit nb) ∧ Sub l4 (L (done ++ [e])) ∧ I (done ++ [e]) H4) ∧
      (∀ r r' H2 H3, r.Perm es → r'.Perm es → I r H2 → I r' H3 → ∀ j, objEq (H2.get j) (H3.get j) = true) ∧ (∀ r, r.Perm es → Sub (L r) Lf) ∧
      (∀ r H2 H3, r.Perm es → I r H2 → (∀ j, H3.get j = if j = i then some (.map es) else H2.get j) → H2.next ≤ H3.next → Q .normal Lf H3)) :
    WK cf fuel (.mrange pre it m out nx mo nb pr rest code) l H Q := by
  subst hlen
  unfold WK
  intro tm ht
  obtain ⟨s1, q1, l1, q2, i, es, L, I, Lf, hm, hi, hs0, hI0, hlk, hit, hnm, hstep, hmeet, hf, hQ⟩ := h.use ht
  obtain ⟨r, H1, s2, p1, p2, p3, p4, p5, p6⟩ := mrounds_ex (out := out) (i := i) (t := s1.H.next) (tl := s1.H.next) (rnd := rndF cf fuel nx mo pr nb rest code) (s := ⟨s1.tm.set it (some (.ptr s1.H.next 0)), ⟨s1.H.m.set i (some (.lmap es s1.H.next)), s1.H.next + 1⟩⟩) L I Lf
    (fun done H2 q => by rw [hlk done H2 q]; simp [isLock]) hit hnm (fun done e todo hp s hk hI => by
      obtain ⟨s', a1, l4, a2, a3, a4⟩ := rnd_ex hk (hnm done) hlen' (hstep done e todo hp s.H hI)
      exact ⟨s', a1, a2.sub a3, a4⟩) ((q2.set it _).sub hs0) hI0 hmeet hf
  have hget : s2.H.get i = some (.lmap es s1.H.next) := by
    unfold AHeap.get
    rw [p4]
    exact hlk r H1 p2
  unfold W
  refine ⟨.normal, ⟨s2.tm, s2.H.set i (some (.map es))⟩, ?_, Lf, p6, hQ r H1 _ p1 p2 (fun j => ?_) p5⟩
  · have q1' : xops cf pre H.next (Go.Eng.bump ⟨tm, H⟩ (pre.length + 1)) = some s1 := q1
    have p3' : mrounds i it s1.H.next s1.H.next nx mo out (fun (e : AV × AV) (s : St) =>
        match xops cf rest (s.H.next + 1) (Go.Eng.bump ⟨((s.tm.set nx none).set mo none).set pr (some (.tup [e.1, e.2])), s.H⟩ (rest.length + 1)) with
        | none => none
        | some s2 => match xcode cf fuel code s2 with
          | some (.exit i, s3) => if i = nb then some (.normal, s3) else some (.exit i, s3)
          | r => r) es ⟨s1.tm.set it (some (.ptr s1.H.next 0)), ⟨s1.H.m.set i (some (.lmap es s1.H.next)), s1.H.next + 1⟩⟩ = some (.normal, s2) := p3
    simp only [xcode, q1', q2.ev hm, hi]
    refine (congrArg (fun z => z.bind (unlockA i s1.H.next)) p3').trans ?_
    show unlockA i s1.H.next (.normal, s2) = _
    simp only [unlockA, hget, if_true]
  · rw [AHeap.get_set]
    split
    · rfl
    · unfold AHeap.get
      rw [p4]
end
end Go.Eng
