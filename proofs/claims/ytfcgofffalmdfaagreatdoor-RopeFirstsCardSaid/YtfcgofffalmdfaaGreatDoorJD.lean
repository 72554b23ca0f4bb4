/- Ranges over maps, walked: whatever the order, one end. No condition. -/
import Derived.Test.YtfcgofffalmdfaaGreatDoorJC
import Derived.Test.YtfcgofffalmdfaaGreatDoorJB
import Derived.Shelf.SlSortCmp.WholeK
import Derived.Ground.SlsfProg
import Derived.Test.YtfcgofffalmdfaaGreatDoorProg
import Derived.WalkKit
import Derived.KernelRfl
set_option linter.unusedSectionVars false
set_option linter.unusedVariables false
set_option linter.unusedSimpArgs false
namespace Go.Eng
theorem insAll_mem {α : Type} {x : α} : ∀ {l r : List α}, r ∈ insAll x l → r.Perm (x :: l)
  | [], r, h => by simp only [insAll, List.mem_singleton] at h; rw [h]
  | y :: l, r, h => by
    simp only [insAll, List.mem_cons, List.mem_map] at h
    rcases h with rfl | ⟨q, hq, rfl⟩
    · exact .refl _
    · exact ((insAll_mem hq).cons y).trans (.swap x y l)
theorem permsL_mem {α : Type} : ∀ {l r : List α}, r ∈ permsL l → r.Perm l
  | [], r, h => by simp only [permsL, List.mem_singleton] at h; rw [h]
  | x :: l, r, h => by
    simp only [permsL, List.mem_flatMap] at h
    obtain ⟨q, hq, hr⟩ := h
    exact (insAll_mem hr).trans ((permsL_mem hq).cons x)
theorem objEq_none {o : Option AObj} (h : objEq none o = true) : o = none := by
  cases o with
  | none => rfl
  | some x => cases x <;> simp [objEq] at h
theorem objEq_none' {o : Option AObj} (h : objEq o none = true) : o = none := by
  cases o with
  | none => rfl
  | some x => cases x <;> simp [objEq] at h
theorem noneB_of {α : Type} : ∀ {t : Tr α}, (∀ k, t.get k = none) → t.noneB = true
  | .e, _ => rfl
  | .n l v r, h => by
    have h0 : v = none := by simpa [Tr.get] using h 0
    have hl : ∀ k, l.get k = none := fun k => by
      have := h (2 * k + 1)
      simp only [Tr.get] at this
      rwa [if_pos (by simp), show 2 * k / 2 = k by omega] at this
    have hr : ∀ k, r.get k = none := fun k => by
      have := h (2 * k + 1 + 1)
      simp only [Tr.get] at this
      rwa [if_neg (by simp), show (2 * k + 1) / 2 = k by omega] at this
    simp [Tr.noneB, noneB_of hl, noneB_of hr, h0]
theorem trEq_of : ∀ {t t' : Tr AObj}, (∀ k, objEq (t.get k) (t'.get k) = true) → trEq t t' = true
  | .e, t', h => by
    cases t' <;> exact noneB_of fun k => objEq_none (by have := h k; rwa [Tr.get_e] at this)
  | .n l v r, .e, h => noneB_of (t := .n l v r) fun k => objEq_none' (by have := h k; rwa [Tr.get_e] at this)
  | .n l v r, .n l' v' r', h => by
    have h0 : objEq v v' = true := by simpa [Tr.get] using h 0
    have hl : trEq l l' = true := trEq_of fun k => by
      have := h (2 * k + 1)
      simp only [Tr.get] at this
      rwa [if_pos (by simp), if_pos (by simp), show 2 * k / 2 = k by omega] at this
    have hr : trEq r r' = true := trEq_of fun k => by
      have := h (2 * k + 1 + 1)
      simp only [Tr.get] at this
      rwa [if_neg (by simp), if_neg (by simp), show (2 * k + 1) / 2 = k by omega] at this
    simp [trEq, h0, hl, hr]
theorem tmMeet_get : ∀ {t t' : Tr AV} {d : Nat} {v : AV}, t.get d = some v → t'.get d = some v → (tmMeet t t').get d = some v
  | .e, _, d, v, h, _ => by simp [Tr.get] at h
  | .n _ _ _, .e, d, v, _, h => by simp [Tr.get] at h
  | .n l x r, .n l' x' r', 0, v, h, h' => by
    simp only [Tr.get] at h h'
    simp only [tmMeet, Tr.get, h, h', AV.beq_refl, if_true]
  | .n l x r, .n l' x' r', d + 1, v, h, h' => by
    simp only [Tr.get] at h h'
    simp only [tmMeet, Tr.get]
    split
    · rename_i q
      rw [if_pos q] at h h'
      exact tmMeet_get h h'
    · rename_i q
      rw [if_neg q] at h h'
      exact tmMeet_get h h'
theorem meetR_ex : ∀ (l : List (Option (XE × St))) (s : St) (P : St → Prop), P s → (∀ q ∈ l, ∃ s', q = some (.normal, s') ∧ P s') → (∀ s s', P s → P s' → trEq s.H.m s'.H.m = true) →
    ∀ s0 : St, s0.H.m = s.H.m → s.H.next ≤ s0.H.next → (∀ d v, (∀ t, P t → t.tm.get d = some v) → s0.tm.get d = some v) →
    ∃ s1, meetR .normal s0 l = some (.normal, s1) ∧ s1.H.m = s.H.m ∧ s.H.next ≤ s1.H.next ∧ ∀ d v, (∀ t, P t → t.tm.get d = some v) → s1.tm.get d = some v
  | [], s, P, hs, _, _, s0, h1, h2, h3 => ⟨s0, rfl, h1, h2, h3⟩
  | q :: l, s, P, hs, hl, ht, s0, h1, h2, h3 => by
    obtain ⟨s', rfl, hs'⟩ := hl q (by simp)
    obtain ⟨s1, q1, q2, q3, q4⟩ := meetR_ex l s P hs (fun q hq => hl q (by simp [hq])) ht ⟨tmMeet s0.tm s'.tm, ⟨s0.H.m, Nat.max s0.H.next s'.H.next⟩⟩ h1 (Nat.le_trans h2 (Nat.le_max_left _ _)) (fun d v hd => tmMeet_get (h3 d v hd) (hd s' hs'))
    refine ⟨s1, ?_, q2, q3, q4⟩
    have e : (XE.beq .normal .normal && trEq s0.H.m s'.H.m) = true := by rw [h1, ht s s' hs hs']; rfl
    rw [meetR, if_pos e]
    exact q1
theorem meetAll_ex {l : List (Option (XE × St))} {P : St → Prop} (hne : l ≠ []) (hl : ∀ q ∈ l, ∃ s', q = some (.normal, s') ∧ P s') (ht : ∀ s s', P s → P s' → trEq s.H.m s'.H.m = true) :
    ∃ s s1, P s ∧ meetAll l = some (.normal, s1) ∧ s1.H.m = s.H.m ∧ s.H.next ≤ s1.H.next ∧ ∀ d v, (∀ t, P t → t.tm.get d = some v) → s1.tm.get d = some v := by
  cases l with
  | nil => exact absurd rfl hne
  | cons q l =>
    obtain ⟨s, rfl, hs⟩ := hl q (by simp)
    obtain ⟨s1, h⟩ := meetR_ex l s P hs (fun q hq => hl q (by simp [hq])) ht s rfl (Nat.le_refl _) (fun d v hd => hd s hs)
    exact ⟨s, s1, hs, h⟩
def notIn (a b : Nat) (l : KL0) : Bool := l.all fun p => !(Nat.beq p.1 a) && !(Nat.beq p.1 b)
theorem look_ne {l : KL0} {a b d : Nat} {v : AV} (h : notIn a b l = true) (hd : look l d = some v) : d ≠ a ∧ d ≠ b := by
  induction l with
  | nil => cases hd
  | cons p l ih =>
    obtain ⟨e, u⟩ := p
    simp only [notIn, List.all_cons, Bool.and_eq_true, Bool.not_eq_true'] at h
    unfold look at hd
    split at hd
    · rename_i q
      have : d = e := by simpa using q
      subst this
      obtain ⟨⟨h1, h2⟩, _⟩ := h
      exact ⟨fun w => by subst w; simp at h1, fun w => by subst w; simp at h2⟩
    · exact ih (by unfold notIn; exact h.2) hd
theorem Kw.drop {tm : Tr AV} {l : KL0} {a b : Nat} (h : Kw tm l) (hn : notIn a b l = true) : Kw ((tm.set a none).set b none) l := fun d v hd => by
  obtain ⟨h1, h2⟩ := look_ne hn hd
  rw [Tr.get_set_ne _ _ h2, Tr.get_set_ne _ _ h1]
  exact h d v hd
section
variable {cf : CF} {fuel : Nat}
theorem mrun_ex {i it t tl nx mo out : Nat} {rnd : AV × AV → St → Option (XE × St)} {es : List (AV × AV)} (L : List (AV × AV) → KL0) (I : List (AV × AV) → AHeap → Prop)
    (hlk : ∀ done H, I done H → isLock tl (H.get i) = true) (hit : ∀ done, look (L done) it = some (.ptr t 0)) (hnm : ∀ done, notIn nx mo (L done) = true)
    (hstep : ∀ done e todo, (done ++ e :: todo).Perm es → ∀ s, Kw s.tm (L done) → I done s.H → ∃ s', rnd e s = some (.normal, s') ∧ Kw s'.tm (L (done ++ [e])) ∧ I (done ++ [e]) s'.H) :
    ∀ (todo done : List (AV × AV)) (s : St), (done ++ todo).Perm es → Kw s.tm (L done) → I done s.H →
      ∃ s', mrun (fun s => isLock tl (s.H.get i) && isIt t (s.tm.get it)) (fun s => ⟨(s.tm.set nx none).set mo none, s.H⟩) rnd out todo s = some (.normal, s') ∧ Kw s'.tm (L (done ++ todo)) ∧ I (done ++ todo) s'.H
  | [], done, s, hp, hk, hI => by
    have hok : (isLock tl (s.H.get i) && isIt t (s.tm.get it)) = true := by rw [hlk done _ hI, hk _ _ (hit done)]; simp [isIt]
    refine ⟨⟨(s.tm.set nx none).set mo none, s.H⟩, by simp only [mrun, hok, if_true], ?_, by simpa using hI⟩
    rw [List.append_nil]
    exact hk.drop (hnm done)
  | e :: todo, done, s, hp, hk, hI => by
    have hok : (isLock tl (s.H.get i) && isIt t (s.tm.get it)) = true := by rw [hlk done _ hI, hk _ _ (hit done)]; simp [isIt]
    obtain ⟨s1, h1, h2, h3⟩ := hstep done e todo hp s hk hI
    obtain ⟨s', q1, q2, q3⟩ := mrun_ex L I hlk hit hnm hstep todo (done ++ [e]) s1 (by simpa using hp) h2 h3
    refine ⟨s', ?_, by simpa using q2, by simpa using q3⟩
    simp only [mrun, hok, if_true, h1]
    exact q1
theorem mrounds_ex {i it t tl nx mo out : Nat} {rnd : AV × AV → St → Option (XE × St)} {es : List (AV × AV)} {s : St} (L : List (AV × AV) → KL0) (I : List (AV × AV) → AHeap → Prop) (Lf : KL0)
    (hlk : ∀ done H, I done H → isLock tl (H.get i) = true) (hit : ∀ done, look (L done) it = some (.ptr t 0)) (hnm : ∀ done, notIn nx mo (L done) = true)
    (hstep : ∀ done e todo, (done ++ e :: todo).Perm es → ∀ s, Kw s.tm (L done) → I done s.H → ∃ s', rnd e s = some (.normal, s') ∧ Kw s'.tm (L (done ++ [e])) ∧ I (done ++ [e]) s'.H)
    (h0 : Kw s.tm (L [])) (hI0 : I [] s.H) (hmeet : ∀ r r' H H', r.Perm es → r'.Perm es → I r H → I r' H' → ∀ k, objEq (H.get k) (H'.get k) = true) (hf : ∀ r, r.Perm es → Sub (L r) Lf) :
    ∃ r H1 s1, r.Perm es ∧ I r H1 ∧ mrounds i it t tl nx mo out rnd es s = some (.normal, s1) ∧ s1.H.m = H1.m ∧ H1.next ≤ s1.H.next ∧ Kw s1.tm Lf := by
  have hall : ∀ q ∈ (permsL es).map (fun r => mrun (fun s => isLock tl (s.H.get i) && isIt t (s.tm.get it)) (fun s => ⟨(s.tm.set nx none).set mo none, s.H⟩) rnd out r s), ∃ s', q = some (.normal, s') ∧ ∃ r, r.Perm es ∧ Kw s'.tm (L r) ∧ I r s'.H := by
    intro q hq
    obtain ⟨r, hr, rfl⟩ := List.mem_map.1 hq
    obtain ⟨s', h1, h2, h3⟩ := mrun_ex (out := out) L I hlk hit hnm hstep r [] s (by simpa using permsL_mem hr) h0 hI0
    exact ⟨s', h1, r, permsL_mem hr, by simpa using h2, by simpa using h3⟩
  obtain ⟨s0, s1, ⟨r, p1, p2, p3⟩, q1, q2, q3, q4⟩ := meetAll_ex (P := fun s' => ∃ r, r.Perm es ∧ Kw s'.tm (L r) ∧ I r s'.H) (by
    intro w
    have := List.map_eq_nil_iff.1 w
    have hm := perms_mem (List.Perm.refl es)
    rw [this] at hm
    cases hm) hall (fun s s' ⟨r, a1, _, a3⟩ ⟨r', b1, _, b3⟩ => trEq_of (hmeet r r' _ _ a1 b1 a3 b3))
  exact ⟨r, s0.H, s1, p1, p3, q1, q2, q3, fun d v hd => q4 d v fun t ⟨r, a1, a2, _⟩ => a2 d v (hf r a1 d v hd)⟩
theorem WKO.use {ops : List XOper} {n : Nat} {l : KL0} {H : AHeap} {R : KL0 → AHeap → Prop} (h : WKO cf ops n l H R) {tm : Tr AV} (ht : Kw tm l) : ∃ s', xops cf ops n ⟨tm, H⟩ = some s' ∧ ∃ l', Kw s'.tm l' ∧ R l' s'.H := by
  unfold WKO at h
  have := h tm ht
  unfold WO at this
  exact this
theorem WK.use {c : XCode} {l : KL0} {H : AHeap} {Q : XE → KL0 → AHeap → Prop} (h : WK cf fuel c l H Q) {tm : Tr AV} (ht : Kw tm l) : ∃ e s', xcode cf fuel c ⟨tm, H⟩ = some (e, s') ∧ ∃ l', Kw s'.tm l' ∧ Q e l' s'.H := by
  unfold WK at h
  have := h tm ht
  unfold W at this
  exact this
def rndF (cf : CF) (fuel : Nat) (nx mo pr nb : Nat) (rest : List XOper) (code : XCode) (e : AV × AV) (s : St) : Option (XE × St) :=
  match xops cf rest (s.H.next + 1) (Go.Eng.bump ⟨((s.tm.set nx none).set mo none).set pr (some (.tup [e.1, e.2])), s.H⟩ (rest.length + 1)) with
  | none => none
  | some s2 => match xcode cf fuel code s2 with
    | some (.exit i, s3) => if i = nb then some (.normal, s3) else some (.exit i, s3)
    | r => r
theorem rnd_ex {nx mo pr nb k : Nat} {rest : List XOper} {code : XCode} {e : AV × AV} {s : St} {L : KL0} {Q : KL0 → AHeap → Prop} (hk : Kw s.tm L) (hnm : notIn nx mo L = true) (hlen : rest.length + 1 = k)
    (h : WKO cf rest (s.H.next + 1) ((pr, .tup [e.1, e.2]) :: L) (s.H.bump k) fun l3 H3 => WK cf fuel code l3 H3 fun x l4 H4 => (x = .normal ∨ x = .exit nb) ∧ Q l4 H4) :
    ∃ s', rndF cf fuel nx mo pr nb rest code e s = some (.normal, s') ∧ ∃ l4, Kw s'.tm l4 ∧ Q l4 s'.H := by
  subst hlen
  obtain ⟨s2, q1, l3, q2, q3⟩ := h.use ((hk.drop hnm).set pr _)
  obtain ⟨x, s3, r1, l4, r2, r3, r4⟩ := q3.use q2
  refine ⟨s3, ?_, l4, r2, r4⟩
  have q1' : xops cf rest (s.H.next + 1) (Go.Eng.bump ⟨((s.tm.set nx none).set mo none).set pr (some (.tup [e.1, e.2])), s.H⟩ (rest.length + 1)) = some s2 := q1
  have r1' : xcode cf fuel code s2 = some (x, s3) := r1
  unfold rndF
  simp only [q1', r1']
  rcases r3 with rfl | rfl <;> simp
theorem WK.mrange {pre rest : List XOper} {it : Nat} {m : XO} {out nx mo nb pr k k' : Nat} {code : XCode} {l : KL0} {H : AHeap} {Q : XE → KL0 → AHeap → Prop} (hlen : pre.length + 1 = k) (hlen' : rest.length + 1 = k')
    (h : WKO cf pre H.next l (H.bump k) fun l1 H1 => ∃ (i : Nat) (es : List (AV × AV)) (L : List (AV × AV) → KL0) (I : List (AV × AV) → AHeap → Prop) (Lf : KL0), evK l1 m = some (.map i) ∧ H1.get i = some (.map es) ∧
      Sub ((it, .ptr H1.next 0) :: l1) (L []) ∧ I [] ⟨H1.m.set i (some (.lmap es H1.next)), H1.next + 1⟩ ∧
      (∀ done H2, I done H2 → H2.get i = some (.lmap es H1.next)) ∧ (∀ done, look (L done) it = some (.ptr H1.next 0)) ∧ (∀ done, notIn nx mo (L done) = true) ∧
      (∀ done e todo, (done ++ e :: todo).Perm es → ∀ H2, I done H2 → WKO cf rest (H2.next + 1) ((pr, .tup [e.1, e.2]) :: L done) (H2.bump k') fun l3 H3 => WK cf fuel code l3 H3 fun x l4 H4 => (x = .normal ∨ x = .exit nb) ∧ Sub l4 (L (done ++ [e])) ∧ I (done ++ [e]) H4) ∧
      (∀ r r' H2 H3, r.Perm es → r'.Perm es → I r H2 → I r' H3 → ∀ j, objEq (H2.get j) (H3.get j) = true) ∧ (∀ r, r.Perm es → Sub (L r) Lf) ∧
      (∀ r H2 H3, r.Perm es → I r H2 → (∀ j, H3.get j = if j = i then some (.map es) else H2.get j) → H2.next ≤ H3.next → Q .normal Lf H3)) :
    WK cf fuel (.mrange pre it m out nx mo nb pr rest code) l H Q := by
  subst hlen
  unfold WK
  intro tm ht
  obtain ⟨s1, q1, l1, q2, i, es, L, I, Lf, hm, hi, hs0, hI0, hlk, hit, hnm, hstep, hmeet, hf, hQ⟩ := h.use ht
  obtain ⟨r, H1, s2, p1, p2, p3, p4, p5, p6⟩ := mrounds_ex (out := out) (i := i) (t := s1.H.next) (tl := s1.H.next) (rnd := rndF cf fuel nx mo pr nb rest code) (s := ⟨s1.tm.set it (some (.ptr s1.H.next 0)), ⟨s1.H.m.set i (some (.lmap es s1.H.next)), s1.H.next + 1⟩⟩) L I Lf
    (fun done H2 q => by rw [hlk done H2 q]; simp [isLock]) hit hnm (fun done e todo hp s hk hI => by
      obtain ⟨s', a1, l4, a2, a3, a4⟩ := rnd_ex hk (hnm done) hlen' (hstep done e todo hp s.H hI)
      exact ⟨s', a1, a2.sub a3, a4⟩) ((q2.set it _).sub hs0) hI0 hmeet hf
  have hget : s2.H.get i = some (.lmap es s1.H.next) := by
    unfold AHeap.get
    rw [p4]
    exact hlk r H1 p2
  unfold W
  refine ⟨.normal, ⟨s2.tm, s2.H.set i (some (.map es))⟩, ?_, Lf, p6, hQ r H1 _ p1 p2 (fun j => ?_) p5⟩
  · have q1' : xops cf pre H.next (Go.Eng.bump ⟨tm, H⟩ (pre.length + 1)) = some s1 := q1
    have p3' : mrounds i it s1.H.next s1.H.next nx mo out (fun (e : AV × AV) (s : St) =>
        match xops cf rest (s.H.next + 1) (Go.Eng.bump ⟨((s.tm.set nx none).set mo none).set pr (some (.tup [e.1, e.2])), s.H⟩ (rest.length + 1)) with
        | none => none
        | some s2 => match xcode cf fuel code s2 with
          | some (.exit i, s3) => if i = nb then some (.normal, s3) else some (.exit i, s3)
          | r => r) es ⟨s1.tm.set it (some (.ptr s1.H.next 0)), ⟨s1.H.m.set i (some (.lmap es s1.H.next)), s1.H.next + 1⟩⟩ = some (.normal, s2) := p3
    simp only [xcode, q1', q2.ev hm, hi]
    refine (congrArg (fun z => z.bind (unlockA i s1.H.next)) p3').trans ?_
    show unlockA i s1.H.next (.normal, s2) = _
    simp only [unlockA, hget, if_true]
  · rw [AHeap.get_set]
    split
    · rfl
    · unfold AHeap.get
      rw [p4]
end
end Go.Eng
namespace Go.Eng
structure HF (H0 : AHeap) (mod : List Nat) (T : Nat) (fs : List (Nat × AObj)) (H : AHeap) : Prop where
  obj : ∀ p ∈ fs, H.get p.1 = some p.2
  lt : ∀ p ∈ fs, p.1 < T
  nd : (fs.map (·.1)).Nodup
  base : H0.next ≤ T
  le : T ≤ H.next
  fr : ∀ k, k < H0.next → k ∉ mod → H.get k = H0.get k
section
variable {cf : CF} {n : Nat} {H0 H H' : AHeap} {mod : List Nat} {T : Nat} {fs : List (Nat × AObj)} {l : KL0} {x y : XO} {r : List XOper} {R : KL0 → AHeap → Prop}
theorem HF.up (h : HF H0 mod T fs H) (hm : H'.m = H.m) (hn : H.next ≤ H'.next) : HF H0 mod T fs H' := by
  have hg : ∀ k, H'.get k = H.get k := fun k => by unfold AHeap.get; rw [hm]
  exact ⟨fun p hp => (hg _).trans (h.obj p hp), h.lt, h.nd, h.base, Nat.le_trans h.le hn, fun k h1 h2 => (hg k).trans (h.fr k h1 h2)⟩
theorem HF.sub {gs : List (Nat × AObj)} {T' : Nat} (h : HF H0 mod T fs H) (hs : gs.Sublist fs) (hT : T ≤ T') (hn : T' ≤ H.next) : HF H0 mod T' gs H :=
  ⟨fun p hp => h.obj p (hs.subset hp), fun p hp => Nat.lt_of_lt_of_le (h.lt p (hs.subset hp)) hT, h.nd.sublist (hs.map _), Nat.le_trans h.base hT, hn, h.fr⟩
theorem HF.call {mod' : List Nat} (h : HF H0 mod T fs H) (hf : ∀ k, k < H.next → k ∉ mod' → H'.get k = H.get k) (hn : H.next ≤ H'.next) (hm : ∀ k, k ∈ mod' → k ∈ mod ∨ H0.next ≤ k) (hd : ∀ p ∈ fs, p.1 ∉ mod') : HF H0 mod T fs H' :=
  ⟨fun p hp => (hf _ (Nat.lt_of_lt_of_le (h.lt p hp) h.le) (hd p hp)).trans (h.obj p hp), h.lt, h.nd, h.base, Nat.le_trans h.le hn, fun k h1 h2 => (hf k (Nat.lt_of_lt_of_le h1 (Nat.le_trans h.base h.le)) (fun w => by
    rcases hm k w with w | w
    · exact h2 w
    · omega)).trans (h.fr k h1 h2)⟩
theorem HF.add {i : Nat} {o : AObj} (h : HF H0 mod T fs H) (hg : H.get i = some o) (hi : i < T) (hn : i ∉ fs.map (·.1)) : HF H0 mod T ((i, o) :: fs) H where
  obj := fun p hp => by
    rcases List.mem_cons.1 hp with rfl | hp
    · exact hg
    · exact h.obj p hp
  lt := fun p hp => by
    rcases List.mem_cons.1 hp with rfl | hp
    · exact hi
    · exact h.lt p hp
  nd := by rw [List.map_cons, List.nodup_cons]; exact ⟨hn, h.nd⟩
  base := h.base
  le := h.le
  fr := h.fr
theorem HF.new {o : AObj} {H1 : AHeap} (h : HF H0 mod T fs H) (hT : T ≤ n) (hn : n < H1.next) (h1 : H1.get n = some o) (h2 : ∀ k, k ≠ n → H1.get k = H.get k) : HF H0 mod (n + 1) ((n, o) :: fs) H1 where
  obj := fun p hp => by
    rcases List.mem_cons.1 hp with rfl | hp
    · exact h1
    · rw [h2 _ (by have := h.lt p hp; omega)]; exact h.obj p hp
  lt := fun p hp => by
    rcases List.mem_cons.1 hp with rfl | hp
    · exact Nat.lt_succ_self _
    · have := h.lt p hp; omega
  nd := by
    rw [List.map_cons, List.nodup_cons]
    refine ⟨fun w => ?_, h.nd⟩
    obtain ⟨p, hp, e⟩ := List.mem_map.1 w
    have := h.lt p hp
    simp only at e
    omega
  base := by have := h.base; omega
  le := hn
  fr := fun k hk hm => (h2 k (by have := h.base; omega)).trans (h.fr k hk hm)
theorem HF.put {gs : List (Nat × AObj)} {i : Nat} {o o' : AObj} {H1 : AHeap} (h : HF H0 mod T (gs ++ (i, o) :: fs) H) (hi : i ∈ mod ∨ H0.next ≤ i) (hn : H1.next = H.next) (h1 : H1.get i = some o') (h2 : ∀ k, k ≠ i → H1.get k = H.get k) : HF H0 mod T (gs ++ (i, o') :: fs) H1 where
  obj := fun p hp => by
    have hnd := h.nd
    rw [List.map_append, List.map_cons, List.nodup_append] at hnd
    obtain ⟨_, nd2, nd3⟩ := hnd
    rw [List.nodup_cons] at nd2
    rcases List.mem_append.1 hp with hp | hp
    · rw [h2 _ (fun e => nd3 _ (List.mem_map.2 ⟨p, hp, rfl⟩) _ (List.mem_cons_self ..) e)]
      exact h.obj p (List.mem_append.2 (.inl hp))
    · rcases List.mem_cons.1 hp with rfl | hp
      · exact h1
      · rw [h2 _ (fun e => nd2.1 (List.mem_map.2 ⟨p, hp, e⟩))]
        exact h.obj p (List.mem_append.2 (.inr (List.mem_cons_of_mem _ hp)))
  lt := fun p hp => by
    rcases List.mem_append.1 hp with hp | hp
    · exact h.lt p (List.mem_append.2 (.inl hp))
    · rcases List.mem_cons.1 hp with rfl | hp
      · exact h.lt (i, o) (List.mem_append.2 (.inr (List.mem_cons_self ..)))
      · exact h.lt p (List.mem_append.2 (.inr (List.mem_cons_of_mem _ hp)))
  nd := by
    have := h.nd
    rwa [List.map_append, List.map_cons] at this ⊢
  base := h.base
  le := by rw [hn]; exact h.le
  fr := fun k hk hm => (h2 k (fun e => by
    subst e
    rcases hi with hi | hi
    · exact hm hi
    · omega)).trans (h.fr k hk hm)
theorem k_ldO {i p : Nat} {c : List AV} {opn : Option Nat} {v : AV} (hx : evK l x = some (.ptr i p)) (hF : HF H0 mod T fs H) (hm : H'.m = H.m) (ho : (i, .cells c opn) ∈ fs) (hc : c[p]? = some v) : XV cf l H' n (.load none x) = some (v, H') :=
  k_any (op_loadc hx (by unfold AHeap.get; rw [hm]; exact hF.obj _ ho) hc)
theorem k_ldA {i m : Nat} {c : List AV} {opn : Option Nat} (hx : evK l x = some (.ptr i 0)) (hF : HF H0 mod T fs H) (hm : H'.m = H.m) (ho : (i, .cells c opn) ∈ fs) (hc : c.length = m) : XV cf l H' n (.load (some m) x) = some (.agg c, H') := by
  have hg : H'.get i = some (.cells c opn) := by unfold AHeap.get; rw [hm]; exact hF.obj _ ho
  have := op_loadn (cf := cf) (m := n) (n := m) (i := i) (o := 0) (ev := evK l) (x := x) hx hg (by omega)
  rw [List.drop_zero, List.take_of_length_le (by omega)] at this
  exact k_any this
theorem WKO.newO {d : Nat} {op : XOp} {v : AV} {o : AObj} (hop : xval cf (evK l) H' n op = some (v, H'.set n (some o))) (ha : allSm l op.opnds = true) (hF : HF H0 mod T fs H) (hm : H'.m = H.m) (hn : H.next ≤ H'.next) (hT : T ≤ n) (hlt : n < H'.next)
    (k : ∀ H1, HF H0 mod (n + 1) ((n, o) :: fs) H1 → H1.next = H'.next → WKO cf r (n + 1) ((d, v) :: l) H1 R) : WKO cf (⟨some d, op, none⟩ :: r) n l H' R :=
  WKO.op (k_any hop) ha (k (H'.set n (some o)) ((hF.up hm hn).new hT (by rw [next_set]; exact hlt) (by rw [AHeap.get_set, if_pos rfl]) (fun k hk => by rw [AHeap.get_set, if_neg hk])) rfl)
theorem WKO.boxO {d : Nat} {v : AV} (hx : evK l x = some v) (hF : HF H0 mod T fs H) (hm : H'.m = H.m) (hn : H.next ≤ H'.next) (hT : T ≤ n) (hlt : n < H'.next)
    (k : ∀ H1, HF H0 mod (n + 1) ((n, .cells v.cells none) :: fs) H1 → H1.next = H'.next → WKO cf r (n + 1) ((d, .ptr n 0) :: l) H1 R) : WKO cf (⟨some d, .box x, none⟩ :: r) n l H' R :=
  WKO.newO (op := .box x) (by simp only [xval, xop, hx]) (by simp [allSm, XOp.opnds, hx]) hF hm hn hT hlt k
theorem WKO.alO {d : Nat} {z : List AV} (hF : HF H0 mod T fs H) (hm : H'.m = H.m) (hn : H.next ≤ H'.next) (hT : T ≤ n) (hlt : n < H'.next)
    (k : ∀ H1, HF H0 mod (n + 1) ((n, .cells z none) :: fs) H1 → H1.next = H'.next → WKO cf r (n + 1) ((d, .ptr n 0) :: l) H1 R) : WKO cf (⟨some d, .alloc z, none⟩ :: r) n l H' R :=
  WKO.newO (op := .alloc z) (by simp only [xval, xop]) rfl hF hm hn hT hlt k
theorem WKO.bsO {d m : Nat} {z new : List AV} {ps : List (Nat × Nat × XO)} (hps : (evParts (evK l) ps).bind (fillA (List.replicate m z).flatten) = some new) (ha : allSm l (XOp.bslice z ps m).opnds = true) (hF : HF H0 mod T fs H) (hm : H'.m = H.m) (hn : H.next ≤ H'.next) (hT : T ≤ n) (hlt : n < H'.next)
    (k : ∀ H1, HF H0 mod (n + 1) ((n, .cells new none) :: fs) H1 → H1.next = H'.next → WKO cf r (n + 1) ((d, .sl n 0 m m) :: l) H1 R) : WKO cf (⟨some d, .bslice z ps m, none⟩ :: r) n l H' R :=
  WKO.newO (op := .bslice z ps m) (by simp only [xval, xop, hps]) ha hF hm hn hT hlt k
theorem WKO.stG {gs : List (Nat × AObj)} {i p m : Nat} {c : List AV} {opn : Option Nat} {v : AV} {a x : XO} (ha : evK l a = some (.ptr i p)) (hx : evK l x = some v) (hF : HF H0 mod T (gs ++ (i, .cells c opn) :: fs) H) (hm : H'.m = H.m) (hn : H.next ≤ H'.next) (hi : i ∈ mod ∨ H0.next ≤ i) (hl : v.cells.length = m) (h1 : v.cells.all AV.oneCell = true) (hf : p + m ≤ c.length)
    (k : ∀ H1, HF H0 mod T (gs ++ (i, .cells (overA c p v.cells) opn) :: fs) H1 → H1.next = H'.next → WKO cf r (n + 1) l H1 R) : WKO cf (⟨none, .store m a x, none⟩ :: r) n l H' R := by
  have hF' := hF.up hm hn
  unfold WKO at k ⊢
  intro tm ht
  exact WO.store (ht.ev ha) (ht.ev hx) (hF'.obj (i, _) (List.mem_append.2 (.inr (List.mem_cons_self ..)))) hl h1 hf (fun H1 q1 q2 q3 => k H1 (hF'.put hi q3 q1 q2) q3 tm ht)
theorem WKO.stO0 {i p m : Nat} {c : List AV} {opn : Option Nat} {v : AV} {a x : XO} (ha : evK l a = some (.ptr i p)) (hx : evK l x = some v) (hF : HF H0 mod T ((i, .cells c opn) :: fs) H) (hm : H'.m = H.m) (hn : H.next ≤ H'.next) (hi : i ∈ mod ∨ H0.next ≤ i) (hl : v.cells.length = m) (h1 : v.cells.all AV.oneCell = true) (hf : p + m ≤ c.length)
    (k : ∀ H1, HF H0 mod T ((i, .cells (overA c p v.cells) opn) :: fs) H1 → H1.next = H'.next → WKO cf r (n + 1) l H1 R) : WKO cf (⟨none, .store m a x, none⟩ :: r) n l H' R :=
  WKO.stG (gs := []) ha hx hF hm hn hi hl h1 hf k
theorem WKO.stO1 {f1 : Nat × AObj} {i p m : Nat} {c : List AV} {opn : Option Nat} {v : AV} {a x : XO} (ha : evK l a = some (.ptr i p)) (hx : evK l x = some v) (hF : HF H0 mod T (f1 :: (i, .cells c opn) :: fs) H) (hm : H'.m = H.m) (hn : H.next ≤ H'.next) (hi : i ∈ mod ∨ H0.next ≤ i) (hl : v.cells.length = m) (h1 : v.cells.all AV.oneCell = true) (hf : p + m ≤ c.length)
    (k : ∀ H1, HF H0 mod T (f1 :: (i, .cells (overA c p v.cells) opn) :: fs) H1 → H1.next = H'.next → WKO cf r (n + 1) l H1 R) : WKO cf (⟨none, .store m a x, none⟩ :: r) n l H' R :=
  WKO.stG (gs := [f1]) ha hx hF hm hn hi hl h1 hf k
theorem WKO.stW0 {i m : Nat} {c vs : List AV} {opn : Option Nat} {v : AV} {a x : XO} (ha : evK l a = some (.ptr i 0)) (hx : evK l x = some v) (hF : HF H0 mod T ((i, .cells c opn) :: fs) H) (hm : H'.m = H.m) (hn : H.next ≤ H'.next) (hi : i ∈ mod ∨ H0.next ≤ i) (hv : v.cells = vs) (hl : vs.length = m) (h1 : vs.all AV.oneCell = true) (hf : c.length = m)
    (k : ∀ H1, HF H0 mod T ((i, .cells vs opn) :: fs) H1 → H1.next = H'.next → WKO cf r (n + 1) l H1 R) : WKO cf (⟨none, .store m a x, none⟩ :: r) n l H' R :=
  WKO.stO0 ha hx hF hm hn hi (by rw [hv]; exact hl) (by rw [hv]; exact h1) (by omega) (fun H1 q => k H1 (by
    have e : overA c 0 v.cells = vs := by
      rw [hv]
      simp only [overA, List.take_zero, List.nil_append, Nat.zero_add]
      rw [List.drop_eq_nil_of_le (by omega), List.append_nil]
    rwa [e] at q))
end
end Go.Eng
namespace Go.Eng
def RowE (z : Nat) (H : AHeap) (v : AV) (l : Nat) (cs : List AV) : Prop :=
  Row z H v l cs ∨ (l = 0 ∧ cs = [] ∧ ∃ i, v = .sl i 0 0 0 ∧ i < H.next ∧ H.get i = some (.cells [] none))
theorem RowE.frame {z : Nat} {H H' : AHeap} {v : AV} {l : Nat} {cs : List AV} (h : RowE z H v l cs) (hn : H.next ≤ H'.next) (hg : ∀ i, v.own = some i → H'.get i = H.get i) : RowE z H' v l cs := by
  rcases h with h | ⟨rfl, rfl, i, rfl, h1, h2⟩
  · exact .inl (h.frame hn hg)
  · exact .inr ⟨rfl, rfl, i, rfl, by omega, (hg i rfl).trans h2⟩
theorem RowE.len {z : Nat} {H : AHeap} {v : AV} {l : Nat} {cs : List AV} (h : RowE z H v l cs) : lenA v = some l := by
  rcases h with h | ⟨rfl, rfl, i, rfl, _⟩
  · exact h.len
  · rfl
theorem RowE.own_lt {z : Nat} {H : AHeap} {v : AV} {l : Nat} {cs : List AV} (h : RowE z H v l cs) {i : Nat} (hi : v.own = some i) : i < H.next := by
  rcases h with h | ⟨rfl, rfl, j, rfl, h1, _⟩
  · exact h.own_lt hi
  · cases hi; exact h1
theorem RowE.csl {z : Nat} {H : AHeap} {v : AV} {l : Nat} {cs : List AV} (h : RowE z H v l cs) : cs.length = l * z := by
  rcases h with h | ⟨rfl, rfl, _⟩
  · exact h.1
  · simp
theorem RowE.src {z : Nat} {H : AHeap} {v : AV} {l : Nat} {cs : List AV} (h : RowE z H v l cs) : srcA H z l v = some cs := by
  rcases h with ⟨h0, ⟨rfl, rfl⟩ | ⟨i, full, rfl, h1, h2, h3, h4⟩⟩ | ⟨rfl, rfl, i, rfl, h1, h2⟩
  · have : cs = [] := List.eq_nil_of_length_eq_zero (by omega)
    subst this
    rfl
  · simp only [srcA, h1]
    rw [if_pos (by omega), List.drop_zero, h2]
  · simp only [srcA, h2]
    rw [if_pos (by simp)]
    simp
theorem RowE.nstr {z : Nat} {H : AHeap} {v : AV} {l : Nat} {cs : List AV} (h : RowE z H v l cs) : ∀ s, v ≠ .str s := by
  rcases h with ⟨_, ⟨rfl, rfl⟩ | ⟨i, full, rfl, _⟩⟩ | ⟨rfl, rfl, i, rfl, _⟩ <;> intro s q <;> cases q
theorem RowE.app {z bytes : Nat} {H : AHeap} {v y : AV} {l n : Nat} {cs new : List AV} (h : RowE z H v l cs) (hz : 0 < z) (hl : l + n ≤ 2 ^ 30) (hn : 0 < n) (hb : bytes ≤ 2 ^ 16) (hy : lenA y = some n) (hs : srcA H z n y = some new) (hnl : new.length = n * z) (ho : new.all AV.oneCell = true) :
    ∃ v' H', appA H z bytes v y = .eff v' H' ∧ Row z H' v' (l + n) (cs ++ new) ∧ H.next ≤ H'.next ∧ (∀ j, j < H.next → v.own ≠ some j → H'.get j = H.get j) ∧ (∀ i, v'.own = some i → v.own = some i ∨ H.next ≤ i) := by
  rcases h with h | ⟨rfl, rfl, i, rfl, h1, h2⟩
  · exact h.app hz hl hn hb hy hs hnl ho
  · refine ⟨.sl H.next 0 (0 + n) openCap, H.add (.cells new (some z)), ?_, ⟨by simp [hnl], .inr ⟨H.next, new, rfl, ?_, ?_, ?_, ?_⟩⟩, by simp only [next_add]; omega, fun j hj _ => ?_, fun j hj => ?_⟩
    · unfold appA
      rw [hy]
      simp only [hs, ho, Bool.not_true, Bool.false_eq_true, false_or]
      rw [if_neg (by omega)]
      simp only [h2]
      rw [if_neg (by omega), if_neg (by omega), if_neg (by simp), if_pos (by unfold openAt; omega), if_neg (by omega)]
      simp
    · rw [AHeap.get_add, if_pos rfl]
    · simp only [List.nil_append]
      rw [Nat.zero_add, List.take_of_length_le (by omega)]
    · rw [Nat.zero_add]; omega
    · simp only [next_add]; omega
    · rw [AHeap.get_add, if_neg (by omega)]
    · cases hj
      exact .inr (Nat.le_refl _)
theorem WO.append1E {cf : CF} {d1 d2 z bytes n l : Nat} {x : XO} {zs : List AV} {ps : List (Nat × Nat × XO)} {r : List XOper} {tm : Tr AV} {H : AHeap} {Q : St → Prop} {v : AV} {cs new : List AV}
    (hR : RowE z H v l cs) (hx : St.ev (tm.set d1 (some (.sl n 0 1 1))) x = some v) (hps : (evParts (St.ev tm) ps).bind (fillA (List.replicate 1 zs).flatten) = some new) (hz : 0 < z) (hl : l + 1 ≤ 2 ^ 30) (hb : bytes ≤ 2 ^ 16) (hnl : new.length = z) (ho : new.all AV.oneCell = true)
    (hn : n < H.next) (hf : v.own ≠ some n)
    (k : ∀ v' H1, Row z H1 v' (l + 1) (cs ++ new) → H.next ≤ H1.next → (∀ j, j < H.next → j ≠ n → v.own ≠ some j → H1.get j = H.get j) → (∀ i, v'.own = some i → v.own = some i ∨ H.next ≤ i) →
      WO cf r (n + 1 + 1) ⟨(tm.set d1 (some (.sl n 0 1 1))).set d2 (some v'), H1⟩ Q) :
    WO cf (⟨some d1, .bslice zs ps 1, none⟩ :: ⟨some d2, .app z bytes x (.t d1), none⟩ :: r) n ⟨tm, H⟩ Q := by
  have hR1 : RowE z (H.set n (some (.cells new none))) v l cs := hR.frame (Nat.le_refl _) (fun i hi => by rw [AHeap.get_set, if_neg (by intro e; rw [e] at hi; exact hf hi)])
  have hsrc : srcA (H.set n (some (.cells new none))) z 1 (.sl n 0 1 1) = some new := by
    simp only [srcA, AHeap.get_set, if_true, hnl, Nat.one_mul, Nat.zero_add, Nat.le_refl, List.drop_zero]
    rw [List.take_of_length_le (by omega)]
  obtain ⟨v', H1, h1, h2, h3, h4, h5⟩ := hR1.app (bytes := bytes) hz hl (by omega) hb (y := .sl n 0 1 1) rfl hsrc (by omega) ho
  refine WO.op (v := .sl n 0 1 1) (H1 := H.set n (some (.cells new none))) ?_ (WO.op (v := v') (H1 := H1) ?_ (k v' H1 h2 h3 (fun j hj hjn hjo => ?_) h5))
  · simp only [xval, xop, hps]
  · simp only [xval, xop, hx, ev_t, Tr.get_set_self, h1]
  · rw [h4 j hj hjo, AHeap.get_set, if_neg hjn]
theorem WO.named {cf : CF} {ops : List XOper} {n : Nat} {tm : Tr AV} {H : AHeap} {Q : St → Prop} (h : ∀ HX, HX = H → WO cf ops n ⟨tm, HX⟩ Q) : WO cf ops n ⟨tm, H⟩ Q := h H rfl
theorem W.named {cf : CF} {fuel : Nat} {c : XCode} {tm : Tr AV} {H : AHeap} {Q : XE → St → Prop} (h : ∀ HX, HX = H → W cf fuel c ⟨tm, HX⟩ Q) : W cf fuel c ⟨tm, H⟩ Q := h H rfl
end Go.Eng
namespace Go.Proofs.YtfcgofffalmdfaaGreatDoor.PA
theorem sum_map_add {α : Type} (f g : α → Nat) : ∀ l : List α, (l.map fun x => f x + g x).sum = (l.map f).sum + (l.map g).sum
  | [] => rfl
  | x :: l => by
    have := sum_map_add f g l
    simp only [List.map_cons, List.sum_cons]
    omega
theorem sum_map_mul {α : Type} (c : Nat) (f : α → Nat) : ∀ l : List α, (l.map fun x => c * f x).sum = c * (l.map f).sum
  | [] => rfl
  | x :: l => by
    have := sum_map_mul c f l
    simp only [List.map_cons, List.sum_cons, Nat.mul_add]
    omega
theorem sum_getD : ∀ (l : List Nat) (N : Nat), l.length ≤ N → ((List.range N).map fun j => l.getD j 0).sum = l.sum
  | [], N, _ => by
    have : ((List.range N).map fun j => ([] : List Nat).getD j 0) = List.replicate N 0 := by
      rw [List.eq_replicate_iff]
      refine ⟨by simp, fun b hb => ?_⟩
      obtain ⟨j, _, rfl⟩ := List.mem_map.1 hb
      rfl
    rw [this]
    simp
  | x :: l, 0, h => by simp at h
  | x :: l, N + 1, h => by
    rw [List.range_succ_eq_map, List.map_cons, List.sum_cons, List.map_map, List.sum_cons]
    have := sum_getD l N (by simpa using h)
    simp only [Function.comp_def, List.getD_cons_succ, List.getD_cons_zero] at this ⊢
    omega
theorem sum_shift : ∀ (by_ : Nat) (l : List Nat) (N : Nat), l.length + by_ ≤ N → ((List.range N).map fun j => if by_ ≤ j then l.getD (j - by_) 0 else 0).sum = l.sum
  | 0, l, N, h => by
    have := sum_getD l N h
    simpa using this
  | b + 1, l, 0, h => by omega
  | b + 1, l, N + 1, h => by
    rw [List.range_succ_eq_map, List.map_cons, List.sum_cons, List.map_map]
    have := sum_shift b l N (by omega)
    have e : ((fun j => if b + 1 ≤ j then l.getD (j - (b + 1)) 0 else 0) ∘ Nat.succ) = fun j => if b ≤ j then l.getD (j - b) 0 else 0 := by
      funext j
      simp only [Function.comp_apply, Nat.succ_eq_add_one, Nat.add_le_add_iff_right, Nat.add_sub_add_right]
    rw [e, this]
    simp
theorem getD_le : ∀ (l : List Nat) (j : Nat), l.getD j 0 ≤ l.sum
  | [], j => by simp
  | x :: l, 0 => by simp
  | x :: l, j + 1 => by
    have := getD_le l j
    simp only [List.getD_cons_succ, List.sum_cons]
    omega
def plusF (a b : List Nat) (by_ : Nat) : List Nat := (List.range (max a.length (b.length + by_))).map fun j => a.getD j 0 + if by_ ≤ j then b.getD (j - by_) 0 else 0
theorem plusF_len (a b : List Nat) (k : Nat) : (plusF a b k).length = max a.length (b.length + k) := by simp [plusF]
theorem plusF_sum (a b : List Nat) (k : Nat) : (plusF a b k).sum = a.sum + b.sum := by
  unfold plusF
  rw [sum_map_add, sum_getD _ _ (by omega), sum_shift _ _ _ (by omega)]
def timesF (a b : List Nat) : List Nat := (List.range a.length).foldl (fun out i => plusF out (b.map fun y => a.getD i 0 * y) i) []
def timesP (a b : List Nat) (k : Nat) : List Nat := (List.range k).foldl (fun out i => plusF out (b.map fun y => a.getD i 0 * y) i) []
theorem timesP_succ (a b : List Nat) (k : Nat) : timesP a b (k + 1) = plusF (timesP a b k) (b.map fun y => a.getD k 0 * y) k := by
  unfold timesP
  rw [List.range_succ, List.foldl_append]
  rfl
theorem timesP_len (a b : List Nat) : ∀ k, (timesP a b k).length = if k = 0 then 0 else b.length + k - 1
  | 0 => rfl
  | k + 1 => by
    rw [timesP_succ, plusF_len, timesP_len a b k, List.length_map]
    split <;> simp <;> omega
theorem timesP_sum (a b : List Nat) : ∀ k, k ≤ a.length → (timesP a b k).sum = (a.take k).sum * b.sum
  | 0, _ => by simp [timesP]
  | k + 1, h => by
    rw [timesP_succ, plusF_sum, timesP_sum a b k (by omega), List.take_add_one, List.getElem?_eq_getElem (by omega)]
    have e : (b.map fun y => a.getD k 0 * y).sum = a[k] * b.sum := by
      have := sum_map_mul (a.getD k 0) (fun y : Nat => y) b
      rw [this, List.map_id']
      simp only [List.getD_eq_getElem?_getD, List.getElem?_eq_getElem (show k < a.length by omega), Option.getD_some]
    rw [e, List.sum_append]
    simp [Nat.add_mul]
theorem timesF_len (a b : List Nat) : (timesF a b).length = if a.length = 0 then 0 else b.length + a.length - 1 := timesP_len a b a.length
theorem timesF_sum (a b : List Nat) : (timesF a b).sum = a.sum * b.sum := by
  have := timesP_sum a b a.length (Nat.le_refl _)
  rwa [List.take_length] at this
theorem timesP_le (a b : List Nat) (k : Nat) (h : k ≤ a.length) : (timesP a b k).sum ≤ a.sum * b.sum := by
  rw [timesP_sum a b k h]
  refine Nat.mul_le_mul_right _ ?_
  conv => rhs; rw [← List.take_append_drop k a, List.sum_append]
  omega
section
variable (may : Nat → Nat → Bool)
def sizesN (n i : Nat) : List Nat :=
  if _h : n < 2 then [1] else
  (List.range (n - 1)).attach.foldl (fun out k => if may i (i + 1 + k.1) then plusF out (timesF (sizesN k.1 (i + 1)) (sizesN (n - 2 - k.1) (i + 2 + k.1))) 1 else out) (sizesN (n - 1) (i + 1))
termination_by n
decreasing_by
  all_goals simp_wf
  · have := List.mem_range.1 k.2
    omega
  · omega
  · omega
def sizesP (n i k : Nat) : List Nat :=
  (List.range k).foldl (fun out k => if may i (i + 1 + k) then plusF out (timesF (sizesN may k (i + 1)) (sizesN may (n - 2 - k) (i + 2 + k))) 1 else out) (sizesN may (n - 1) (i + 1))
theorem sizesN_lt {n i : Nat} (h : n < 2) : sizesN may n i = [1] := by rw [sizesN, dif_pos h]
theorem sizesN_ge {n i : Nat} (h : 2 ≤ n) : sizesN may n i = sizesP may n i (n - 1) := by
  rw [sizesN, dif_neg (by omega)]
  exact List.foldl_attach (l := List.range (n - 1)) (f := fun out k => if may i (i + 1 + k) then plusF out (timesF (sizesN may k (i + 1)) (sizesN may (n - 2 - k) (i + 2 + k))) 1 else out) (b := sizesN may (n - 1) (i + 1))
theorem sizesP_zero (n i : Nat) : sizesP may n i 0 = sizesN may (n - 1) (i + 1) := rfl
theorem sizesP_succ (n i k : Nat) : sizesP may n i (k + 1) = if may i (i + 1 + k) then plusF (sizesP may n i k) (timesF (sizesN may k (i + 1)) (sizesN may (n - 2 - k) (i + 2 + k))) 1 else sizesP may n i k := by
  unfold sizesP
  rw [List.range_succ, List.foldl_append]
  rfl
theorem sizesP_pos (n i : Nat) (h1 : ∀ m j, m < n → 0 < (sizesN may m j).length) (hn : 2 ≤ n) : ∀ k, 0 < (sizesP may n i k).length
  | 0 => h1 _ _ (by omega)
  | k + 1 => by
    rw [sizesP_succ]
    split
    · rw [plusF_len]; omega
    · exact sizesP_pos n i h1 hn k
theorem sizesN_pos : ∀ n i, 0 < (sizesN may n i).length := by
  intro n
  induction n using Nat.strongRecOn with
  | _ n ih =>
    intro i
    by_cases h : n < 2
    · rw [sizesN_lt may h]; decide
    · rw [sizesN_ge may (by omega)]
      exact sizesP_pos may n i (fun m j hm => ih m hm j) (by omega) _
def lenN (n i : Nat) : Nat := (sizesN may n i).length
theorem lenN_pos (n i : Nat) : 0 < lenN may n i := sizesN_pos may n i
theorem lenN_lt {n i : Nat} (h : n < 2) : lenN may n i = 1 := by unfold lenN; rw [sizesN_lt may h]; rfl
theorem times_len1 (n i k : Nat) : (timesF (sizesN may k (i + 1)) (sizesN may (n - 2 - k) (i + 2 + k))).length + 1 = lenN may k (i + 1) + lenN may (n - 2 - k) (i + 2 + k) := by
  have h1 := sizesN_pos may k (i + 1)
  have h2 := sizesN_pos may (n - 2 - k) (i + 2 + k)
  rw [timesF_len, if_neg (by omega)]
  unfold lenN
  omega
theorem lenP_le (n i : Nat) : ∀ k, lenN may (n - 1) (i + 1) ≤ (sizesP may n i k).length ∧ ∀ j, j < k → may i (i + 1 + j) = true → lenN may j (i + 1) + lenN may (n - 2 - j) (i + 2 + j) ≤ (sizesP may n i k).length
  | 0 => ⟨Nat.le_refl _, fun j hj => by omega⟩
  | k + 1 => by
    obtain ⟨h1, h2⟩ := lenP_le n i k
    rw [sizesP_succ]
    split
    · rename_i hm
      rw [plusF_len, times_len1]
      refine ⟨by omega, fun j hj hj2 => ?_⟩
      by_cases e : j = k
      · subst e; omega
      · have := h2 j (by omega) hj2
        omega
    · rename_i hm
      refine ⟨h1, fun j hj hj2 => ?_⟩
      by_cases e : j = k
      · subst e; exact absurd hj2 hm
      · exact h2 j (by omega) hj2
theorem lenP_eq (n i : Nat) : ∀ k, (sizesP may n i k).length = lenN may (n - 1) (i + 1) ∨ ∃ j, j < k ∧ may i (i + 1 + j) = true ∧ (sizesP may n i k).length = lenN may j (i + 1) + lenN may (n - 2 - j) (i + 2 + j)
  | 0 => .inl rfl
  | k + 1 => by
    rw [sizesP_succ]
    split
    · rename_i hm
      rw [plusF_len, times_len1]
      rcases Nat.le_total (lenN may k (i + 1) + lenN may (n - 2 - k) (i + 2 + k)) (sizesP may n i k).length with q | q
      · rw [Nat.max_eq_left q]
        rcases lenP_eq n i k with h | ⟨j, h1, h2⟩
        · exact .inl h
        · exact .inr ⟨j, by omega, h2⟩
      · rw [Nat.max_eq_right q]
        exact .inr ⟨k, by omega, hm, rfl⟩
    · rcases lenP_eq n i k with h | ⟨j, h1, h2⟩
      · exact .inl h
      · exact .inr ⟨j, by omega, h2⟩
theorem sizesN_sum : ∀ n i, n ≤ 48 → (sizesN may n i).sum ≤ 8 ^ n := by
  intro n
  induction n using Nat.strongRecOn with
  | _ n ih =>
    intro i hn
    by_cases h : n < 2
    · rw [sizesN_lt may h]
      have := Nat.one_le_two_pow (n := 3 * n)
      rw [Nat.pow_mul] at this
      simpa using this
    · rw [sizesN_ge may (by omega)]
      have key : ∀ k, k ≤ n - 1 → (sizesP may n i k).sum ≤ 8 ^ (n - 1) + k * 8 ^ (n - 2) := by
        intro k
        induction k with
        | zero => intro _; have := ih (n - 1) (by omega) (i + 1) (by omega); rw [sizesP_zero]; omega
        | succ k ihk =>
          intro hk
          have h0 := ihk (by omega)
          rw [sizesP_succ]
          split
          · rw [plusF_sum, timesF_sum]
            have h1 := ih k (by omega) (i + 1) (by omega)
            have h2 := ih (n - 2 - k) (by omega) (i + 2 + k) (by omega)
            have h3 := Nat.mul_le_mul h1 h2
            rw [← Nat.pow_add, show k + (n - 2 - k) = n - 2 by omega] at h3
            rw [Nat.add_mul]
            omega
          · rw [Nat.add_mul]
            omega
      have h1 := key (n - 1) (Nat.le_refl _)
      obtain ⟨m, rfl⟩ : ∃ m, n = m + 2 := ⟨n - 2, by omega⟩
      simp only [Nat.add_sub_cancel, show m + 2 - 1 = m + 1 by omega] at h1 ⊢
      refine Nat.le_trans h1 ?_
      have h2 : (m + 1) * 8 ^ m ≤ 56 * 8 ^ m := Nat.mul_le_mul_right _ (by omega)
      rw [Nat.pow_succ, Nat.pow_succ]
      omega
theorem sizesP_sum (n i k : Nat) (hk : k ≤ n - 1) (hn : n ≤ 48) (h2 : 2 ≤ n) : (sizesP may n i k).sum ≤ 8 ^ n := by
  have mono : ∀ a b, a ≤ b → (sizesP may n i a).sum ≤ (sizesP may n i b).sum := by
    intro a b hab
    induction b with
    | zero => rw [show a = 0 by omega]; exact Nat.le_refl _
    | succ b ih =>
      by_cases e : a = b + 1
      · rw [e]; exact Nat.le_refl _
      · refine Nat.le_trans (ih (by omega)) ?_
        rw [sizesP_succ]
        split
        · rw [plusF_sum]; omega
        · exact Nat.le_refl _
  have := mono k (n - 1) hk
  rw [← sizesN_ge may h2] at this
  exact Nat.le_trans this (sizesN_sum may n i hn)
inductive Fold : Nat → List UInt8 → Prop
  | nil (i) : Fold i []
  | dot {i w} (h : Fold (i + 1) w) : Fold i (46 :: w)
  | pair {i u v} (hu : Fold (i + 1) u) (hm : may i (i + 1 + u.length) = true) (hv : Fold (i + 2 + u.length) v) : Fold i (40 :: (u ++ 41 :: v))
def sizeF (w : List UInt8) : Nat := w.countP (· == 40)
theorem sizeF_app (u v : List UInt8) : sizeF (u ++ v) = sizeF u + sizeF v := List.countP_append
theorem sizeF_pair (u v : List UInt8) : sizeF (40 :: (u ++ 41 :: v)) = 1 + sizeF u + sizeF v := by
  unfold sizeF
  rw [List.countP_cons, List.countP_append, List.countP_cons]
  simp
  omega
theorem sizeF_dot (w : List UInt8) : sizeF (46 :: w) = sizeF w := by
  unfold sizeF
  rw [List.countP_cons]
  simp
theorem Fold.le {i : Nat} {w : List UInt8} (h : Fold may i w) : sizeF w + 1 ≤ lenN may w.length i := by
  induction h with
  | nil i =>
    rw [lenN_lt may (by simp)]
    exact Nat.le_refl _
  | @dot i w h ih =>
    rw [sizeF_dot, List.length_cons]
    by_cases q : w.length + 1 < 2
    · have := lenN_lt may (i := i + 1) (show w.length < 2 by omega)
      rw [lenN_lt may q]
      omega
    · have := (lenP_le may (w.length + 1) i (w.length + 1 - 1)).1
      rw [← sizesN_ge may (by omega)] at this
      exact Nat.le_trans ih this
  | @pair i u v hu hm hv ih1 ih2 =>
    rw [sizeF_pair]
    have hl : (40 :: (u ++ 41 :: v) : List UInt8).length = u.length + v.length + 2 := by simp; omega
    rw [hl]
    have := (lenP_le may (u.length + v.length + 2) i (u.length + v.length + 2 - 1)).2 u.length (by omega) hm
    rw [← sizesN_ge may (by omega), show u.length + v.length + 2 - 2 - u.length = v.length by omega] at this
    unfold lenN at *
    omega
def better (best f : List UInt8) : List UInt8 := if best = [] ∨ Go.Op.bytesLess f best = true then f else best
def firstN (n i : Nat) : List UInt8 :=
  if _h : n = 0 then [] else
  let best := (List.range (n - 1)).attach.foldl (fun best k => if may i (i + 1 + k.1) ∧ lenN may k.1 (i + 1) + lenN may (n - 2 - k.1) (i + 2 + k.1) = lenN may n i then better best (40 :: (firstN k.1 (i + 1) ++ 41 :: firstN (n - 2 - k.1) (i + 2 + k.1))) else best) []
  if best = [] then 46 :: firstN (n - 1) (i + 1) else best
termination_by n
decreasing_by
  all_goals simp_wf
  · have := List.mem_range.1 k.2
    omega
  · omega
  · omega
def firstP (n i k : Nat) : List UInt8 :=
  (List.range k).foldl (fun best k => if may i (i + 1 + k) ∧ lenN may k (i + 1) + lenN may (n - 2 - k) (i + 2 + k) = lenN may n i then better best (40 :: (firstN may k (i + 1) ++ 41 :: firstN may (n - 2 - k) (i + 2 + k))) else best) []
theorem firstN_zero (i : Nat) : firstN may 0 i = [] := by rw [firstN, dif_pos rfl]
theorem firstN_pos {n i : Nat} (h : 0 < n) : firstN may n i = if firstP may n i (n - 1) = [] then 46 :: firstN may (n - 1) (i + 1) else firstP may n i (n - 1) := by
  rw [firstN, dif_neg (by omega)]
  have e := List.foldl_attach (l := List.range (n - 1)) (f := fun best k => if may i (i + 1 + k) ∧ lenN may k (i + 1) + lenN may (n - 2 - k) (i + 2 + k) = lenN may n i then better best (40 :: (firstN may k (i + 1) ++ 41 :: firstN may (n - 2 - k) (i + 2 + k))) else best) (b := [])
  unfold firstP
  rw [← e]
theorem firstP_succ (n i k : Nat) : firstP may n i (k + 1) = if may i (i + 1 + k) ∧ lenN may k (i + 1) + lenN may (n - 2 - k) (i + 2 + k) = lenN may n i then better (firstP may n i k) (40 :: (firstN may k (i + 1) ++ 41 :: firstN may (n - 2 - k) (i + 2 + k))) else firstP may n i k := by
  unfold firstP
  rw [List.range_succ, List.foldl_append]
  rfl
def Top (n i : Nat) (w : List UInt8) : Prop := Fold may i w ∧ w.length = n ∧ sizeF w + 1 = lenN may n i
theorem firstP_top (n i : Nat) (ih : ∀ m j, m < n → Top may m j (firstN may m j)) : ∀ k, k ≤ n - 1 → (firstP may n i k = [] ∧ ∀ j, j < k → ¬ (may i (i + 1 + j) = true ∧ lenN may j (i + 1) + lenN may (n - 2 - j) (i + 2 + j) = lenN may n i)) ∨ (firstP may n i k ≠ [] ∧ Top may n i (firstP may n i k))
  | 0, _ => .inl ⟨rfl, fun j hj => by omega⟩
  | k + 1, hk => by
    rw [firstP_succ]
    split
    · rename_i hc
      obtain ⟨hc1, hc2⟩ := hc
      obtain ⟨u1, u2, u3⟩ := ih k (i + 1) (by omega)
      obtain ⟨v1, v2, v3⟩ := ih (n - 2 - k) (i + 2 + k) (by omega)
      have hT : Top may n i (40 :: (firstN may k (i + 1) ++ 41 :: firstN may (n - 2 - k) (i + 2 + k))) := by
        refine ⟨.pair u1 (by rw [u2]; exact hc1) (by rw [u2]; exact v1), ?_, ?_⟩
        · simp only [List.length_cons, List.length_append, u2, v2]; omega
        · rw [sizeF_pair]; omega
      right
      unfold better
      split
      · exact ⟨by simp, hT⟩
      · rename_i hb
        rcases firstP_top n i ih k (by omega) with ⟨h, _⟩ | h
        · exact absurd (.inl h) hb
        · exact h
    · rename_i hc
      rcases firstP_top n i ih k (by omega) with ⟨h1, h2⟩ | h
      · refine .inl ⟨h1, fun j hj => ?_⟩
        by_cases e : j = k
        · subst e; exact hc
        · exact h2 j (by omega)
      · exact .inr h
theorem firstN_top : ∀ n i, Top may n i (firstN may n i) := by
  intro n
  induction n using Nat.strongRecOn with
  | _ n ih =>
    intro i
    by_cases h : n = 0
    · subst h
      rw [firstN_zero]
      exact ⟨.nil _, rfl, by rw [lenN_lt may (by omega)]; rfl⟩
    · rw [firstN_pos may (by omega)]
      rcases firstP_top may n i (fun m j hm => ih m hm j) (n - 1) (Nat.le_refl _) with ⟨h1, h2⟩ | ⟨h1, h2⟩
      · rw [if_pos h1]
        obtain ⟨u1, u2, u3⟩ := ih (n - 1) (by omega) (i + 1)
        refine ⟨.dot u1, by simp only [List.length_cons, u2]; omega, ?_⟩
        rw [sizeF_dot, u3]
        by_cases q : n < 2
        · rw [lenN_lt may q, lenN_lt may (by omega)]
        · rcases lenP_eq may n i (n - 1) with h3 | ⟨j, h3, h4, h5⟩
          · rw [← sizesN_ge may (by omega)] at h3
            exact h3.symm
          · rw [← sizesN_ge may (by omega)] at h5
            exact absurd ⟨h4, h5.symm⟩ (h2 j h3)
      · rw [if_neg h1]
        exact h2
end
end Go.Proofs.YtfcgofffalmdfaaGreatDoor.PA
namespace Go.Proofs.YtfcgofffalmdfaaGreatDoor.PA
open Go Go.Eng
theorem u32_inj {a b : Nat} (h : u32 a = u32 b) : a = b := by
  rw [u32_int, u32_int] at h
  simp only [AV.int.injEq, true_and] at h
  omega
theorem u32_one (n : Nat) : (u32 n).oneCell = true := by rw [u32_int]; rfl
theorem u32_froz (n : Nat) : (u32 n).froz = true := by rw [u32_int]; rfl
def digA (l : List Nat) : AV := .imm (l.map u32) l.length false
def intC (n : Nat) : List AV := [.bool false, digA (limbs n)]
def IntV (n : Nat) : AV := .agg (intC n)
def rowC (l : List Nat) : List AV := (l.map intC).flatten
def RowV (l : List Nat) : AV := .imm (rowC l) l.length false
theorem digA_froz (l : List Nat) : (digA l).froz = true := by
  simp only [digA, AV.froz]
  refine frozL_iff.2 fun x hx => ?_
  obtain ⟨n, _, rfl⟩ := List.mem_map.1 hx
  exact u32_froz n
theorem intC_froz (n : Nat) : AV.frozL (intC n) = true := by simp only [intC, AV.frozL, AV.froz, digA_froz, Bool.and_self]
theorem IntV_froz (n : Nat) : (IntV n).froz = true := by simp only [IntV, AV.froz]; exact intC_froz n
theorem rowC_froz (l : List Nat) : AV.frozL (rowC l) = true := by
  refine frozL_iff.2 fun x hx => ?_
  obtain ⟨c, hc, hx⟩ := List.mem_flatten.1 hx
  obtain ⟨n, _, rfl⟩ := List.mem_map.1 hc
  exact frozL_iff.1 (intC_froz n) x hx
theorem RowV_froz (l : List Nat) : (RowV l).froz = true := by simp only [RowV, AV.froz]; exact rowC_froz l
theorem map_u32_inj : ∀ {a b : List Nat}, a.map u32 = b.map u32 → a = b
  | [], [], _ => rfl
  | [], _ :: _, h => by simp at h
  | _ :: _, [], h => by simp at h
  | x :: a, y :: b, h => by
    simp only [List.map_cons, List.cons.injEq] at h
    rw [u32_inj h.1, map_u32_inj h.2]
theorem digA_inj {a b : List Nat} (h : digA a = digA b) : a = b := by
  simp only [digA, AV.imm.injEq] at h
  exact map_u32_inj h.1
theorem limbs_inj {a b : Nat} (h : limbs a = limbs b) : a = b := by rw [← valL_limbs a, h, valL_limbs]
theorem intC_inj {a b : Nat} (h : intC a = intC b) : a = b := by
  simp only [intC, List.cons.injEq, true_and, and_true] at h
  exact limbs_inj (digA_inj h)
theorem IntV_inj {a b : Nat} (h : IntV a = IntV b) : a = b := intC_inj (by simpa [IntV] using h)
theorem rowC_len (l : List Nat) : (rowC l).length = l.length * 2 := by
  induction l with
  | nil => rfl
  | cons n l ih =>
    simp only [rowC, List.map_cons, List.flatten_cons, List.length_append] at ih ⊢
    rw [ih]
    simp [intC]
    omega
theorem rowC_app (a b : List Nat) : rowC (a ++ b) = rowC a ++ rowC b := by simp [rowC]
theorem rowC_one (n : Nat) : rowC [n] = intC n := by simp [rowC]
theorem rowC_inj : ∀ {a b : List Nat}, rowC a = rowC b → a = b
  | [], [], _ => rfl
  | [], _ :: _, h => by simp [rowC, intC] at h
  | _ :: _, [], h => by simp [rowC, intC] at h
  | x :: a, y :: b, h => by
    simp only [rowC, List.map_cons, List.flatten_cons] at h
    have h1 := List.append_inj h (by simp [intC])
    rw [intC_inj h1.1, rowC_inj (a := a) (b := b) h1.2]
theorem RowV_inj {a b : List Nat} (h : RowV a = RowV b) : a = b := by
  simp only [RowV, AV.imm.injEq] at h
  exact rowC_inj h.1
theorem rowC_at : ∀ (l : List Nat) (j : Nat), j < l.length → (rowC l)[j * 2]? = some (.bool false) ∧ (rowC l)[j * 2 + 1]? = some (digA (limbs (l.getD j 0)))
  | [], j, h => by simp at h
  | x :: l, 0, h => ⟨rfl, rfl⟩
  | x :: l, j + 1, h => by
    obtain ⟨h1, h2⟩ := rowC_at l j (by simpa using h)
    have e : rowC (x :: l) = intC x ++ rowC l := by simp [rowC]
    rw [e]
    refine ⟨?_, ?_⟩
    · rw [List.getElem?_append_right (by simp [intC]; omega), ← h1]
      congr 1
      simp [intC]
      omega
    · rw [List.getElem?_append_right (by simp [intC]; omega), List.getD_cons_succ, ← h2]
      congr 1
      simp [intC]
      omega
theorem rowC_set : ∀ (l : List Nat) (j n : Nat), j < l.length → overA (rowC l) (j * 2) (intC n) = rowC (l.set j n)
  | [], j, n, h => by simp at h
  | x :: l, 0, n, h => by
    have e : ∀ y, rowC (y :: l) = intC y ++ rowC l := fun y => by simp [rowC]
    rw [List.set_cons_zero, e, e]
    simp [overA, intC]
  | x :: l, j + 1, n, h => by
    have ih := rowC_set l j n (by simpa using h)
    have e : ∀ y l, rowC (y :: l) = intC y ++ rowC l := fun y l => by simp [rowC]
    rw [List.set_cons_succ, e, e, ← ih]
    unfold overA
    have h2 : (intC x).length = 2 := rfl
    have h3 : (intC n).length = 2 := rfl
    rw [show (j + 1) * 2 = 2 + j * 2 by omega]
    rw [show 2 + j * 2 = (intC x).length + j * 2 by rw [h2], List.take_length_add_append, List.append_assoc, List.append_assoc, Nat.add_assoc, List.drop_length_add_append, List.append_assoc]
theorem MagL.fz {H H'' : AHeap} {N : Nat → Prop} {v : AV} {l : List Nat} (h : MagL H v l) (hn : ∀ i, v.own = some i → H''.get i = none) : Fz H H'' N v (digA l) := by
  rcases h with ⟨rfl, rfl⟩ | ⟨i, cap, full, opn, rfl, h2, h3, h4, h5, h6, h7⟩
  · exact .fnil
  · refine .fsl (k := l.length) (hn i rfl) h4 ?_ (fun j x y hx hy => ?_) (fun h0 => ?_)
    · rw [List.drop_zero, h5]
    · rw [List.drop_zero, h5] at hx
      rw [hx] at hy
      cases hy
      refine Fz.froz ?_
      obtain ⟨n, _, rfl⟩ := List.mem_map.1 (List.mem_of_getElem? hx)
      exact u32_froz n
    · rw [List.eq_nil_of_length_eq_zero h0]; rfl
theorem get_e0 (i : Nat) : (⟨.e, 0⟩ : AHeap).get i = none := by simp [AHeap.get, Tr.get]
theorem IsInt.fz {H : AHeap} {N : Nat → Prop} {v : AV} {n : Nat} (h : IsInt H v n) : Fz H ⟨.e, 0⟩ N v (IntV n) := by
  obtain ⟨m, rfl, hm⟩ := h
  refine .agg rfl (fun j x y hx hy => ?_)
  match j, hx, hy with
  | 0, hx, hy => cases hx; cases hy; exact .bool _
  | 1, hx, hy => cases hx; cases hy; exact MagL.fz hm (fun i _ => get_e0 i)
theorem RowI.fz {H H'' : AHeap} {N : Nat → Prop} {v : AV} {l : List Nat} (h : RowE 2 H v l.length (rowC l)) (hn : ∀ i, v.own = some i → H''.get i = none) : Fz H H'' N v (RowV l) := by
  rcases h with ⟨_, ⟨rfl, h0⟩ | ⟨i, full, rfl, hg, hf, hfl, hi⟩⟩ | ⟨h0, h1, i, rfl, h2, h3⟩
  · have : l = [] := List.eq_nil_of_length_eq_zero h0
    subst this
    exact .fnil
  · refine .fsl (k := l.length * 2) (hn i rfl) hg (by rw [List.drop_zero, hf]) (fun j x y hx hy => ?_) (fun h0 => ?_)
    · rw [List.drop_zero, hf] at hx
      rw [hx] at hy
      cases hy
      exact Fz.frozL (rowC_froz l) j x hx
    · rw [List.eq_nil_of_length_eq_zero h0]; rfl
  · have : l = [] := List.eq_nil_of_length_eq_zero h0
    subst this
    exact .fsl (k := 0) (hn i rfl) h3 rfl (fun j x y hx hy => by simp at hx) (fun _ => rfl)
open Classical in
noncomputable def unInt (v : AV) : Option Nat := if h : ∃ n, v = IntV n then some h.choose else none
open Classical in
noncomputable def unRow (v : AV) : Option (List Nat) := if h : ∃ l, v = RowV l then some h.choose else none
theorem unInt_V (n : Nat) : unInt (IntV n) = some n := by
  have h : ∃ m, IntV n = IntV m := ⟨n, rfl⟩
  unfold unInt
  rw [dif_pos h, ← IntV_inj h.choose_spec]
theorem unRow_V (l : List Nat) : unRow (RowV l) = some l := by
  have h : ∃ m, RowV l = RowV m := ⟨l, rfl⟩
  unfold unRow
  rw [dif_pos h, ← RowV_inj h.choose_spec]
theorem unInt_some {v : AV} {n : Nat} (h : unInt v = some n) : v = IntV n := by
  unfold unInt at h
  split at h
  · rename_i q
    cases h
    exact q.choose_spec
  · cases h
theorem unRow_some {v : AV} {l : List Nat} (h : unRow v = some l) : v = RowV l := by
  unfold unRow at h
  split at h
  · rename_i q
    cases h
    exact q.choose_spec
  · cases h
attribute [irreducible] IntV RowV digA
def bigN : Nat := B32 ^ 20
theorem limbs_len : ∀ (k n : Nat), n < B32 ^ k → (limbs n).length ≤ k
  | 0, n, h => by
    rw [Nat.pow_zero] at h
    rw [show n = 0 by omega, limbs_zero]
    exact Nat.le_refl _
  | k + 1, n, h => by
    by_cases h0 : n = 0
    · rw [h0, limbs_zero]; exact Nat.zero_le _
    · rw [limbs_pos h0, List.length_cons]
      have := limbs_len k (n / B32) (by
        rw [Nat.div_lt_iff_lt_mul (by decide)]
        rw [Nat.pow_succ] at h
        exact h)
      omega
theorem limbs20 {n : Nat} (h : n < bigN) : (limbs n).length ≤ 20 := limbs_len 20 n h
theorem bigN_def : bigN = B32 ^ 20 := rfl
attribute [irreducible] bigN
end Go.Proofs.YtfcgofffalmdfaaGreatDoor.PA
namespace Go.Eng
def Clean (H : AHeap) : Prop := ∀ j, H.next ≤ j → H.get j = none
def CleanTo (H H' : AHeap) : Prop := (Clean H → Clean H') ∧ H.next ≤ H'.next
def CleanCF (cf : CF) : Prop := ∀ f args H v H', cf f args H = some (v, H') → CleanTo H H'
theorem CleanTo.refl (H : AHeap) : CleanTo H H := ⟨id, Nat.le_refl _⟩
theorem CleanTo.trans {a b c : AHeap} (h : CleanTo a b) (k : CleanTo b c) : CleanTo a c := ⟨fun q => k.1 (h.1 q), Nat.le_trans h.2 k.2⟩
theorem clean_bump (H : AHeap) (k : Nat) : CleanTo H (H.bump k) := ⟨fun h j hj => h j (by rw [next_bump] at hj; omega), by rw [next_bump]; omega⟩
theorem clean_add (H : AHeap) (o : AObj) : CleanTo H (H.add o) := ⟨fun h j hj => by
  rw [next_add] at hj
  rw [AHeap.get_add, if_neg (by omega)]
  exact h j (by omega), by rw [next_add]; omega⟩
theorem clean_set {H : AHeap} {i : Nat} {o : Option AObj} (hi : i < H.next ∨ H.get i ≠ none ∨ o = none) : CleanTo H (H.set i o) := ⟨fun h j hj => by
  rw [next_set] at hj
  rw [AHeap.get_set]
  split
  · rename_i q
    subst q
    rcases hi with p | p | p
    · omega
    · exact absurd (h j hj) p
    · exact p
  · exact h j hj, by rw [next_set]; omega⟩
theorem clean_some {H : AHeap} {i : Nat} {o : Option AObj} {p : AObj} (h : H.get i = some p) : CleanTo H (H.set i o) := clean_set (.inr (.inl (by rw [h]; simp)))
theorem ofV_eff {o : Option AV} {x : AV} {H : AHeap} (h : AR.ofV o = .eff x H) : False := by
  cases o <;> simp [AR.ofV] at h
theorem storeA_clean {H H' : AHeap} {n : Nat} {a x : AV} (h : storeA H n a x = some H') : CleanTo H H' := by
  simp only [storeA] at h
  split at h
  · cases h
  · split at h
    · split at h
      · rename_i hg
        split at h
        · cases h; exact clean_some hg
        · cases h
      · cases h
    · cases h
theorem mkSliceA_clean {H H' : AHeap} {z : List AV} {b : Nat} {l c v : AV} (h : mkSliceA H z b l c = .eff v H') : CleanTo H H' := by
  unfold mkSliceA at h
  split at h
  · split at h
    · cases h; exact clean_add _ _
    · cases h
  · cases h
theorem appA_clean {H H' : AHeap} {z b : Nat} {x y v : AV} (h : appA H z b x y = .eff v H') : CleanTo H H' := by
  unfold appA at h
  repeat' (split at h)
  all_goals first
    | (cases h; done)
    | (cases h; exact .refl _)
    | (cases h; exact clean_add _ _)
    | (cases h; exact clean_some ‹_›)
    | (cases h; exact (clean_set (.inr (.inr rfl))).trans (clean_add _ _))
theorem xop_clean {ev : XO → Option AV} {H H' : AHeap} {n : Nat} {op : XOp} {x : AV} (h : xop ev H n op = .eff x H') : CleanTo H H' := by
  cases op <;> simp only [xop] at h
  all_goals (try (exact (ofV_eff h).elim))
  all_goals (try (cases h; done))
  all_goals (repeat' (split at h))
  all_goals first
    | (cases h; done)
    | (exact (ofV_eff h).elim)
    | (cases h; exact .refl _)
    | (cases h; exact clean_add _ _)
    | (cases h; exact clean_some ‹_›)
    | (cases h; exact storeA_clean ‹_›)
    | (exact mkSliceA_clean h)
    | (exact appA_clean h)
    | skip
theorem xtrace_xops {cf : CF} : ∀ (ops : List XOper) (n : Nat) (s s' : St) (tr : List St), xtrace cf ops n s = some tr → tr.getLast? = some s' → xops cf ops n s = some s'
  | [], n, s, s', tr, h, hl => by
    cases h
    simpa [xops] using hl
  | o :: r, n, s, s', tr, h, hl => by
    simp only [xtrace] at h
    split at h
    · rename_i s1 h1
      obtain ⟨tr1, h2, rfl⟩ := Option.map_eq_some_iff.1 h
      simp only [xops, h1]
      refine xtrace_xops r (n + 1) s1 s' tr1 h2 ?_
      rw [List.getLast?_cons] at hl
      have hne := xtrace_len _ _ _ _ h2
      cases tr1 with
      | nil => simp at hne
      | cons a l =>
        rw [List.getLast?_eq_some_getLast (by simp)] at hl ⊢
        exact hl
    · cases h
theorem loopF_clean {body : St → Option (XE × St)} (hb : ∀ s e s', body s = some (e, s') → CleanTo s.H s'.H) : ∀ (k : Nat) (s : St) (e : XE) (s' : St), loopF body k s = some (e, s') → CleanTo s.H s'.H
  | 0, s, e, s', h => by simp [loopF] at h
  | k + 1, s, e, s', h => by
    simp only [loopF] at h
    split at h
    · rename_i s1 h1
      exact (hb _ _ _ h1).trans (loopF_clean hb k s1 e s' h)
    · exact hb _ _ _ h
theorem mrun_clean {ok : St → Bool} {fin : St → St} {rnd : AV × AV → St → Option (XE × St)} {out : Nat} (hf : ∀ s, CleanTo s.H (fin s).H) (hr : ∀ p s e s', rnd p s = some (e, s') → CleanTo s.H s'.H) : ∀ (l : List (AV × AV)) (s : St) (e : XE) (s' : St), mrun ok fin rnd out l s = some (e, s') → CleanTo s.H s'.H
  | [], s, e, s', h => by
    simp only [mrun] at h
    split at h
    · cases h; exact hf s
    · cases h
  | p :: r, s, e, s', h => by
    simp only [mrun] at h
    split at h
    · split at h
      · rename_i s1 h1
        exact (hr _ _ _ _ h1).trans (mrun_clean hf hr r s1 e s' h)
      · rename_i i s1 h1
        split at h <;> cases h <;> exact hr _ _ _ _ h1
      · exact hr _ _ _ _ h
    · cases h
theorem meetR_clean {e : XE} : ∀ (l : List (Option (XE × St))) (s : St) (e' : XE) (s' : St), meetR e s l = some (e', s') → CleanTo s.H s'.H
  | [], s, e', s', h => by
    simp only [meetR, Option.some.injEq, Prod.mk.injEq] at h
    obtain ⟨_, rfl⟩ := h
    exact .refl _
  | some (e1, s1) :: r, s, e', s', h => by
    simp only [meetR] at h
    split at h
    · have c := meetR_clean r _ e' s' h
      refine CleanTo.trans ?_ c
      refine ⟨fun q j hj => q j ?_, Nat.le_max_left _ _⟩
      exact Nat.le_trans (Nat.le_max_left _ _) hj
    · cases h
  | none :: r, s, e', s', h => by simp [meetR] at h
theorem meetAll_clean {H : AHeap} {l : List (Option (XE × St))} (hl : ∀ e s, some (e, s) ∈ l → CleanTo H s.H) {e : XE} {s : St} (h : meetAll l = some (e, s)) : CleanTo H s.H := by
  unfold meetAll at h
  split at h
  · rename_i e1 s1 r
    exact (hl e1 s1 (by simp)).trans (meetR_clean r s1 e s h)
  · cases h
section
variable {cf : CF} (hcf : CleanCF cf)
include hcf
theorem xval_clean {ev : XO → Option AV} {H H' : AHeap} {n : Nat} {op : XOp} {x : AV} (hn : n < H.next) (h : xval cf ev H n op = some (x, H')) : CleanTo H H' := by
  unfold xval at h
  split at h
  · split at h
    · exact hcf _ _ _ _ _ h
    · cases h
  · split at h
    · cases h
    · cases h; exact .refl _
    · cases h; exact clean_set (.inl hn)
    · cases h; exact xop_clean ‹_›
theorem xstep_clean {s s' : St} {n : Nat} {o : XOper} (hn : n < s.H.next) (h : xstep cf s n o = some s') : CleanTo s.H s'.H := by
  unfold xstep at h
  split at h
  · split at h
    · rename_i x H hx
      cases h
      exact xval_clean hcf hn hx
    · cases h
  · cases h; exact .refl _
  · cases h
theorem xops_clean : ∀ (ops : List XOper) (n : Nat) (s s' : St), n + ops.length ≤ s.H.next → xops cf ops n s = some s' → CleanTo s.H s'.H
  | [], n, s, s', _, h => by
    simp only [xops, Option.some.injEq] at h
    subst h
    exact .refl _
  | o :: r, n, s, s', hn, h => by
    simp only [xops] at h
    simp only [List.length_cons] at hn
    split at h
    · rename_i s1 h1
      have c1 := xstep_clean hcf (by omega) h1
      exact c1.trans (xops_clean r (n + 1) s1 s' (by have := c1.2; omega) h)
    · cases h
theorem region_clean {ops : List XOper} {s s' : St} (k : Nat) (hk : ops.length ≤ k) (h : xops cf ops s.H.next (Go.Eng.bump s k) = some s') : CleanTo s.H s'.H :=
  (clean_bump s.H k).trans (xops_clean hcf ops _ _ _ (by show s.H.next + ops.length ≤ s.H.next + k; omega) h)
theorem xcode_clean (fuel : Nat) : ∀ (c : XCode) (s : St) (e : XE) (s' : St), xcode cf fuel c s = some (e, s') → CleanTo s.H s'.H
  | .skip, s, e, s', h => by simp only [xcode] at h; cases h; exact .refl _
  | .exit _, s, e, s', h => by simp only [xcode] at h; cases h; exact .refl _
  | .ret, s, e, s', h => by simp only [xcode] at h; cases h; exact .refl _
  | .reg ops, s, e, s', h => by
    simp only [xcode] at h
    obtain ⟨s1, h1, h2⟩ := Option.map_eq_some_iff.1 h
    cases h2
    exact region_clean hcf _ (Nat.le_refl _) h1
  | .regd ops lo nn, s, e, s', h => by
    simp only [xcode] at h
    obtain ⟨s1, h1, h2⟩ := Option.map_eq_some_iff.1 h
    cases h2
    unfold xregionD at h1
    split at h1
    · rename_i tr htr
      split at h1
      · exact region_clean hcf _ (Nat.le_refl _) (xtrace_xops _ _ _ _ _ htr h1)
      · cases h1
    · cases h1
  | .seq a b, s, e, s', h => by
    simp only [xcode] at h
    split at h
    · rename_i s1 h1
      exact (xcode_clean fuel a _ _ _ h1).trans (xcode_clean fuel b _ _ _ h)
    · exact xcode_clean fuel a _ _ _ h
  | .cond c a b, s, e, s', h => by
    simp only [xcode] at h
    split at h
    · exact xcode_clean fuel a _ _ _ h
    · exact xcode_clean fuel b _ _ _ h
    · cases h
  | .block id c, s, e, s', h => by
    simp only [xcode] at h
    split at h
    · rename_i i s1 h1
      split at h <;> cases h <;> exact xcode_clean fuel c _ _ _ h1
    · exact xcode_clean fuel c _ _ _ h
  | .loop c, s, e, s', h => by
    simp only [xcode] at h
    exact loopF_clean (fun s e s' h => xcode_clean fuel c s e s' h) _ _ _ _ h
  | .mrange pre it m out nx mo nb pr rest code, s, e, s', h => by
    simp only [xcode] at h
    split at h
    · cases h
    · rename_i s1 h1
      have c1 := region_clean hcf _ (Nat.le_succ _) h1
      have hrnd : ∀ (p : AV × AV) (s : St) (e : XE) (s' : St), (match xops cf rest (s.H.next + 1) (Go.Eng.bump ⟨((s.tm.set nx none).set mo none).set pr (some (.tup [p.1, p.2])), s.H⟩ (rest.length + 1)) with
        | none => none
        | some s2 => match xcode cf fuel code s2 with
          | some (.exit i, s3) => if i = nb then some (.normal, s3) else some (.exit i, s3)
          | r => r) = some (e, s') → CleanTo s.H s'.H := by
        intro p s e s' h
        split at h
        · cases h
        · rename_i s2 h2
          have c2 : CleanTo s.H s2.H := (clean_bump s.H (rest.length + 1)).trans (xops_clean hcf rest _ _ _ (by show s.H.next + 1 + rest.length ≤ s.H.next + (rest.length + 1); omega) h2)
          refine c2.trans ?_
          split at h
          · rename_i i s3 h3
            split at h <;> cases h <;> exact xcode_clean fuel code _ _ _ h3
          · exact xcode_clean fuel code _ _ _ h
      refine c1.trans ?_
      have hfin : ∀ s : St, CleanTo s.H ((fun s : St => (⟨(s.tm.set nx none).set mo none, s.H⟩ : St)) s).H := fun s => .refl _
      split at h
      · rename_i i hi
        split at h
        · rename_i es hes
          obtain ⟨r, hr, hu⟩ := Option.bind_eq_some_iff.1 h
          have c3 : CleanTo s1.H ⟨s1.H.m.set i (some (.lmap es s1.H.next)), s1.H.next + 1⟩ := (clean_some hes).trans (clean_bump (s1.H.set i (some (.lmap es s1.H.next))) 1)
          have c4 : CleanTo s1.H r.2.H := by
            unfold mrounds at hr
            refine meetAll_clean (e := r.1) (s := r.2) (fun e s hs => ?_) hr
            obtain ⟨l, _, hl⟩ := List.mem_map.1 hs
            exact c3.trans (mrun_clean hfin hrnd _ _ _ _ hl)
          refine c4.trans ?_
          unfold unlockA at hu
          split at hu
          · rename_i hg
            split at hu
            · cases hu; exact clean_some hg
            · cases hu
          · cases hu
        · rename_i es tl hes
          unfold mrounds at h
          refine meetAll_clean (fun e s hs => ?_) h
          obtain ⟨l, _, hl⟩ := List.mem_map.1 hs
          exact (clean_bump s1.H 1).trans (mrun_clean hfin hrnd _ _ _ _ hl)
        · cases h
      · cases h
theorem xfunc_clean {fuel : Nat} {fn : XFunc} {args : List AV} {H H' : AHeap} {v : AV} (h : xfunc cf fuel fn args H = some (v, H')) : CleanTo H H' := by
  unfold xfunc at h
  split at h
  · cases h
  · split at h
    · rename_i e s hs
      have c := xcode_clean hcf fuel _ _ _ _ hs
      split at h
      · cases h
      · split at h
        · cases h; exact c
        · cases h; exact c
        · cases h
    · cases h
end
theorem xcallK_clean {K : CF} (hK : CleanCF K) {F : Nat → Option XFunc} {fuel : Nat} : ∀ k, CleanCF (xcallK K F fuel k)
  | 0 => hK
  | k + 1 => by
    intro f args H v H' h
    unfold xcallK at h
    split at h
    · rename_i r hr
      cases h
      exact hK _ _ _ _ _ hr
    · split at h
      · exact xfunc_clean (xcallK_clean hK k) h
      · cases h
end Go.Eng
namespace Go.Eng
theorem fresh_of {ops : List XOper} {tr : List St} {base : Nat} {nn : List Nat} (h : ∀ k ∈ nn, ∃ o sk, ops[k]? = some o ∧ tr[k]? = some sk ∧ o.guard = none ∧ ∀ i, i ≤ k → ∃ si, tr[i]? = some si ∧ si.H.get (base + k) = none) : freshOk ops tr base nn = true := by
  unfold freshOk
  rw [List.all_eq_true]
  intro k hk
  obtain ⟨o, sk, h1, h2, h3, h4⟩ := h k hk
  rw [h1, h2]
  simp only
  rw [List.all_eq_true]
  intro i _
  rw [Bool.or_eq_true]
  by_cases hi : k < i
  · left
    have hw : wantedA sk.tm o = some true := by unfold wantedA; rw [h3]
    rw [hw]
    simpa using hi
  · right
    obtain ⟨si, q1, q2⟩ := h4 i (by omega)
    rw [q1]
    simp only
    rw [q2]
    rfl
inductive TrP : List St → List (KL0 × AHeap) → Prop
  | nil : TrP [] []
  | cons {tm : Tr AV} {H : AHeap} {l : KL0} {tr : List St} {ps : List (KL0 × AHeap)} (h : Kw tm l) (t : TrP tr ps) : TrP (⟨tm, H⟩ :: tr) ((l, H) :: ps)
theorem TrP.at {tr : List St} {ps : List (KL0 × AHeap)} (h : TrP tr ps) {i : Nat} {p : KL0 × AHeap} (hp : ps[i]? = some p) : ∃ tm, tr[i]? = some ⟨tm, p.2⟩ ∧ Kw tm p.1 := by
  induction h generalizing i with
  | nil => cases hp
  | cons h t ih =>
    cases i with
    | zero => cases hp; exact ⟨_, rfl, h⟩
    | succ i => exact ih hp
theorem TrP.last {tr : List St} {ps : List (KL0 × AHeap)} (h : TrP tr ps) {p : KL0 × AHeap} (hp : ps.getLast? = some p) : ∃ tm, tr.getLast? = some ⟨tm, p.2⟩ ∧ Kw tm p.1 := by
  induction h with
  | nil => cases hp
  | cons h t ih =>
    cases t with
    | nil => cases hp; exact ⟨_, rfl, h⟩
    | cons h' t' =>
      rw [List.getLast?_cons_cons] at hp ⊢
      exact ih hp
theorem TrP.len {tr : List St} {ps : List (KL0 × AHeap)} (h : TrP tr ps) : tr.length = ps.length := by
  induction h with
  | nil => rfl
  | cons h t ih => simp [ih]
def WKT (cf : CF) (ops : List XOper) (n : Nat) (l : KL0) (H : AHeap) (Q : List (KL0 × AHeap) → Prop) : Prop :=
  ∀ tm, Kw tm l → ∃ tr ps, xtrace cf ops n ⟨tm, H⟩ = some tr ∧ TrP tr ps ∧ Q ps
section
variable {cf : CF} {fuel n : Nat} {l : KL0} {H : AHeap} {Q : List (KL0 × AHeap) → Prop}
theorem WKT.nil (h : Q [(l, H)]) : WKT cf [] n l H Q := fun tm ht => ⟨_, _, rfl, .cons ht .nil, h⟩
theorem WKT.op {d : Nat} {op : XOp} {r : List XOper} {v : AV} {H1 : AHeap} (h : XV cf l H n op = some (v, H1)) (ha : allSm l op.opnds = true) (k : WKT cf r (n + 1) ((d, v) :: l) H1 fun ps => Q ((l, H) :: ps)) : WKT cf (⟨some d, op, none⟩ :: r) n l H Q := fun tm ht => by
  obtain ⟨tr, ps, h1, h2, h3⟩ := k _ (ht.set d v)
  unfold XV at h
  exact ⟨_, _, by simp only [xtrace, xstep, wantedA, (xval_kw ht ha).trans h, putT, h1, Option.map_some], .cons ht h2, h3⟩
theorem WKT.opn {op : XOp} {r : List XOper} {v : AV} {H1 : AHeap} (h : XV cf l H n op = some (v, H1)) (ha : allSm l op.opnds = true) (k : WKT cf r (n + 1) l H1 fun ps => Q ((l, H) :: ps)) : WKT cf (⟨none, op, none⟩ :: r) n l H Q := fun tm ht => by
  obtain ⟨tr, ps, h1, h2, h3⟩ := k _ ht
  unfold XV at h
  exact ⟨_, _, by simp only [xtrace, xstep, wantedA, (xval_kw ht ha).trans h, putT, h1, Option.map_some], .cons ht h2, h3⟩
theorem WKT.callV {d g : Nat} {x : XO} {xs : List XO} {cs av : List AV} {P : AV → AHeap → Prop} {r : List XOper} (hx : evK l x = some (.fn g cs)) (hl : evL (evK l) xs = some av) (ha : allSm l (x :: xs) = true) (h : ∃ v H', cf g (av ++ cs) H = some (v, H') ∧ P v H')
    (k : ∀ v H', P v H' → WKT cf r (n + 1) ((d, v) :: l) H' fun ps => Q ((l, H) :: ps)) : WKT cf (⟨some d, .call x xs, none⟩ :: r) n l H Q := by
  obtain ⟨v, H', h1, h2⟩ := h
  exact WKT.op (H1 := H') (k_any (op_call hx hl h1)) ha (k v H' h2)
def LooseP (ops : List XOper) (ps : List (KL0 × AHeap)) (base : Nat) (nn : List Nat) (q : Nat × List Nat × List Nat) : Prop :=
  ∃ d op l H v, ops[q.1]? = some ⟨d, op, none⟩ ∧ ps[q.1]? = some (l, H) ∧ allSm l op.opnds = true ∧ xop (evK l) H 0 op = .v v ∧
    ∀ j ∈ q.1 :: (q.2.1 ++ q.2.1.map (· + 1)), ∃ p, ps[j]? = some p ∧ xop (evK l) ((p.2.less base q.2.2).less base (nn.filter fun k => Nat.ble j k)) 0 op = .v v
def FreshP (ops : List XOper) (ps : List (KL0 × AHeap)) (base : Nat) (k : Nat) : Prop :=
  ∃ o, ops[k]? = some o ∧ o.guard = none ∧ ∀ i, i ≤ k → ∃ p, ps[i]? = some p ∧ p.2.get (base + k) = none
theorem WK.regT {ops : List XOper} {lo : List (Nat × List Nat × List Nat)} {nn : List Nat} {k : Nat} {R : XE → KL0 → AHeap → Prop} (hk : ops.length = k)
    (h : WKT cf ops H.next l (H.bump k) fun ps => (∀ q ∈ lo, LooseP ops ps H.next nn q) ∧ (∀ j ∈ nn, FreshP ops ps H.next j) ∧ ∃ p, ps.getLast? = some p ∧ R .normal p.1 p.2) : WK cf fuel (.regd ops lo nn) l H R := by
  unfold WK
  intro tm ht
  obtain ⟨tr, ps, h1, h2, h3, h4, p, h5, h6⟩ := h tm ht
  obtain ⟨tm', g1, g2⟩ := h2.last h5
  refine W.regd k hk ⟨tr, h1, ?_, ?_, _, g1, p.1, g2, h6⟩
  · rw [List.all_eq_true]
    intro q hq
    obtain ⟨d, op, l1, H1, v, q1, q2, q3, q4, q5⟩ := h3 q hq
    obtain ⟨t1, r1, r2⟩ := h2.at q2
    have hev : ∀ (H' : AHeap), xop (St.ev t1) H' 0 op = xop (evK l1) H' 0 op := fun H' => xop_congr fun x hx => by
      have := List.all_eq_true.1 q3 x hx
      cases e : evK l1 x with
      | none => rw [e] at this; cases this
      | some u => exact r2.ev e
    unfold looseOk
    rw [q1, r1]
    simp only [wantedA]
    rw [hev, q4]
    simp only
    rw [List.all_eq_true]
    intro j hj
    obtain ⟨pj, s1, s2⟩ := q5 j hj
    obtain ⟨tj, s3, _⟩ := h2.at s1
    rw [s3]
    simp only
    rw [hev, s2]
    exact AV.beq_refl v
  · refine fresh_of fun j hj => ?_
    obtain ⟨o, q1, q2, q3⟩ := h4 j hj
    obtain ⟨pj, s1, _⟩ := q3 j (Nat.le_refl _)
    obtain ⟨tj, s3, _⟩ := h2.at s1
    refine ⟨o, _, q1, s3, q2, fun i hi => ?_⟩
    obtain ⟨pi, u1, u2⟩ := q3 i hi
    obtain ⟨ti, u3, _⟩ := h2.at u1
    exact ⟨_, u3, u2⟩
theorem WKO.append1E {d1 d2 z bytes m : Nat} {x : XO} {zs : List AV} {ps : List (Nat × Nat × XO)} {r : List XOper} {R : KL0 → AHeap → Prop} {v : AV} {cs new : List AV}
    (hR : RowE z H v m cs) (hx : evK ((d1, .sl n 0 1 1) :: l) x = some v) (hps : (evParts (evK l) ps).bind (fillA (List.replicate 1 zs).flatten) = some new) (ha : allSm l (XOp.bslice zs ps 1).opnds = true) (hz : 0 < z) (hl : m + 1 ≤ 2 ^ 30) (hb : bytes ≤ 2 ^ 16) (hnl : new.length = z) (ho : new.all AV.oneCell = true)
    (hn : n < H.next) (hf : v.own ≠ some n)
    (k : ∀ v' H1, Row z H1 v' (m + 1) (cs ++ new) → H.next ≤ H1.next → (∀ j, j < H.next → j ≠ n → v.own ≠ some j → H1.get j = H.get j) → (∀ i, v'.own = some i → v.own = some i ∨ H.next ≤ i) →
      WKO cf r (n + 1 + 1) ((d2, v') :: (d1, .sl n 0 1 1) :: l) H1 R) :
    WKO cf (⟨some d1, .bslice zs ps 1, none⟩ :: ⟨some d2, .app z bytes x (.t d1), none⟩ :: r) n l H R := by
  have hR1 : RowE z (H.set n (some (.cells new none))) v m cs := hR.frame (Nat.le_refl _) (fun i hi => by rw [AHeap.get_set, if_neg (by intro e; rw [e] at hi; exact hf hi)])
  have hsrc : srcA (H.set n (some (.cells new none))) z 1 (.sl n 0 1 1) = some new := by
    simp only [srcA, AHeap.get_set, if_true, hnl, Nat.one_mul, Nat.zero_add, Nat.le_refl, List.drop_zero]
    rw [List.take_of_length_le (by omega)]
  obtain ⟨v', H1, h1, h2, h3, h4, h5⟩ := hR1.app (bytes := bytes) hz hl (by omega) hb (y := .sl n 0 1 1) rfl hsrc (by omega) ho
  have e1 : evK ((d1, AV.sl n 0 1 1) :: l) (.t d1) = some (.sl n 0 1 1) := by simp only [evK, look]; simp
  refine WKO.op (v := .sl n 0 1 1) (H1 := H.set n (some (.cells new none))) (k_any ?_) ha (WKO.op (v := v') (H1 := H1) (k_any ?_) ?_ (k v' H1 h2 h3 (fun j hj hjn hjo => ?_) h5))
  · simp only [xval, xop, hps]
  · simp only [xval, xop, hx, e1, h1]
  · simp [allSm, XOp.opnds, hx, e1]
  · rw [h4 j hj hjo, AHeap.get_set, if_neg hjn]
end
def Clp (z : Nat) (H : AHeap) (X : AV) (m : Nat) (cs : List AV) : Prop :=
  m < 1048576 ∧ ((X = .nils ∧ m = 0 ∧ cs = []) ∨ ∃ i full opn, X = .sl i 0 m m ∧ H.get i = some (.cells full opn) ∧ full.take (m * z) = cs ∧ m * z ≤ full.length)
theorem Clp.frame {z m : Nat} {H H' : AHeap} {X : AV} {cs : List AV} (h : Clp z H X m cs) (hg : ∀ i, X.own = some i → H'.get i = H.get i) : Clp z H' X m cs := by
  obtain ⟨h0, h⟩ := h
  refine ⟨h0, ?_⟩
  rcases h with h | ⟨i, full, opn, rfl, h1, h2, h3⟩
  · exact .inl h
  · exact .inr ⟨i, full, opn, rfl, (hg i rfl).trans h1, h2, h3⟩
theorem Clp.app {z bytes m j : Nat} {H : AHeap} {X : AV} {cs new : List AV} (h : Clp z H X m cs) (hb : bytes ≤ 2 ^ 16) (hj : H.get j = some (.cells new none)) (hnl : new.length = z) (ho : new.all AV.oneCell = true) : appA H z bytes X (.sl j 0 1 1) = .eff (.sl H.next 0 (m + 1) openCap) (H.add (.cells (cs ++ new) (some z))) := by
  have hsrc : srcA H z 1 (.sl j 0 1 1) = some new := by
    simp only [srcA, hj, hnl, Nat.one_mul, Nat.zero_add, Nat.le_refl, List.drop_zero, if_true]
    rw [List.take_of_length_le (by omega)]
  obtain ⟨h0, ⟨rfl, rfl, rfl⟩ | ⟨i, full, opn, rfl, h1, h2, h3⟩⟩ := h
  · simp only [appA, lenA, hsrc, ho]
    rw [if_neg (by simp; omega), if_neg (by omega), if_neg (by omega)]
    rfl
  · simp only [appA, lenA, hsrc, ho, h1]
    rw [if_neg (by simp; omega), if_neg (by omega), if_neg (by omega), if_neg (by omega), if_pos (by unfold openAt; omega), if_neg (by omega), List.drop_zero, h2]
end Go.Eng
namespace Go.Proofs.YtfcgofffalmdfaaGreatDoor.PA
open Go Go.Eng Go.Proofs
theorem op_faddrI {cf : CF} {n o p : Nat} {cs : List AV} {H : AHeap} {ev : XO → Option AV} {x : XO} (hx : ev x = some (.iptr cs p)) : xval cf ev H n (.faddr o x) = some (.iptr cs (p + o), H) := by
  simp only [xval, xop, hx]
def RdR (z : Nat) (H : AHeap) (X : AV) (len : Nat) (cs : List AV) : Prop :=
  cs.length = len * z ∧ ((∃ f, X = .imm cs len f) ∨ (X = .nils ∧ len = 0) ∨ ∃ i c full opn, X = .sl i 0 len c ∧ i < H.next ∧ H.get i = some (.cells full opn) ∧ full.take (len * z) = cs ∧ len * z ≤ full.length)
theorem RdR.of {z len : Nat} {H : AHeap} {X : AV} {cs : List AV} (h : RowE z H X len cs) : RdR z H X len cs := by
  refine ⟨h.csl, ?_⟩
  rcases h with ⟨h0, ⟨rfl, rfl⟩ | ⟨i, full, rfl, h1, h2, h3, h4⟩⟩ | ⟨rfl, rfl, i, rfl, h1, h2⟩
  · exact .inr (.inl ⟨rfl, rfl⟩)
  · exact .inr (.inr ⟨i, _, full, _, rfl, h4, h1, h2, h3⟩)
  · exact .inr (.inr ⟨i, _, _, _, rfl, h1, h2, by simp, by simp⟩)
theorem RdR.imm {z len : Nat} {H : AHeap} {cs : List AV} {f : Bool} (h : cs.length = len * z) : RdR z H (.imm cs len f) len cs := ⟨h, .inl ⟨f, rfl⟩⟩
theorem RdR.frame {z len : Nat} {H H' : AHeap} {X : AV} {cs : List AV} (h : RdR z H X len cs) (hn : H.next ≤ H'.next) (hg : ∀ i, X.own = some i → H'.get i = H.get i) : RdR z H' X len cs := by
  obtain ⟨h0, h⟩ := h
  refine ⟨h0, ?_⟩
  rcases h with h | h | ⟨i, c, full, opn, rfl, h1, h2, h3, h4⟩
  · exact .inl h
  · exact .inr (.inl h)
  · exact .inr (.inr ⟨i, c, full, opn, rfl, by omega, (hg i rfl).trans h2, h3, h4⟩)
theorem RdR.own_lt {z len : Nat} {H : AHeap} {X : AV} {cs : List AV} (h : RdR z H X len cs) {i : Nat} (hi : X.own = some i) : i < H.next := by
  rcases h with ⟨_, ⟨f, rfl⟩ | ⟨rfl, _⟩ | ⟨j, c, full, opn, rfl, h1, _⟩⟩
  · cases hi
  · cases hi
  · cases hi; exact h1
theorem RdR.len {z len : Nat} {H : AHeap} {X : AV} {cs : List AV} (h : RdR z H X len cs) : Go.Eng.lenN X = some len := by
  rcases h with ⟨_, ⟨f, rfl⟩ | ⟨rfl, rfl⟩ | ⟨j, c, full, opn, rfl, h1, _⟩⟩ <;> rfl
def adE (X : AV) (p : Nat) : AV := match X with
  | .imm cs _ _ => .iptr cs p
  | .sl i o _ _ => .ptr i (o + p)
  | _ => undefA
section
variable {cf : CF} {n : Nat} {H0 H H' : AHeap} {mod : List Nat} {T : Nat} {fs : List (Nat × AObj)} {l : KL0} {x y : XO} {z len a p : Nat} {X : AV} {cs : List AV}
theorem k_lenE (hx : evK l x = some X) (hE : RdR z H0 X len cs) : XV cf l H n (.len x) = some (nA len, H) := k_lenL hx hE.len
theorem k_iaE (hx : evK l x = some X) (hy : evK l y = some (nA a)) (hE : RdR z H0 X len cs) (h : a < len) : XV cf l H n (.iaddr z x y) = some (adE X (a * z), H) :=
  k_any (op_ia hx hy (by
    show iaddrA z X (.int .i64 (a : Int)) = _
    rcases hE with ⟨_, ⟨f, rfl⟩ | ⟨rfl, rfl⟩ | ⟨j, c, full, opn, rfl, h1, _⟩⟩
    · simp only [iaddrA, idxOk_lt h, if_true, Int.toNat_natCast]; rfl
    · omega
    · simp only [iaddrA, idxOk_lt h, if_true, Int.toNat_natCast]; rfl))
theorem RdR.at {X : AV} (hE : RdR z H0 X len cs) (hF : ∀ i, X.own = some i → H'.get i = H0.get i) (h : p < len * z) : ∃ c, cellsAt H' (adE X p) = some c ∧ c.take (len * z - p) = cs.drop p := by
  rcases hE with ⟨h0, ⟨f, rfl⟩ | ⟨rfl, rfl⟩ | ⟨j, c, full, opn, rfl, h1, h2, h3, h4⟩⟩
  · refine ⟨cs.drop p, rfl, ?_⟩
    rw [List.take_of_length_le (by rw [List.length_drop]; omega)]
  · omega
  · refine ⟨full.drop p, ?_, ?_⟩
    · simp only [adE, cellsAt, hF j rfl, h2, Nat.zero_add]
    · rw [← h3, List.drop_take]
theorem k_mnZ {a b : Int} (hx : evK l x = some (.int .i64 a)) (hy : evK l y = some (.int .i64 b)) : XV cf l H n (.mn [x, y]) = some (.int .i64 (if b < a then b else a), H) :=
  k_any (by
    have : evL (evK l) [x, y] = some [.int .i64 a, .int .i64 b] := by simp only [evL, hx, hy]; rfl
    simp only [xval, xop, this]
    rfl)
theorem k_mxZ {a b : Int} (hx : evK l x = some (.int .i64 a)) (hy : evK l y = some (.int .i64 b)) : XV cf l H n (.mx [x, y]) = some (.int .i64 (if b > a then b else a), H) :=
  k_any (by
    have : evL (evK l) [x, y] = some [.int .i64 a, .int .i64 b] := by simp only [evL, hx, hy]; rfl
    simp only [xval, xop, this]
    rfl)
end
section
variable {cf : CF} {n : Nat} {H0 H H' : AHeap} {mod : List Nat} {T : Nat} {fs : List (Nat × AObj)} {l : KL0} {x y : XO} {r : List XOper} {R : KL0 → AHeap → Prop}
theorem WKO.mkO {d m bytes : Nat} {z : List AV} (hx : evK l x = some (nA m)) (hy : evK l y = some (nA m)) (hb : m ≤ 2 ^ 24 ∧ bytes ≤ 2 ^ 16) (hF : HF H0 mod T fs H) (hm : H'.m = H.m) (hn : H.next ≤ H'.next)
    (k : ∀ H1, HF H0 mod (H'.next + 1) ((H'.next, .cells (List.replicate m z).flatten none) :: fs) H1 → H1.next = H'.next + 1 → WKO cf r (n + 1) ((d, .sl H'.next 0 m m) :: l) H1 R) : WKO cf (⟨some d, .mkslice z bytes x y, none⟩ :: r) n l H' R := by
  have hF' := hF.up hm hn
  refine WKO.op (v := .sl H'.next 0 m m) (H1 := H'.add (.cells (List.replicate m z).flatten none)) (k_any ?_) (by simp [allSm, XOp.opnds, hx, hy]) (k _ (hF'.new (n := H'.next) hF'.le (Nat.lt_succ_self _) (by rw [AHeap.get_add, if_pos rfl]) (fun k hk => by rw [AHeap.get_add, if_neg hk])) rfl)
  simp only [xval, xop, hx, hy]
  rw [show mkSliceA H' z bytes (nA m) (nA m) = if m ≤ m ∧ m ≤ 2 ^ 24 ∧ bytes ≤ 2 ^ 16 then .eff (.sl H'.next 0 m m) (H'.add (.cells (List.replicate m z).flatten none)) else .fail from rfl, if_pos ⟨Nat.le_refl _, hb.1, hb.2⟩]
theorem WKO.stN {i p w : Nat} {opn : Option Nat} {f : Nat → AV} {N : List Nat} {a x : XO} (ha : evK l a = some (.ptr i p)) (hx : evK l x = some (f w)) (hc : (f w).cells = [f w]) (h1 : (f w).oneCell = true) (hF : HF H0 mod T ((i, .cells (N.map f) opn) :: fs) H) (hm : H'.m = H.m) (hn : H.next ≤ H'.next) (hi : i ∈ mod ∨ H0.next ≤ i) (hp : p < N.length)
    (k : ∀ H1, HF H0 mod T ((i, .cells ((N.set p w).map f) opn) :: fs) H1 → H1.next = H'.next → WKO cf r (n + 1) l H1 R) : WKO cf (⟨none, .store 1 a x, none⟩ :: r) n l H' R := by
  have e : (N.set p w).map f = overA (N.map f) p (f w).cells := by
    rw [hc, List.map_set, overA, List.set_eq_take_append_cons_drop, if_pos (by simpa using hp)]
    simp
  rw [e] at k
  exact WKO.stO0 ha hx hF hm hn hi (by rw [hc]; rfl) (by rw [hc]; simp [h1]) (by simp; omega) k
theorem k_ia1s {i len c a : Nat} (hx : evK l x = some (.sl i 0 len c)) (hy : evK l y = some (nA a)) (h : a < len) : XV cf l H n (.iaddr 1 x y) = some (.ptr i a, H) := by
  have := k_iaN (cf := cf) (H := H) (n := n) (z := 1) hx hy h
  rwa [Nat.zero_add, Nat.mul_one] at this
end
end Go.Proofs.YtfcgofffalmdfaaGreatDoor.PA
namespace Go.Proofs.YtfcgofffalmdfaaGreatDoor.PA
open Go Go.Eng
def digI (l : List Nat) : AV := .imm (l.map u32) l.length false
theorem digI_eq (l : List Nat) : digA l = digI l := by unfold digA digI; rfl
section
variable {cf : CF} {n a : Nat} {H : AHeap} {l : KL0} {x y : XO} {d : List Nat}
theorem k_lenD (hx : evK l x = some (digI d)) : XV cf l H n (.len x) = some (nA d.length, H) := k_lenL hx rfl
theorem k_iaD (hx : evK l x = some (digI d)) (hy : evK l y = some (nA a)) (h : a < d.length) : XV cf l H n (.iaddr 1 x y) = some (.iptr (d.map u32) a, H) := by
  have := k_iaM (cf := cf) (H := H) (n := n) (z := 1) hx hy h
  rwa [Nat.mul_one] at this
theorem k_ldD (hx : evK l x = some (.iptr (d.map u32) a)) (h : a < d.length) : XV cf l H n (.load none x) = some (u32 (d.getD a 0), H) :=
  k_load hx (by
    show ((d.map u32).drop a)[0]? = _
    rw [List.getElem?_drop, Nat.add_zero, List.getElem?_map, List.getElem?_eq_getElem h, List.getD_eq_getElem?_getD, List.getElem?_eq_getElem h]
    rfl)
end
theorem replicate_u32 (m : Nat) : (List.replicate m [AV.int .u32 (.ofNat 0)]).flatten = (List.replicate m 0).map u32 := by
  rw [List.map_replicate, u32_int]
  induction m with
  | zero => rfl
  | succ m ih => rw [List.replicate_succ, List.flatten_cons, ih, List.replicate_succ]; rfl
theorem addL_step (a b : List Nat) (i c : Nat) (h : i < a.length) : addL (a.drop i) (b.drop i) c = (a.getD i 0 + b.getD i 0 + c) % B32 :: addL (a.drop (i + 1)) (b.drop (i + 1)) ((a.getD i 0 + b.getD i 0 + c) / B32) := by
  rw [List.drop_eq_getElem_cons h]
  have e1 : a.getD i 0 = a[i] := by rw [List.getD_eq_getElem?_getD, List.getElem?_eq_getElem h]; rfl
  by_cases hb : i < b.length
  · have e2 : b.getD i 0 = b[i] := by rw [List.getD_eq_getElem?_getD, List.getElem?_eq_getElem hb]; rfl
    rw [List.drop_eq_getElem_cons hb, addL, e1, e2]
  · have e2 : b.getD i 0 = 0 := by rw [List.getD_eq_getElem?_getD, List.getElem?_eq_none (by omega)]; rfl
    rw [List.drop_eq_nil_of_le (show b.length ≤ i by omega), List.drop_eq_nil_of_le (show b.length ≤ i + 1 by omega), addL, e1, e2]
    simp only [Nat.add_zero]
theorem set_rep (p : List Nat) (m w : Nat) : (p ++ List.replicate (m + 1) 0).set p.length w = (p ++ [w]) ++ List.replicate m 0 := by
  rw [List.set_append_right _ _ (Nat.le_refl _), Nat.sub_self, List.replicate_succ, List.set_cons_zero]
  simp
theorem u32_cells (n : Nat) : (u32 n).cells = [u32 n] := by rw [u32_int]; rfl
theorem u32_zero : AV.int .u32 (.ofNat 0) = u32 0 := by rw [u32_int]; rfl
def body54 : XCode := match L97.code with
  | .seq _ (.seq _ c) => c
  | c => c
theorem HF.start (H : AHeap) : HF H [] H.next [] H := ⟨fun p hp => (by cases hp), fun p hp => (by cases hp), by simp, Nat.le_refl _, Nat.le_refl _, fun _ _ _ => rfl⟩
theorem dig_lt {d : List Nat} (hd : digL d) (i : Nat) : d.getD i 0 < B32 := by
  rw [List.getD_eq_getElem?_getD]
  cases h : d[i]? with
  | none => exact (by decide : 0 < B32)
  | some v => exact hd v (List.mem_of_getElem? h)
set_option maxHeartbeats 1000000 in
theorem plus_tail {cf : CF} {fuel : Nat} {H : AHeap} {a b : List Nat} (ha : digL a) (hb : digL b) (hab : b.length ≤ a.length) (hl : a.length ≤ 1000) (hf : a.length < fuel)
    (hT : ∀ H v l, MagL H v l → l.length ≤ 1001 → ∃ v' H', cf 96 [v] H = some (v', H') ∧ (MagL H' v' (trimL l) ∧ Same H H'))
    (hA : ∀ (H : AHeap) (x y c : Nat), x < B32 → y < B32 → c < B32 → cf 126 [u32 x, u32 y, u32 c] H = some (.tup [u32 ((x + y + c) % B32), u32 ((x + y + c) / B32)], H)) :
    WK cf fuel body54 [(0, digI a), (1, digI b)] H fun e l' H' => e = .ret ∧ ∃ v, Go.Eng.look l' 4 = some v ∧ MagL H' v (trimL (addL a b 0)) ∧ Same H H' := by
  have hF0 := HF.start H
  unfold body54 L97
  dsimp only
  refine WK.seq (WK.reg (k := 5) rfl ?_)
  repeat' (first | ((first | apply WKO.op); (· first | exact k_mv rfl | exact k_lenD rfl | exact opA); (· rfl)) | fail)
  refine WKO.mkO (m := a.length + 1) rfl rfl ⟨by omega, by decide⟩ hF0 rfl (by simp only [next_bump]; omega) ?_
  intro H1 hF1 hn1
  have hA0 : ∀ (H : AHeap) (x c : Nat), x < B32 → c < B32 → cf 126 [u32 x, .int .u32 (.ofNat 0), u32 c] H = some (.tup [u32 ((x + 0 + c) % B32), u32 ((x + 0 + c) / B32)], H) := fun H x c h1 h2 => by rw [u32_zero]; exact hA H x 0 c h1 (by decide) h2
  rw [replicate_u32] at hF1
  repeat' (first | refine WK.seq ?_ | refine WK.block ?_ | (apply WK.reg; (· exact lnn)) | refine WKO.nil ?_ | ((first | apply WKO.op); (· first | exact k_mv rfl | exact k_lenD rfl); (· rfl)) | refine pN ?_ | fail)
  refine WK.loop (α := Nat × List Nat × Nat) (fun s => [(0, digI a), (1, digI b), (5, .sl (H.bump 5).next 0 (a.length + 1) (a.length + 1)), (6, u32 s.2.2), (21, nA a.length), (22, nA s.1)])
    (fun s H' => ∃ T, HF H [] T [((H.bump 5).next, .cells ((s.2.1 ++ List.replicate (a.length + 1 - s.1) 0).map u32) none)] H' ∧ s.2.1.length = s.1 ∧ s.1 ≤ a.length ∧ s.2.2 ≤ 1 ∧ s.2.1 ++ addL (a.drop s.1) (b.drop s.1) s.2.2 = addL a b 0) (fun s => a.length - s.1) (0, [], 0) ?_ ?_ (by show a.length - 0 < fuel; omega) ?_
  · exact .cons rfl <| .cons rfl <| .cons rfl <| .cons (by rw [u32_int]; rfl) <| .cons rfl <| .cons rfl <| .nil _
  · exact ⟨_, hF1.up (by rfl) (by simp only [next_bump, hn1]; omega), rfl, Nat.zero_le _, Nat.zero_le _, rfl⟩
  · rintro ⟨i, p, c⟩ H2 ⟨T, hF2, hp, hi, hc, hs⟩
    simp only at hF2 hp hi hc hs ⊢
    have hbi : b.length ≤ i → b.getD i 0 = 0 := fun q => by rw [List.getD_eq_getElem?_getD, List.getElem?_eq_none q]; rfl
    have e1 : B32 = 4294967296 := rfl
    repeat' (first | refine WK.seq ?_ | refine WK.skip ?_ | refine WK.exit ?_ | refine WK.block ?_ | (apply WK.reg; (· exact lnn)) | refine WKO.nil ?_ | ((first | apply WKO.op); (· first | exact k_mv rfl | exact k_lenD rfl | exact k_iaD rfl rfl (by omega) | exact k_ldD rfl (by omega) | exact k_call rfl rfl (hA _ _ _ _ (dig_lt ha _) (dig_lt hb _) (by omega)) | exact k_call rfl rfl (hA0 _ _ _ (dig_lt ha _) (by omega)) | exact k_ia1s rfl rfl (by omega) | exact opA); (· rfl)) | refine pN ?_ | refine pX ?_ | refine bX ?_ | (apply WK.condD; (· rfl); all_goals intro _) | fail)
    · have hst := addL_step a b i c (by omega)
      refine WKO.stN (f := u32) (N := p ++ List.replicate (a.length + 1 - i) 0) (p := i) rfl rfl (u32_cells _) (u32_one _) hF2 rfl nxx (.inr (by simp only [next_bump]; omega)) (by simp; omega) ?_
      intro H3 hF3 hn3
      repeat' (first | (apply WK.reg; (· exact lnn)) | refine WKO.nil ?_ | ((first | apply WKO.op); (· first | exact k_mv rfl | exact opA); (· rfl)) | refine pN ?_ | refine bN ?_ | fail)
      refine ⟨(i + 1, p ++ [(a.getD i 0 + b.getD i 0 + c) % B32], (a.getD i 0 + b.getD i 0 + c) / B32), (.cons rfl <| .cons rfl <| .cons rfl <| .cons rfl <| .cons rfl <| .cons rfl <| .nil _), ⟨T, ?_, by simp [hp], by show i + 1 ≤ a.length; omega, ?_, ?_⟩, by show a.length - (i + 1) < a.length - i; omega⟩
      · have : (p ++ List.replicate (a.length + 1 - i) 0).set i ((a.getD i 0 + b.getD i 0 + c) % B32) = p ++ [(a.getD i 0 + b.getD i 0 + c) % B32] ++ List.replicate (a.length + 1 - (i + 1)) 0 := by
          rw [← hp, show a.length + 1 - p.length = (a.length + 1 - (p.length + 1)) + 1 by omega]
          exact set_rep _ _ _
        rw [this] at hF3
        exact hF3.up (by rfl) (by simp only [next_bump] at *; omega)
      · have h1 := dig_lt ha i
        have h2 := dig_lt hb i
        exact Nat.lt_succ_iff.1 ((Nat.div_lt_iff_lt_mul (by decide)).2 (by omega))
      · rw [← hs, hst]
        simp
    · have hst := addL_step a b i c (by omega)
      rw [hbi (by omega)] at hst
      refine WKO.stN (f := u32) (N := p ++ List.replicate (a.length + 1 - i) 0) (p := i) rfl rfl (u32_cells _) (u32_one _) hF2 rfl nxx (.inr (by simp only [next_bump]; omega)) (by simp; omega) ?_
      intro H3 hF3 hn3
      repeat' (first | (apply WK.reg; (· exact lnn)) | refine WKO.nil ?_ | ((first | apply WKO.op); (· first | exact k_mv rfl | exact opA); (· rfl)) | refine pN ?_ | refine bN ?_ | fail)
      refine ⟨(i + 1, p ++ [(a.getD i 0 + 0 + c) % B32], (a.getD i 0 + 0 + c) / B32), (.cons rfl <| .cons rfl <| .cons rfl <| .cons rfl <| .cons rfl <| .cons rfl <| .nil _), ⟨T, ?_, by simp [hp], by show i + 1 ≤ a.length; omega, ?_, ?_⟩, by show a.length - (i + 1) < a.length - i; omega⟩
      · have : (p ++ List.replicate (a.length + 1 - i) 0).set i ((a.getD i 0 + 0 + c) % B32) = p ++ [(a.getD i 0 + 0 + c) % B32] ++ List.replicate (a.length + 1 - (i + 1)) 0 := by
          rw [← hp, show a.length + 1 - p.length = (a.length + 1 - (p.length + 1)) + 1 by omega]
          exact set_rep _ _ _
        rw [this] at hF3
        exact hF3.up (by rfl) (by simp only [next_bump] at *; omega)
      · have h1 := dig_lt ha i
        exact Nat.lt_succ_iff.1 ((Nat.div_lt_iff_lt_mul (by decide)).2 (by omega))
      · rw [← hs, hst]
        simp
    · refine ⟨fun _ => ?_, fun q => absurd rfl q⟩
      have hia : i = a.length := by omega
      subst hia
      repeat' (first | refine WK.seq ?_ | (apply WK.reg; (· exact lnn)) | ((first | apply WKO.op); (· first | exact k_mv rfl | exact k_lenD rfl | exact k_ia1s rfl rfl (by omega)); (· rfl)) | fail)
      refine WKO.stN (f := u32) (N := p ++ List.replicate (a.length + 1 - a.length) 0) (p := a.length) rfl rfl (u32_cells _) (u32_one _) hF2 rfl nxx (.inr (by simp only [next_bump]; omega)) (by simp; omega) ?_
      intro H3 hF3 hn3
      have e2 : (p ++ List.replicate (a.length + 1 - a.length) 0).set a.length c = addL a b 0 := by
        rw [← hs, show a.length + 1 - a.length = 0 + 1 by omega]
        conv => lhs; rw [← hp]
        rw [set_rep, List.drop_eq_nil_of_le (Nat.le_refl _)]
        simp [addL]
      rw [e2] at hF3
      have hl3 := addL_len a b 0
      have hle := hF3.le
      have hM : MagL H3 (.sl (H.bump 5).next 0 (a.length + 1) (a.length + 1)) (addL a b 0) := .inr ⟨_, _, (addL a b 0).map u32, none, by rw [hl3], by rw [hl3]; exact Nat.le_refl _, by unfold openAt; omega, hF3.obj _ (List.mem_cons_self ..), by rw [hl3, List.take_of_length_le (by simp [hl3])], by simp, Nat.lt_of_lt_of_le (hF3.lt _ (List.mem_cons_self ..)) hle⟩
      have hS3 : Same H H3 := ⟨Nat.le_trans hF3.base hF3.le, fun j hj => hF3.fr j hj (by simp)⟩
      repeat' (first | refine WK.seq ?_ | (apply WK.reg; (· exact lnn)) | refine WKO.nil ?_ | ((first | apply WKO.op); (· first | exact k_mv rfl); (· rfl)) | refine pN ?_ | fail)
      refine WKO.callV rfl rfl rfl (hT _ _ _ (hM.same (Same.bump _ 3)) (by rw [hl3]; omega)) ?_
      rintro v H4 ⟨m4, s4⟩
      repeat' (first | refine WK.ret ?_ | refine WKO.nil ?_ | ((first | apply WKO.op); (· first | exact k_mv rfl); (· rfl)) | refine pN ?_ | fail)
      exact ⟨rfl, v, rfl, m4, hS3.trans ((Same.bump _ 3).trans s4)⟩
theorem plus_ok {cf : CF} {fuel : Nat} {H : AHeap} {a b : List Nat} (ha : digL a) (hb : digL b) (hla : a.length ≤ 1000) (hlb : b.length ≤ 1000) (hf : 1001 < fuel)
    (hT : ∀ H v l, MagL H v l → l.length ≤ 1001 → ∃ v' H', cf 96 [v] H = some (v', H') ∧ (MagL H' v' (trimL l) ∧ Same H H'))
    (hA : ∀ (H : AHeap) (x y c : Nat), x < B32 → y < B32 → c < B32 → cf 126 [u32 x, u32 y, u32 c] H = some (.tup [u32 ((x + y + c) % B32), u32 ((x + y + c) / B32)], H)) :
    ∃ v H', xfunc cf fuel L97 [digI a, digI b] H = some (v, H') ∧ (MagL H' v (trimL (if a.length < b.length then addL b a 0 else addL a b 0)) ∧ Same H H') := by
  refine xfunc_ofK rfl (by show 2 ≤ 54; omega) ?_
  have hbody := fun (a b : List Nat) ha hb h1 h2 h3 (H : AHeap) => plus_tail (cf := cf) (fuel := fuel) (H := H) (a := a) (b := b) ha hb h1 h2 h3 hT hA
  unfold body54 at hbody
  revert hbody
  unfold L97
  dsimp only
  intro hbody
  refine WK.seq (WK.reg (k := 1) rfl (WKO.op (k_mv rfl) rfl (WKO.nil ⟨fun _ => ?_, fun q => absurd rfl q⟩)))
  refine WK.cut (α := List Nat × List Nat) (fun s => [(0, digI s.1), (1, digI s.2)]) (fun s H' => digL s.1 ∧ digL s.2 ∧ s.2.length ≤ s.1.length ∧ s.1.length ≤ 1000 ∧ addL s.1 s.2 0 = (if a.length < b.length then addL b a 0 else addL a b 0) ∧ Same H H') ?_ ?_
  · repeat' (first | refine WK.seq ?_ | refine WK.skip ?_ | (apply WK.reg; (· exact lnn)) | refine WKO.nil ?_ | ((first | apply WKO.op); (· first | exact k_mv rfl | exact k_lenD rfl | exact opA); (· rfl)) | refine pN ?_ | (apply WK.condD; (· rfl); all_goals intro _) | fail)
    · exact ⟨(b, a), (.cons rfl <| .cons rfl <| .nil _), hb, ha, by show a.length ≤ b.length; omega, hlb, by rw [if_pos (by assumption)], (Same.bump _ _).trans ((Same.bump _ _).trans (Same.bump _ _))⟩
    · exact ⟨(a, b), (.cons rfl <| .cons rfl <| .nil _), ha, hb, by show b.length ≤ a.length; omega, hla, by rw [if_neg (by assumption)], (Same.bump _ _).trans (Same.bump _ _)⟩
  · rintro ⟨a', b'⟩ H1 ⟨q1, q2, q3, q4, q5, q6⟩
    simp only at q1 q2 q3 q4 q5 ⊢
    refine (hbody a' b' q1 q2 q3 q4 (by omega) H1).mono ?_
    rintro e l' H' ⟨rfl, v, h1, h2, h3⟩
    refine ⟨fun id q => (by cases q), [v], by simp only [resK, resK1, h1, Option.bind_some], ?_, q6.trans h3⟩
    rw [q5] at h2
    exact h2
end Go.Proofs.YtfcgofffalmdfaaGreatDoor.PA
namespace Go.Proofs.YtfcgofffalmdfaaGreatDoor.PA
open Go Go.Eng
section
variable {cf : CF} {n a b : Nat} {H : AHeap} {l : KL0} {x y : XO}
theorem k_c64 (hx : evK l x = some (u32 a)) (ha : a < B32) : XV cf l H n (.conv .u64 x) = some (u64 a, H) := k_any (op_c64 ha hx)
theorem k_c32 (hx : evK l x = some (u64 a)) : XV cf l H n (.conv .u32 x) = some (u32 (a % B32), H) := k_any (op_c32 hx)
theorem k_add64 (hx : evK l x = some (u64 a)) (hy : evK l y = some (u64 b)) (h : a + b < B64) : XV cf l H n (.bin .add x y) = some (u64 (a + b), H) := k_any (op_add64 h hx hy)
theorem k_mul64 (hx : evK l x = some (u64 a)) (hy : evK l y = some (u64 b)) (h : a * b < B64) : XV cf l H n (.bin .mul x y) = some (u64 (a * b), H) := k_any (op_mul64 h hx hy)
theorem k_shr64 (hx : evK l x = some (u64 a)) : XV cf l H n (.bin .shr x (.k (.int .u64 (.ofNat 32)))) = some (u64 (a / B32), H) := k_any (op_shr32 hx rfl)
end
theorem map_get {d : List Nat} {p : Nat} (h : p < d.length) : (d.map u32)[p]? = some (u32 (d.getD p 0)) := by
  rw [List.getElem?_map, List.getElem?_eq_getElem h, List.getD_eq_getElem?_getD, List.getElem?_eq_getElem h]
  rfl
theorem digL_set {d : List Nat} (h : digL d) (p : Nat) {w : Nat} (hw : w < B32) : digL (d.set p w) := by
  intro x hx
  rcases List.mem_or_eq_of_mem_set hx with q | q
  · exact h x q
  · rw [q]; exact hw
theorem mulRow_step (x : Nat) (b q : List Nat) (j c : Nat) (hj : j < b.length) (hq : j < q.length) : mulRow x (b.drop j) (q.drop j) c = (x * b.getD j 0 + q.getD j 0 + c) % B32 :: mulRow x (b.drop (j + 1)) (q.drop (j + 1)) ((x * b.getD j 0 + q.getD j 0 + c) / B32) := by
  rw [List.drop_eq_getElem_cons hj, List.drop_eq_getElem_cons hq, mulRow]
  simp only [List.getD_eq_getElem?_getD, List.getElem?_eq_getElem hj, List.getElem?_eq_getElem hq, Option.getD_some]
theorem mulRow_end (x : Nat) (q : List Nat) (j c : Nat) (hq : j < q.length) : mulRow x [] (q.drop j) c = c :: q.drop (j + 1) := by
  rw [List.drop_eq_getElem_cons hq, mulRow]
theorem mulL_step (a b q : List Nat) (i : Nat) (hi : i < a.length) {o : Nat} {r : List Nat} (h : mulRow (a.getD i 0) b q 0 = o :: r) : mulL (a.drop i) b q = o :: mulL (a.drop (i + 1)) b r := by
  rw [List.drop_eq_getElem_cons hi, mulL]
  have : a.getD i 0 = a[i] := by rw [List.getD_eq_getElem?_getD, List.getElem?_eq_getElem hi]; rfl
  rw [← this, h]
theorem prod_lt {x y o c : Nat} (hx : x < B32) (hy : y < B32) (ho : o < B32) (hc : c < B32) : x * y + o + c < B64 ∧ (x * y + o + c) / B32 < B32 := by
  have e1 : B32 = 4294967296 := rfl
  have e2 : B64 = 18446744073709551616 := rfl
  rw [e1] at hx hy ho hc ⊢
  rw [e2]
  have h1 : x * y ≤ 4294967295 * 4294967295 := Nat.mul_le_mul (by omega) (by omega)
  refine ⟨by omega, (Nat.div_lt_iff_lt_mul (by decide)).2 (by omega)⟩
theorem app_getD (p q : List Nat) (j : Nat) : (p ++ q).getD (p.length + j) 0 = q.getD j 0 := by
  rw [List.getD_eq_getElem?_getD, List.getD_eq_getElem?_getD, List.getElem?_append_right (by omega)]
  congr 2
  omega
theorem app_set (p q : List Nat) (j w : Nat) : (p ++ q).set (p.length + j) w = p ++ q.set j w := by
  rw [List.set_append_right _ _ (by omega)]
  congr 2
  omega
set_option maxHeartbeats 2000000 in
theorem times_ok {cf : CF} {fuel : Nat} {H : AHeap} {a b : List Nat} (ha : digL a) (hb : digL b) (hla : a.length ≤ 1000) (hlb : b.length ≤ 1000) (hf : 1001 < fuel)
    (hT : ∀ H v l, MagL H v l → l.length ≤ 2000 → ∃ v' H', cf 96 [v] H = some (v', H') ∧ (MagL H' v' (trimL l) ∧ Same H H')) :
    ∃ v H', xfunc cf fuel L128 [digI a, digI b] H = some (v, H') ∧ (MagL H' v (trimL (mulL a b (List.replicate (a.length + b.length) 0))) ∧ Same H H') := by
  refine xfunc_ofK rfl (by show 2 ≤ 68; omega) ?_
  have hF0 := HF.start H
  have e1 : B32 = 4294967296 := rfl
  unfold L128
  dsimp only
  repeat' (first | refine WK.seq ?_ | (apply WK.reg; (· exact lnn)) | refine WKO.nil ?_ | ((first | apply WKO.op); (· first | exact k_mv rfl | exact k_lenD rfl | exact opA); (· rfl)) | refine pN ?_ | fail)
  refine WKO.mkO (m := a.length + b.length) rfl rfl ⟨by omega, by decide⟩ hF0 rfl (by simp only [next_bump]; omega) ?_
  intro H1 hF1 hn1
  rw [replicate_u32] at hF1
  repeat' (first | refine WK.seq ?_ | refine WK.block ?_ | (apply WK.reg; (· exact lnn)) | refine WKO.nil ?_ | ((first | apply WKO.op); (· first | exact k_mv rfl | exact k_lenD rfl); (· rfl)) | refine pN ?_ | fail)
  refine WK.loop (α := Nat × List Nat × List Nat) (fun s => [(0, digI a), (1, digI b), (5, .sl ((H.bump 1).bump 7).next 0 (a.length + b.length) (a.length + b.length)), (18, digI a), (19, nA a.length), (20, nA s.1)])
    (fun s H' => ∃ T, HF H [] T [(((H.bump 1).bump 7).next, .cells ((s.2.1 ++ s.2.2).map u32) none)] H' ∧ s.2.1.length = s.1 ∧ s.1 + s.2.2.length = a.length + b.length ∧ s.1 ≤ a.length ∧ digL (s.2.1 ++ s.2.2) ∧ s.2.1 ++ mulL (a.drop s.1) b s.2.2 = mulL a b (List.replicate (a.length + b.length) 0)) (fun s => a.length - s.1) (0, [], List.replicate (a.length + b.length) 0) (.cons rfl <| .cons rfl <| .cons rfl <| .cons rfl <| .cons rfl <| .cons rfl <| .nil _) ?_ (by show a.length - 0 < fuel; omega) ?_
  · refine ⟨_, hF1.up (by rfl) (by simp only [next_bump, hn1]; omega), rfl, by simp, Nat.zero_le _, ?_, rfl⟩
    intro x hx
    rw [List.nil_append] at hx
    rw [List.eq_of_mem_replicate hx]
    decide
  · rintro ⟨i, p, q⟩ H2 ⟨T, hF2, hp, hq, hi, hd, hs⟩
    simp only at hF2 hp hq hi hd hs ⊢
    repeat' (first | refine WK.seq ?_ | refine WK.skip ?_ | refine WK.exit ?_ | refine WK.block ?_ | (apply WK.reg; (· exact lnn)) | refine WKO.nil ?_ | ((first | apply WKO.op); (· first | exact k_mv rfl | exact k_lenD rfl | exact k_iaD rfl rfl (by omega) | exact k_ldD rfl (by omega) | exact opA); (· rfl)) | refine pN ?_ | refine pX ?_ | refine bX ?_ | (apply WK.condD; (· rfl); all_goals intro _) | fail)
    · have hx := dig_lt ha i
      refine WK.loop (α := Nat × List Nat × Nat) (fun s => [(0, digI a), (1, digI b), (5, .sl ((H.bump 1).bump 7).next 0 (a.length + b.length) (a.length + b.length)), (6, nA i), (7, u32 (a.getD i 0)), (8, u64 s.2.2), (18, digI a), (19, nA a.length), (20, nA i), (25, digI b), (26, nA b.length), (27, nA s.1)])
        (fun s H' => ∃ T, HF H [] T [(((H.bump 1).bump 7).next, .cells ((p ++ s.2.1).map u32) none)] H' ∧ s.2.1.length = q.length ∧ s.1 ≤ b.length ∧ s.2.2 < B32 ∧ digL (p ++ s.2.1) ∧ s.2.1.take s.1 ++ mulRow (a.getD i 0) (b.drop s.1) (s.2.1.drop s.1) s.2.2 = mulRow (a.getD i 0) b q 0) (fun s => b.length - s.1) (0, q, 0) ?_ ?_ (by show b.length - 0 < fuel; omega) ?_
      · exact .cons rfl <| .cons rfl <| .cons rfl <| .cons rfl <| .cons rfl <| .cons (by rw [u64_int]; rfl) <| .cons rfl <| .cons rfl <| .cons rfl <| .cons rfl <| .cons rfl <| .cons rfl <| .nil _
      · exact ⟨_, hF2.up (by rfl) (by simp only [next_bump]; omega), rfl, Nat.zero_le _, (by decide : 0 < B32), hd, rfl⟩
      · rintro ⟨j, w, c⟩ H3 ⟨T3, hF3, hw, hj, hc, hd3, hs3⟩
        simp only at hF3 hw hj hc hd3 hs3 ⊢
        have hlen : (p ++ w).length = a.length + b.length := by rw [List.length_append]; omega
        have hpr := prod_lt hx (dig_lt hb j) (dig_lt hd3 (i + j)) hc
        repeat' (first | refine WK.seq ?_ | refine WK.skip ?_ | refine WK.exit ?_ | refine WK.block ?_ | (apply WK.reg; (· exact lnn)) | refine WKO.nil ?_ | ((first | apply WKO.op); (· first | exact k_mv rfl | exact k_iaD rfl rfl (by omega) | exact k_ldD rfl (by omega) | exact k_c64 rfl (dig_lt ha _) | exact k_c64 rfl (dig_lt hb _) | exact k_c64 rfl (dig_lt hd3 _) | exact k_ia1s rfl rfl (by omega) | exact k_mul64 rfl rfl (by omega) | (apply k_ldO; (· rfl); (· exact hF3); (· rfl); (· exact .head _); (· exact map_get (by omega))) | exact k_add64 rfl rfl (by omega) | exact k_c32 rfl | exact k_shr64 rfl | exact opA); (· rfl)) | refine pN ?_ | refine pX ?_ | refine bX ?_ | (apply WK.condD; (· rfl); all_goals intro _) | fail)
        · refine WKO.stN (f := u32) (N := p ++ w) (p := i + j) rfl rfl (u32_cells _) (u32_one _) hF3 rfl nxx (.inr (by simp only [next_bump]; omega)) (by omega) ?_
          intro H4 hF4 hn4
          repeat' (first | (apply WK.reg; (· exact lnn)) | refine WKO.nil ?_ | ((first | apply WKO.op); (· first | exact k_mv rfl | exact opA); (· rfl)) | refine pN ?_ | refine bN ?_ | fail)
          have ho : (p ++ w).getD (i + j) 0 = w.getD j 0 := by rw [← hp]; exact app_getD _ _ _
          rw [ho] at hF4 hpr ⊢
          have hset : ∀ v, (p ++ w).set (i + j) v = p ++ w.set j v := fun v => by rw [← hp]; exact app_set _ _ _ _
          refine ⟨(j + 1, w.set j ((a.getD i 0 * b.getD j 0 + w.getD j 0 + c) % B32), (a.getD i 0 * b.getD j 0 + w.getD j 0 + c) / B32), (.cons rfl <| .cons rfl <| .cons rfl <| .cons rfl <| .cons rfl <| .cons rfl <| .cons rfl <| .cons rfl <| .cons rfl <| .cons rfl <| .cons rfl <| .cons rfl <| .nil _), ⟨T3, ?_, by simp [hw], by show j + 1 ≤ b.length; omega, hpr.2, ?_, ?_⟩, by show b.length - (j + 1) < b.length - j; omega⟩
          · rw [hset] at hF4
            exact hF4.up (by rfl) (by simp only [next_bump] at *; omega)
          · simp only
            rw [← hset]
            exact digL_set hd3 _ (Nat.mod_lt _ (by decide))
          · simp only
            rw [← hs3, mulRow_step _ b w j c (by omega) (by omega), List.take_add_one, List.getElem?_set_self (by omega), List.take_set_of_le (Nat.le_refl j), List.drop_set_of_lt (Nat.lt_succ_self j)]
            simp
        · refine ⟨fun _ => ?_, fun q => absurd rfl q⟩
          have hjb : j = b.length := by omega
          subst hjb
          repeat' (first | (apply WK.reg; (· exact lnn)) | ((first | apply WKO.op); (· first | exact k_mv rfl | exact k_lenD rfl | exact k_c32 rfl | exact k_ia1s rfl rfl (by omega) | exact opA); (· rfl)) | fail)
          refine WKO.stN (f := u32) (N := p ++ w) (p := i + b.length) rfl rfl (u32_cells _) (u32_one _) hF3 rfl nxx (.inr (by simp only [next_bump]; omega)) (by omega) ?_
          intro H4 hF4 hn4
          repeat' (first | (apply WK.reg; (· exact lnn)) | refine WKO.nil ?_ | ((first | apply WKO.op); (· first | exact k_mv rfl | exact opA); (· rfl)) | refine pN ?_ | refine bN ?_ | fail)
          rw [Nat.mod_eq_of_lt hc] at hF4
          have hset : (p ++ w).set (i + b.length) c = p ++ w.set b.length c := by rw [← hp]; exact app_set _ _ _ _
          have hrow : mulRow (a.getD i 0) b q 0 = w.set b.length c := by
            rw [← hs3, List.drop_eq_nil_of_le (Nat.le_refl _), mulRow_end _ _ _ _ (by omega), List.set_eq_take_append_cons_drop, if_pos (by omega)]
          have hd4 : digL (p ++ w.set b.length c) := by rw [← hset]; exact digL_set hd3 _ hc
          obtain ⟨o, r, hor⟩ : ∃ o r, w.set b.length c = o :: r := by
            cases hq2 : w.set b.length c with
            | nil =>
              have : (w.set b.length c).length = 0 := by rw [hq2]; rfl
              rw [List.length_set] at this
              omega
            | cons o r => exact ⟨o, r, rfl⟩
          have hlr : r.length + 1 = q.length := by
            have : (w.set b.length c).length = r.length + 1 := by rw [hor]; rfl
            rw [List.length_set] at this
            omega
          refine ⟨(i + 1, p ++ [o], r), (.cons rfl <| .cons rfl <| .cons rfl <| .cons rfl <| .cons rfl <| .cons rfl <| .nil _), ⟨T3, ?_, by simp [hp], by show i + 1 + r.length = a.length + b.length; omega, by show i + 1 ≤ a.length; omega, ?_, ?_⟩, by show a.length - (i + 1) < a.length - i; omega⟩
          · rw [hset, hor] at hF4
            have : p ++ [o] ++ r = p ++ o :: r := by simp
            rw [← this] at hF4
            exact hF4.up (by rfl) (by simp only [next_bump] at *; omega)
          · rw [hor] at hd4
            simpa using hd4
          · simp only
            rw [← hs, mulL_step a b q i (by omega) (by rw [hrow, hor])]
            simp
    · refine ⟨fun _ => ?_, fun q => absurd rfl q⟩
      have hia : i = a.length := by omega
      subst hia
      repeat' (first | refine WK.seq ?_ | (apply WK.reg; (· exact lnn)) | ((first | apply WKO.op); (· first | exact k_mv rfl); (· rfl)) | fail)
      have hM : MagL H2 (.sl ((H.bump 1).bump 7).next 0 (a.length + b.length) (a.length + b.length)) (p ++ q) := .inr ⟨_, _, (p ++ q).map u32, none, by rw [List.length_append, hp, hq], by rw [List.length_append, hp, hq]; exact Nat.le_refl _, by unfold openAt; omega, hF2.obj _ (List.mem_cons_self ..), by rw [List.take_of_length_le (by simp)], by simp, Nat.lt_of_lt_of_le (hF2.lt _ (List.mem_cons_self ..)) hF2.le⟩
      have hS2 : Same H H2 := ⟨Nat.le_trans hF2.base hF2.le, fun j hj => hF2.fr j hj (by simp)⟩
      refine WKO.callV rfl rfl rfl (hT _ _ _ (hM.same ((Same.bump _ 1).trans (Same.bump _ 3))) (by rw [List.length_append, hp, hq]; omega)) ?_
      rintro v H4 ⟨m4, s4⟩
      repeat' (first | refine WK.ret ?_ | refine WKO.nil ?_ | ((first | apply WKO.op); (· first | exact k_mv rfl); (· rfl)) | refine pN ?_ | fail)
      refine ⟨fun id q => (by cases q), [v], rfl, ?_, hS2.trans (((Same.bump _ 1).trans (Same.bump _ 3)).trans s4)⟩
      rw [← hs, List.drop_eq_nil_of_le (Nat.le_refl _), mulL]
      exact m4
end Go.Proofs.YtfcgofffalmdfaaGreatDoor.PA
namespace Go.Eng
theorem xtrace_app {cf : CF} : ∀ (a b : List XOper) (n : Nat) (s s1 : St) (tr tr2 : List St), xtrace cf a n s = some tr → tr.getLast? = some s1 → xtrace cf b (n + a.length) s1 = some tr2 → xtrace cf (a ++ b) n s = some (tr.dropLast ++ tr2)
  | [], b, n, s, s1, tr, tr2, h, h1, h2 => by
    cases h
    simp only [List.getLast?_singleton, Option.some.injEq] at h1
    subst h1
    simpa using h2
  | o :: a, b, n, s, s1, tr, tr2, h, h1, h2 => by
    simp only [xtrace] at h
    split at h
    · rename_i s2 hs
      obtain ⟨tr1, h3, rfl⟩ := Option.map_eq_some_iff.1 h
      have hne : tr1 ≠ [] := by
        intro q
        subst q
        have := xtrace_len _ _ _ _ h3
        simp at this
      have h4 : tr1.getLast? = some s1 := by
        cases tr1 with
        | nil => exact absurd rfl hne
        | cons x r => rwa [List.getLast?_cons_cons] at h1
      have := xtrace_app a b (n + 1) s2 s1 tr1 tr2 h3 h4 (by rw [List.length_cons] at h2; rwa [show n + 1 + a.length = n + (a.length + 1) by omega])
      simp only [List.cons_append, xtrace, hs, this, Option.map_some]
      rw [List.dropLast_cons_of_ne_nil hne]
      rfl
    · cases h
theorem loose_calm2 {cf : CF} {ops r : List XOper} {lo : List (Nat × List Nat × List Nat)} {tm : Tr AV} {H : AHeap} {n b : Nat} {tr : List St} (h1 : xtrace cf (ops ++ r) n ⟨tm, H⟩ = some tr) (h2 : ∀ (i : Nat) (t : St), i ≤ ops.length → tr[i]? = some t → t.H = H) (hlo : lo.all (looseB ops) = true) : lo.all (looseOk (ops ++ r) tr b []) = true := by
  rw [List.all_eq_true] at hlo ⊢
  intro l hl
  have hb := hlo l hl
  unfold looseB at hb
  rw [Bool.and_eq_true, Bool.and_eq_true] at hb
  obtain ⟨⟨b1, b2⟩, b3⟩ := hb
  have b1' : l.2.2 = [] := by simpa using b1
  have hlen := xtrace_len _ _ _ _ h1
  have hin : ∀ i ∈ (l.1 :: (l.2.1 ++ l.2.1.map (· + 1))), ∃ si, tr[i]? = some si ∧ si.H = H := by
    intro i hi
    rw [List.all_eq_true] at b2
    have := b2 i hi
    have hi1 : i ≤ ops.length := Nat.le_of_ble_eq_true this
    have hi' : i < tr.length := by rw [hlen, List.length_append]; omega
    exact ⟨tr[i], List.getElem?_eq_getElem hi', h2 i _ hi1 (List.getElem?_eq_getElem hi')⟩
  split at b3
  · rename_i d m x g ho
    have hol : l.1 < ops.length := by
      rcases Nat.lt_or_ge l.1 ops.length with q | q
      · exact q
      · rw [List.getElem?_eq_none q] at ho; cases ho
    have ho' : (ops ++ r)[l.1]? = some { dst := d, op := XOp.load m x, guard := g } := by rw [List.getElem?_append_left hol]; exact ho
    obtain ⟨t, t', q1, q2⟩ := xtrace_at _ _ _ _ h1 _ _ ho'
    have ht : t.H = H := h2 _ t (Nat.le_of_lt hol) q1
    unfold looseOk
    rw [ho', q1]
    dsimp only
    unfold xstep at q2
    generalize wantedA t.tm { dst := d, op := XOp.load m x, guard := g } = wd at q2 ⊢
    cases wd with
    | none => cases q2
    | some wb =>
      cases wb with
      | false => rfl
      | true =>
        dsimp only at q2 ⊢
        have hv : ∃ y, ∀ n, xop (St.ev t.tm) t.H n (XOp.load m x) = .v y := by
          cases hx : (St.ev t.tm x).bind (loadA t.H m) with
          | none => simp only [xval, xop, hx, AR.ofV] at q2; cases q2
          | some y => exact ⟨y, fun n => by simp only [xop, hx, AR.ofV]⟩
        obtain ⟨y, hy⟩ := hv
        rw [hy 0]
        dsimp only
        rw [List.all_eq_true]
        intro i hi
        obtain ⟨si, s1, s2⟩ := hin i hi
        rw [s1]
        dsimp only
        rw [b1', List.filter_nil]
        simp only [AHeap.less]
        rw [s2, ← ht, hy 0]
        exact AV.beq_refl y
  · cases b3
theorem WK.regCS {cf : CF} {fuel : Nat} {l : KL0} {H : AHeap} {Q : XE → KL0 → AHeap → Prop} {pre : List XOper} {st : XOper} {lo : List (Nat × List Nat × List Nat)} {k : Nat} (hk : (pre ++ [st]).length = k) (hlo : lo.all (looseB pre) = true)
    (h : WKC cf pre H.next l (H.bump k) fun l' => WKO cf [st] (H.next + pre.length) l' (H.bump k) fun l'' H'' => Q .normal l'' H'') : WK cf fuel (.regd (pre ++ [st]) lo []) l H Q := by
  unfold WK
  intro tm ht
  refine W.regd k hk ?_
  unfold WKC at h
  have h1 := h tm ht
  unfold WC at h1
  obtain ⟨tr, q1, q1', s', q2, q3, l', q4, q5⟩ := h1
  unfold WKO at q5
  have h2 := q5 s'.tm q4
  unfold WO at h2
  obtain ⟨s2, r1, l2, r2, r3⟩ := h2
  have hs' : (⟨s'.tm, H.bump k⟩ : St) = s' := by cases s'; simp only at q3; subst q3; rfl
  rw [hs'] at r1
  have hx : xtrace cf [st] (H.next + pre.length) s' = some [s', s2] := by
    simp only [xops] at r1
    simp only [xtrace]
    split at r1
    · rename_i s3 h3
      cases r1
      simp only [h3, Option.map_some]
    · cases r1
  have htr := xtrace_app pre [st] _ _ _ _ _ q1 q2 hx
  have hl1 := xtrace_len _ _ _ _ q1
  unfold WT
  refine ⟨_, htr, loose_calm2 htr (fun i t hi hit => ?_) hlo, by simp [freshOk], s2, by simp, l2, r2, r3⟩
  by_cases hip : i < tr.dropLast.length
  · rw [List.getElem?_append_left hip] at hit
    exact q1' t (List.dropLast_subset _ (List.mem_of_getElem? hit))
  · rw [List.getElem?_append_right (by omega)] at hit
    have : i - tr.dropLast.length = 0 := by rw [List.length_dropLast] at hip ⊢; omega
    rw [this] at hit
    simp only [List.getElem?_cons_zero, Option.some.injEq] at hit
    rw [← hit]
    exact q3
theorem WK.regC1 {cf : CF} {fuel : Nat} {l : KL0} {H : AHeap} {Q : XE → KL0 → AHeap → Prop} {ops : List XOper} {st : XOper} {lo : List (Nat × List Nat × List Nat)} (m : Nat) (hm : m + 1 = ops.length) (hd : ops.drop m = [st]) (hlo : lo.all (looseB (ops.take m)) = true)
    (h : WKC cf (ops.take m) H.next l (H.bump (m + 1)) fun l' => WKO cf [st] (H.next + m) l' (H.bump (m + 1)) fun l'' H'' => Q .normal l'' H'') : WK cf fuel (.regd ops lo []) l H Q := by
  have e : ops = ops.take m ++ [st] := by rw [← hd, List.take_append_drop]
  have hl : (ops.take m).length = m := by rw [List.length_take]; omega
  rw [e]
  exact WK.regCS (by rw [List.length_append, hl, List.length_singleton]) hlo (by rw [hl]; exact h)
end Go.Eng
namespace Go.Proofs.YtfcgofffalmdfaaGreatDoor.PA
open Go Go.Eng Go.Proofs
theorem mixed : Tryz.prog.follows .mixedOrders = true := by kernel_rfl
def Kno : CF := fun _ _ _ => none
theorem Kno_ok : CFok Tryz.prog Kno := fun _ _ _ _ _ h => by cases h
theorem cfstep {K : CF} {fuel k f : Nat} {fn : XFunc} {args : List AV} {H : AHeap} (hK : K f args H = none) (hF : F f = some fn) : xcallK K F fuel (k + 1) f args H = xfunc (xcallK K F fuel k) fuel fn args H := by rw [xcallK, hK, hF]
theorem cfhit {K : CF} {fuel k f : Nat} {args : List AV} {H : AHeap} {r : AV × AHeap} (hK : K f args H = some r) : xcallK K F fuel k f args H = some r := by
  cases k with
  | zero => rw [xcallK]; exact hK
  | succ k => rw [xcallK, hK]
theorem add32_call {x y c : Nat} (hx : x < B32) (hy : y < B32) (hc : c < B32) (H : AHeap) : CallOK Tryz.prog 126 [u32 x, u32 y, u32 c] H (.tup [u32 ((x + y + c) % B32), u32 ((x + y + c) / B32)]) H := by
  obtain ⟨v, H', h, rfl, _⟩ := add32_ok (cf := xcallK Kno F 2000 0) (fuel := 2000) (H := ⟨.e, 0⟩) hx hy hc
  have h2 := xcallK_sound mixed Kno_ok F_ok 2000 1 126 _ _ _ _ ((cfstep rfl rfl).trans h)
  refine h2.pure (by simp [AV.frozL, u32_froz]) (Fz.froz (by simp [AV.froz, AV.frozL, u32_froz]))
def KA : CF := fun f args H => match f, args with
  | 126, [.int .u32 (.ofNat x), .int .u32 (.ofNat y), .int .u32 (.ofNat c)] => if x < B32 ∧ y < B32 ∧ c < B32 then some (.tup [u32 ((x + y + c) % B32), u32 ((x + y + c) / B32)], H) else none
  | _, _ => none
theorem u32_of (n : Nat) : u32 n = .int .u32 (.ofNat n) := u32_int n
theorem KA_ok : CFok Tryz.prog KA := by
  intro f args H v H' h
  unfold KA at h
  split at h
  · split at h
    · rename_i hb
      cases h
      have := add32_call hb.1 hb.2.1 hb.2.2 H
      rwa [u32_of, u32_of, u32_of] at this
    · cases h
  · cases h
theorem KA_79 {x y c : Nat} (hx : x < B32) (hy : y < B32) (hc : c < B32) (H : AHeap) : KA 126 [u32 x, u32 y, u32 c] H = some (.tup [u32 ((x + y + c) % B32), u32 ((x + y + c) / B32)], H) := by
  rw [u32_of x, u32_of y, u32_of c]
  show (if x < B32 ∧ y < B32 ∧ c < B32 then _ else none) = _
  rw [if_pos ⟨hx, hy, hc⟩]
theorem trim_call {fuel k : Nat} (hf : 2001 < fuel) (H : AHeap) (v : AV) (l : List Nat) (hv : MagL H v l) (hl : l.length ≤ 2000) : ∃ v' H', xcallK KA F fuel (k + 1) 96 [v] H = some (v', H') ∧ (MagL H' v' (trimL l) ∧ Same H H') := by
  obtain ⟨v', H', h1, h2, h3⟩ := trim_ok (cf := xcallK KA F fuel k) (fuel := fuel) hv (by omega) (by omega)
  exact ⟨v', H', (cfstep rfl rfl).trans h1, h2, h3⟩
theorem plus_call {m n : Nat} (hm : m < bigN) (hn : n < bigN) (H : AHeap) : CallOK Tryz.prog 97 [digA (limbs m), digA (limbs n)] H (digA (limbs (m + n))) H := by
  have h1 := limbs20 hm
  have h2 := limbs20 hn
  obtain ⟨v, H', h, hM, _⟩ := plus_ok (cf := xcallK KA F 3000 1) (fuel := 3000) (H := ⟨.e, 0⟩) (digL_limbs m) (digL_limbs n) (by omega) (by omega) (by omega) (fun H v l q1 q2 => trim_call (by omega) H v l q1 (by omega)) (fun H x y c q1 q2 q3 => cfhit (KA_79 q1 q2 q3 H))
  have h3 := xcallK_sound mixed KA_ok F_ok 3000 2 97 _ _ _ _ ((cfstep rfl rfl).trans h)
  rw [← digI_eq, ← digI_eq] at h3
  refine h3.pure (by simp [AV.frozL, digA_froz]) ?_
  have e : trimL (if (limbs m).length < (limbs n).length then addL (limbs n) (limbs m) 0 else addL (limbs m) (limbs n) 0) = limbs (m + n) := by
    split
    · rw [addL_limbs _ _ (by omega), Nat.add_comm]
    · rw [addL_limbs _ _ (by omega)]
  rw [e] at hM
  exact hM.fz (fun i _ => get_e0 i)
theorem times_call {m n : Nat} (hm : m < bigN) (hn : n < bigN) (H : AHeap) : CallOK Tryz.prog 128 [digA (limbs m), digA (limbs n)] H (digA (limbs (m * n))) H := by
  have h1 := limbs20 hm
  have h2 := limbs20 hn
  obtain ⟨v, H', h, hM, _⟩ := times_ok (cf := xcallK KA F 3000 1) (fuel := 3000) (H := ⟨.e, 0⟩) (digL_limbs m) (digL_limbs n) (by omega) (by omega) (by omega) (fun H v l q1 q2 => trim_call (by omega) H v l q1 (by omega))
  rw [mulL_limbs] at hM
  have h3 := xcallK_sound mixed KA_ok F_ok 3000 2 128 _ _ _ _ ((cfstep rfl rfl).trans h)
  rw [← digI_eq, ← digI_eq] at h3
  refine h3.pure (by simp [AV.frozL, digA_froz]) ?_
  exact hM.fz (fun i _ => get_e0 i)
end Go.Proofs.YtfcgofffalmdfaaGreatDoor.PA
namespace Go.Proofs.YtfcgofffalmdfaaGreatDoor.PA
open Go Go.Eng Go.Proofs
open Classical in
noncomputable def unDig (v : AV) : Option Nat := if h : ∃ n, v = digA (limbs n) then some h.choose else none
theorem unDig_V (n : Nat) : unDig (digA (limbs n)) = some n := by
  have h : ∃ m, digA (limbs n) = digA (limbs m) := ⟨n, rfl⟩
  unfold unDig
  rw [dif_pos h, ← limbs_inj (digA_inj h.choose_spec)]
theorem unDig_some {v : AV} {n : Nat} (h : unDig v = some n) : v = digA (limbs n) := by
  unfold unDig at h
  split at h
  · rename_i q
    cases h
    exact q.choose_spec
  · cases h
theorem IntV_eq (n : Nat) : IntV n = .agg [.bool false, digA (limbs n)] := by unfold IntV; rfl
theorem digA_one (l : List Nat) : (digA l).oneCell = true := by rw [digI_eq]; rfl
theorem k_eqB {cf : CF} {n : Nat} {H : AHeap} {l : KL0} {x y : XO} {b : Bool} (hx : evK l x = some (.bool b)) (hy : evK l y = some (.bool b)) : XV cf l H n (.eqf false (.mk false [.b]) x y) = some (.bool true, H) := by
  refine k_any ?_
  simp only [xval, xop, hx, hy]
  cases b <;> rfl
theorem k_neB {cf : CF} {n : Nat} {H : AHeap} {l : KL0} {x y : XO} {b : Bool} (hx : evK l x = some (.bool b)) (hy : evK l y = some (.bool b)) : XV cf l H n (.eqf true (.mk false [.b]) x y) = some (.bool false, H) := by
  refine k_any ?_
  simp only [xval, xop, hx, hy]
  cases b <;> rfl
theorem resK_obj {l : KL0} {H : AHeap} {t i n : Nat} {c : List AV} {opn : Option Nat} (hl : Go.Eng.look l t = some (.ptr i 0)) (hg : H.get i = some (.cells c opn)) (hc : c.length = n) : resK l H [.c t (some n)] = some [.agg c] := by
  simp only [resK, resK1, hl, Option.bind_some, loadA, cellsAt, hg, List.drop_zero]
  rw [if_pos (by omega), List.take_of_length_le (by omega)]
  rfl
theorem made_walk {cf : CF} {fuel : Nat} {d : List Nat} : ∃ v H', xfunc cf fuel L95 [.bool false, digI d] ⟨.e, 0⟩ = some (v, H') ∧ v = .agg [.bool false, digI d] := by
  refine xfunc_ofK rfl (by show 2 ≤ 13; omega) ?_
  have hF := HF.start ⟨.e, 0⟩
  generalize (⟨.e, 0⟩ : AHeap) = H at hF ⊢
  unfold L95
  dsimp only
  repeat' (first | refine WK.seq ?_ | refine WK.ret ?_ | (apply WK.reg; (· exact lnn)) | (apply WKO.alO; (· assumption); (· rfl); (· exact nxx); (· exact nxx); (· exact nxx); intro _ _ _) | (apply WKO.stO0; (· rfl); (· rfl); (· assumption); (· rfl); (· exact nxx); (· first | exact .inr nxx); (· rfl); (· rfl); (· first | decide); intro _ _ _) | refine WKO.nil ?_ | ((first | apply WKO.op); (· first | exact k_mv rfl | exact opA); (· rfl)) | ((first | apply WKO.gnoT); (· rfl); (· exact dcd)) | refine pN ?_ | fail)
  exact ⟨fun id q => (by cases q), [.agg [.bool false, digI d]], resK_obj rfl (HF.obj ‹HF _ _ _ _ _› _ (.head _)) rfl, rfl⟩
theorem made_call (n : Nat) (H : AHeap) : CallOK Tryz.prog 95 [.bool false, digA (limbs n)] H (.agg [.bool false, digA (limbs n)]) H := by
  obtain ⟨v, H', h, rfl⟩ := made_walk (cf := xcallK Kno F 2000 0) (fuel := 2000) (d := limbs n)
  have h2 := xcallK_sound mixed Kno_ok F_ok 2000 1 95 _ _ _ _ ((cfstep rfl rfl).trans h)
  rw [← digI_eq] at h2
  exact h2.pure (by simp [AV.frozL, AV.froz, digA_froz]) (Fz.froz (by simp [AV.frozL, AV.froz, digA_froz]))
noncomputable def KB : CF := fun f args H => match f, args with
  | 95, [.bool false, v] => (unDig v).map fun n => (.agg [.bool false, digA (limbs n)], H)
  | 97, [x, y] => (unDig x).bind fun m => (unDig y).bind fun n => if m < bigN ∧ n < bigN then some (digA (limbs (m + n)), H) else none
  | 128, [x, y] => (unDig x).bind fun m => (unDig y).bind fun n => if m < bigN ∧ n < bigN then some (digA (limbs (m * n)), H) else none
  | _, _ => none
theorem KB_ok : CFok Tryz.prog KB := by
  intro f args H v H' h
  unfold KB at h
  split at h
  · obtain ⟨n, h1, h2⟩ := Option.map_eq_some_iff.1 h
    cases h2
    rw [unDig_some h1]
    exact made_call n H
  · obtain ⟨m, h1, h⟩ := Option.bind_eq_some_iff.1 h
    obtain ⟨n, h2, h⟩ := Option.bind_eq_some_iff.1 h
    split at h
    · rename_i hb
      cases h
      rw [unDig_some h1, unDig_some h2]
      exact plus_call hb.1 hb.2 H
    · cases h
  · obtain ⟨m, h1, h⟩ := Option.bind_eq_some_iff.1 h
    obtain ⟨n, h2, h⟩ := Option.bind_eq_some_iff.1 h
    split at h
    · rename_i hb
      cases h
      rw [unDig_some h1, unDig_some h2]
      exact times_call hb.1 hb.2 H
    · cases h
  · cases h
theorem KB_52 (n : Nat) (H : AHeap) : KB 95 [.bool false, digA (limbs n)] H = some (.agg [.bool false, digA (limbs n)], H) := by
  show (unDig (digA (limbs n))).map _ = _
  rw [unDig_V]; rfl
theorem KB_54 {m n : Nat} (hm : m < bigN) (hn : n < bigN) (H : AHeap) : KB 97 [digA (limbs m), digA (limbs n)] H = some (digA (limbs (m + n)), H) := by
  show ((unDig (digA (limbs m))).bind fun m => (unDig (digA (limbs n))).bind fun n => if m < bigN ∧ n < bigN then some (digA (limbs (m + n)), H) else none) = _
  rw [unDig_V, unDig_V, Option.bind_some, Option.bind_some, if_pos ⟨hm, hn⟩]
theorem KB_81 {m n : Nat} (hm : m < bigN) (hn : n < bigN) (H : AHeap) : KB 128 [digA (limbs m), digA (limbs n)] H = some (digA (limbs (m * n)), H) := by
  show ((unDig (digA (limbs m))).bind fun m => (unDig (digA (limbs n))).bind fun n => if m < bigN ∧ n < bigN then some (digA (limbs (m * n)), H) else none) = _
  rw [unDig_V, unDig_V, Option.bind_some, Option.bind_some, if_pos ⟨hm, hn⟩]
theorem add_walk {m n : Nat} (hm : m < bigN) (hn : n < bigN) : ∃ v H', xfunc (xcallK KB F 2000 0) 2000 L61 [.agg [.bool false, digA (limbs m)], .agg [.bool false, digA (limbs n)]] ⟨.e, 0⟩ = some (v, H') ∧ v = .agg [.bool false, digA (limbs (m + n))] := by
  refine xfunc_ofK rfl (by show 2 ≤ 42; omega) ?_
  have hF := HF.start ⟨.e, 0⟩
  generalize (⟨.e, 0⟩ : AHeap) = H at hF ⊢
  unfold L61
  dsimp only
  repeat' (first | refine WK.seq ?_ | refine WK.block ?_ | (apply WK.reg; (· exact lnn)) | (refine WK.regC1 8 rfl rfl rfl ?_ ; dsimp only [List.take_succ_cons, List.take_zero]) | (apply WKO.boxO; (· rfl); (· assumption); (· rfl); (· exact nxx); (· exact nxx); (· exact nxx); intro _ _ _) | (apply WKO.alO; (· assumption); (· rfl); (· exact nxx); (· exact nxx); (· exact nxx); intro _ _ _) | refine WKC.nil ?_ | refine WKO.nil ?_ | ((first | apply WKC.op | apply WKO.op); (· first | exact k_mv rfl | exact k_eqB rfl rfl | exact k_call rfl rfl (cfhit (KB_54 hm hn _)) | exact k_call rfl rfl (cfhit (KB_52 _ _)) | (apply k_ldO; (· rfl); (· assumption); (· rfl); (· exact mmb); (· rfl)) | exact k_faddr rfl); (· rfl)) | refine pN ?_ | (apply WK.condT; (· rfl); (· exact dcd)) | fail)
  rename_i H1 hF1 hn1
  refine WKO.stW0 (vs := [.bool false, digA (limbs (m + n))]) rfl rfl hF1 rfl nxx (.inr nxx) rfl rfl (by simp only [List.all_cons, List.all_nil, digA_one, Bool.and_true]; rfl) rfl ?_
  intro H9 hF9 hn9
  repeat' (first | refine WK.ret ?_ | refine WKO.nil ?_ | refine pN ?_ | refine pR ?_ | refine bR ?_ | fail)
  exact ⟨fun id q => (by cases q), _, resK_obj rfl (HF.obj hF9 _ (.head _)) rfl, rfl⟩
theorem mul_walk {m n : Nat} (hm : m < bigN) (hn : n < bigN) : ∃ v H', xfunc (xcallK KB F 2000 0) 2000 L101 [.agg [.bool false, digA (limbs m)], .agg [.bool false, digA (limbs n)]] ⟨.e, 0⟩ = some (v, H') ∧ v = .agg [.bool false, digA (limbs (m * n))] := by
  refine xfunc_ofK rfl (by show 2 ≤ 16; omega) ?_
  have hF := HF.start ⟨.e, 0⟩
  generalize (⟨.e, 0⟩ : AHeap) = H at hF ⊢
  unfold L101
  dsimp only
  repeat' (first | refine WK.seq ?_ | (apply WK.reg; (· exact lnn)) | (refine WK.regC1 11 rfl rfl rfl ?_ ; dsimp only [List.take_succ_cons, List.take_zero]) | (apply WKO.boxO; (· rfl); (· assumption); (· rfl); (· exact nxx); (· exact nxx); (· exact nxx); intro _ _ _) | (apply WKO.alO; (· assumption); (· rfl); (· exact nxx); (· exact nxx); (· exact nxx); intro _ _ _) | refine WKC.nil ?_ | refine WKO.nil ?_ | ((first | apply WKC.op); (· first | exact k_neB rfl rfl | exact k_call rfl rfl (cfhit (KB_81 hm hn _)) | exact k_call rfl rfl (cfhit (KB_52 _ _)) | (apply k_ldO; (· rfl); (· assumption); (· rfl); (· exact mmb); (· rfl)) | exact k_faddr rfl); (· rfl)) | refine pN ?_ | fail)
  rename_i H1 hF1 hn1
  refine WKO.stW0 (vs := [.bool false, digA (limbs (m * n))]) rfl rfl hF1 rfl nxx (.inr nxx) rfl rfl (by simp only [List.all_cons, List.all_nil, digA_one, Bool.and_true]; rfl) rfl ?_
  intro H9 hF9 hn9
  repeat' (first | refine WK.ret ?_ | refine WKO.nil ?_ | refine pN ?_ | fail)
  exact ⟨fun id q => (by cases q), _, resK_obj rfl (HF.obj hF9 _ (.head _)) rfl, rfl⟩
theorem Add_call {m n : Nat} (hm : m < bigN) (hn : n < bigN) (H : AHeap) : CallOK Tryz.prog 61 [IntV m, IntV n] H (IntV (m + n)) H := by
  obtain ⟨v, H', h, rfl⟩ := add_walk hm hn
  have h2 := xcallK_sound mixed KB_ok F_ok 2000 1 61 _ _ _ _ ((cfstep rfl rfl).trans h)
  rw [← IntV_eq, ← IntV_eq, ← IntV_eq] at h2
  exact h2.pure (by simp [AV.frozL, IntV_froz]) (Fz.froz (IntV_froz _))
theorem Mul_call {m n : Nat} (hm : m < bigN) (hn : n < bigN) (H : AHeap) : CallOK Tryz.prog 101 [IntV m, IntV n] H (IntV (m * n)) H := by
  obtain ⟨v, H', h, rfl⟩ := mul_walk hm hn
  have h2 := xcallK_sound mixed KB_ok F_ok 2000 1 101 _ _ _ _ ((cfstep rfl rfl).trans h)
  rw [← IntV_eq, ← IntV_eq, ← IntV_eq] at h2
  exact h2.pure (by simp [AV.frozL, IntV_froz]) (Fz.froz (IntV_froz _))
theorem Of_call {n : Nat} (hn : n < 4611686018427387904) (H : AHeap) : CallOK Tryz.prog 59 [.int .i64 (n : Int)] H (IntV n) H := by
  obtain ⟨v, H', h, hI, _⟩ := Of_ok (cf := xcallK Kno F 2100 1) (fuel := 2100) (H := ⟨.e, 0⟩) hn
    (fun H v l q1 q2 => by
      obtain ⟨v', H', h1, h2, h3⟩ := trim_ok (cf := xcallK Kno F 2100 0) (fuel := 2100) q1 (by omega) (by omega)
      exact ⟨v', H', (cfstep rfl rfl).trans h1, h2, h3⟩)
    (fun H v l q1 => by
      obtain ⟨v', H', h1, rfl, h3⟩ := made_ok (cf := xcallK Kno F 2100 0) (fuel := 2100) q1
      exact ⟨H', (cfstep rfl rfl).trans h1, h3⟩)
  have h2 := xcallK_sound mixed Kno_ok F_ok 2100 2 59 _ _ _ _ ((cfstep rfl rfl).trans h)
  exact h2.pure rfl hI.fz
end Go.Proofs.YtfcgofffalmdfaaGreatDoor.PA
namespace Go.Proofs.YtfcgofffalmdfaaGreatDoor.PA
open Go Go.Eng Go.Proofs
abbrev intA (n : Nat) : AV := .agg [.bool false, digA (limbs n)]
theorem intA_V (n : Nat) : IntV n = intA n := IntV_eq n
noncomputable def KN : CF := fun f args H => match f, args with
  | 59, [.int .i64 (.ofNat n)] => if n < 4611686018427387904 then some (intA n, H) else none
  | 61, [x, y] => (unInt x).bind fun m => (unInt y).bind fun n => if m < bigN ∧ n < bigN then some (intA (m + n), H) else none
  | 101, [x, y] => (unInt x).bind fun m => (unInt y).bind fun n => if m < bigN ∧ n < bigN then some (intA (m * n), H) else none
  | _, _ => none
theorem KN_ok : CFok Tryz.prog KN := by
  intro f args H v H' h
  unfold KN at h
  split at h
  · split at h
    · rename_i n hb
      cases h
      have := Of_call hb H
      rw [intA_V] at this
      exact this
    · cases h
  · obtain ⟨m, h1, h⟩ := Option.bind_eq_some_iff.1 h
    obtain ⟨n, h2, h⟩ := Option.bind_eq_some_iff.1 h
    split at h
    · rename_i hb
      cases h
      rw [unInt_some h1, unInt_some h2, ← intA_V]
      exact Add_call hb.1 hb.2 H
    · cases h
  · obtain ⟨m, h1, h⟩ := Option.bind_eq_some_iff.1 h
    obtain ⟨n, h2, h⟩ := Option.bind_eq_some_iff.1 h
    split at h
    · rename_i hb
      cases h
      rw [unInt_some h1, unInt_some h2, ← intA_V]
      exact Mul_call hb.1 hb.2 H
    · cases h
  · cases h
theorem unInt_A (n : Nat) : unInt (intA n) = some n := by rw [← intA_V]; exact unInt_V n
theorem KN_36 {n : Nat} (h : n < 4611686018427387904) (H : AHeap) : KN 59 [.int .i64 (.ofNat n)] H = some (intA n, H) := by
  show (if n < 4611686018427387904 then some (intA n, H) else none) = _
  rw [if_pos h]
theorem KN_38 {m n : Nat} (hm : m < bigN) (hn : n < bigN) (H : AHeap) : KN 61 [intA m, intA n] H = some (intA (m + n), H) := by
  show ((unInt (intA m)).bind fun m => (unInt (intA n)).bind fun n => if m < bigN ∧ n < bigN then some (intA (m + n), H) else none) = _
  rw [unInt_A, unInt_A, Option.bind_some, Option.bind_some, if_pos ⟨hm, hn⟩]
theorem KN_58 {m n : Nat} (hm : m < bigN) (hn : n < bigN) (H : AHeap) : KN 101 [intA m, intA n] H = some (intA (m * n), H) := by
  show ((unInt (intA m)).bind fun m => (unInt (intA n)).bind fun n => if m < bigN ∧ n < bigN then some (intA (m * n), H) else none) = _
  rw [unInt_A, unInt_A, Option.bind_some, Option.bind_some, if_pos ⟨hm, hn⟩]
section
variable {cf : CF} {n : Nat} {H H' : AHeap} {l : KL0} {x y a : XO} {X v : AV} {b : List Nat} {j : Nat} {r : List XOper} {R : KL0 → AHeap → Prop}
theorem rowC_take {b : List Nat} {j : Nat} (h : j < b.length) : ((rowC b).drop (j * 2)).take 2 = [.bool false, digA (limbs (b.getD j 0))] := by
  obtain ⟨h1, h2⟩ := rowC_at b j h
  have hl := rowC_len b
  apply List.ext_getElem?
  intro i
  rw [List.getElem?_take, List.getElem?_drop]
  match i with
  | 0 => rw [if_pos (by omega), Nat.add_zero, h1]; rfl
  | 1 => rw [if_pos (by omega), h2]; rfl
  | i + 2 => rw [if_neg (by omega)]; rfl
theorem k_ldI (hx : evK l x = some (adE X (j * 2))) (hE : RdR 2 H X b.length (rowC b)) (hm : H'.m = H.m) (hj : j < b.length) : XV cf l H' n (.load (some 2) x) = some (intA (b.getD j 0), H') := by
  obtain ⟨c, h1, h2⟩ := hE.at (H' := H') (p := j * 2) (fun i _ => by unfold AHeap.get; rw [hm]) (by omega)
  refine k_load hx ?_
  have hl : 2 ≤ b.length * 2 - j * 2 := by omega
  have h3 : c.take 2 = [.bool false, digA (limbs (b.getD j 0))] := by
    rw [← rowC_take hj, ← h2, List.take_take, Nat.min_eq_left hl]
  simp only [loadA, h1]
  have hlen : 2 ≤ c.length := by
    have : (c.take 2).length = 2 := by rw [h3]; rfl
    rw [List.length_take] at this
    omega
  rw [if_pos hlen, h3]
theorem k_ldG {i m : Nat} {c : List AV} {opn : Option Nat} (hx : evK l x = some (.ptr i 0)) (hg : H.get i = some (.cells c opn)) (hm : H'.m = H.m) (hc : c.length = m) : XV cf l H' n (.load (some m) x) = some (.agg c, H') := by
  have hg' : H'.get i = some (.cells c opn) := by unfold AHeap.get; rw [hm]; exact hg
  refine k_load hx ?_
  simp only [loadA, cellsAt, hg', List.drop_zero]
  rw [if_pos (by omega), List.take_of_length_le (by omega)]
theorem WKO.stI {w : Nat} (hR : Row 2 H v b.length (rowC b)) (hm : H'.m = H.m) (hn : H.next ≤ H'.next) (hj : j < b.length) (ha : evK l a = some (adE v (j * 2))) (hx : evK l x = some (intA w))
    (k : ∀ H1, Row 2 H1 v b.length (rowC (b.set j w)) → H1.next = H'.next → (∀ q, v.own ≠ some q → H1.get q = H'.get q) → WKO cf r (n + 1) l H1 R) : WKO cf (⟨none, .store 2 a x, none⟩ :: r) n l H' R := by
  obtain ⟨h0, ⟨rfl, h⟩ | ⟨i, full, rfl, hg, hf, hfl, hi⟩⟩ := hR
  · omega
  · have hg' : H'.get i = some (.cells full (some 2)) := by unfold AHeap.get; rw [hm]; exact hg
    have ha' : evK l a = some (.ptr i (j * 2)) := by
      rw [ha]
      show some (AV.ptr i (0 + j * 2)) = _
      rw [Nat.zero_add]
    have hst := op_store (cf := cf) (m := n) (n := 2) (i := i) (o := j * 2) (v := intA w) (H := H') (ev := evK l) ha' hx hg' rfl (by simp only [AV.cells, List.all_cons, List.all_nil, digA_one, Bool.and_true]; rfl) (by omega)
    refine WKO.opn (k_any hst) (by simp [allSm, XOp.opnds, ha, hx]) (k _ ⟨by rw [rowC_len, List.length_set], .inr ⟨i, _, rfl, by rw [AHeap.get_set, if_pos rfl], ?_, ?_, by rw [next_set]; omega⟩⟩ rfl (fun q hq => by rw [AHeap.get_set, if_neg (fun e => hq (by rw [e]; rfl))]))
    · rw [← rowC_set _ _ _ hj, ← hf]
      have e : (intA w).cells = intC w := rfl
      rw [e]
      have h2 : (intC w).length = 2 := rfl
      unfold overA
      rw [h2, List.append_assoc, List.take_append, List.take_append, List.length_take, h2]
      rw [Nat.min_eq_left (show j * 2 ≤ full.length by omega)]
      rw [List.take_take, List.take_take, Nat.min_comm, List.take_of_length_le (show (intC w).length ≤ b.length * 2 - j * 2 by rw [h2]; omega), List.drop_take, Nat.sub_sub, List.append_assoc]
    · unfold overA
      have h2 : (intA w).cells.length = 2 := rfl
      rw [List.length_append, List.length_append, List.length_take, List.length_drop, h2]
      omega
theorem WKO.apI {d1 d2 w : Nat} (hR : RowE 2 H v b.length (rowC b)) (hm : H'.m = H.m) (hn : H.next ≤ n) (hlt : n < H'.next) (hl : b.length < 1000000) (hy : evK l y = some (intA w)) (hx : evK ((d1, .sl n 0 1 1) :: l) x = some v)
    (k : ∀ v' H1, RowE 2 H1 v' (b ++ [w]).length (rowC (b ++ [w])) → H'.next ≤ H1.next → (∀ q, q < H.next → v.own ≠ some q → H1.get q = H.get q) → (∀ i, v'.own = some i → v.own = some i ∨ H.next ≤ i) → WKO cf r (n + 1 + 1) ((d2, v') :: (d1, .sl n 0 1 1) :: l) H1 R) :
    WKO cf (⟨some d1, .bslice [.bool false, .nils] [(0, 2, y)] 1, none⟩ :: ⟨some d2, .app 2 32 x (.t d1), none⟩ :: r) n l H' R := by
  have hR' : RowE 2 H' v b.length (rowC b) := hR.frame (by omega) (fun i _ => by unfold AHeap.get; rw [hm])
  refine WKO.append1E (m := b.length) (v := v) (cs := rowC b) (new := intC w) hR' hx ?_ (by simp [allSm, XOp.opnds, hy]) (by omega) (by omega) (by decide) rfl (by simp only [intC, List.all_cons, List.all_nil, digA_one, Bool.and_true]; rfl) hlt (fun e => ?_) (fun v' H1 q1 q2 q3 q4 => k v' H1 ?_ q2 (fun q h1 h2 => ?_) (fun i hi => ?_))
  · simp only [evParts, hy, bind, Option.bind_some]
    rfl
  · have := hR.own_lt e
    omega
  · rw [rowC_app, rowC_one, List.length_append, List.length_singleton]
    exact .inl q1
  · rw [q3 q (by omega) (by omega) h2]
    unfold AHeap.get
    rw [hm]
  · rcases q4 i hi with q | q
    · exact .inl q
    · exact .inr (by omega)
end
end Go.Proofs.YtfcgofffalmdfaaGreatDoor.PA
namespace Go.Proofs.YtfcgofffalmdfaaGreatDoor.PA
open Go Go.Eng Go.Proofs
def Kx (H : AHeap) (v : AV) (H' : AHeap) (v' : AV) : Prop := H.next ≤ H'.next ∧ (∀ q, q < H.next → v.own ≠ some q → H'.get q = H.get q) ∧ ∀ i, v'.own = some i → v.own = some i ∨ H.next ≤ i
theorem Kx.refl (H : AHeap) (v : AV) : Kx H v H v := ⟨Nat.le_refl _, fun _ _ _ => rfl, fun i h => .inl h⟩
theorem Kx.trans {H H1 H2 : AHeap} {v v1 v2 : AV} (h : Kx H v H1 v1) (k : Kx H1 v1 H2 v2) : Kx H v H2 v2 := by
  refine ⟨Nat.le_trans h.1 k.1, fun q hq hv => ?_, fun i hi => ?_⟩
  · rw [k.2.1 q (Nat.lt_of_lt_of_le hq h.1) (fun e => ?_), h.2.1 q hq hv]
    rcases h.2.2 q e with r | r
    · exact hv r
    · omega
  · rcases k.2.2 i hi with r | r
    · exact h.2.2 i r
    · exact .inr (Nat.le_trans h.1 r)
theorem Kx.up {H H1 H2 : AHeap} {v v1 : AV} (h : Kx H v H1 v1) (hm : H2.m = H1.m) (hn : H1.next ≤ H2.next) : Kx H v H2 v1 :=
  ⟨Nat.le_trans h.1 hn, fun q hq hv => by
    have : H2.get q = H1.get q := by unfold AHeap.get; rw [hm]
    rw [this, h.2.1 q hq hv], h.2.2⟩
theorem list_getD_ext {a b : List Nat} (hl : a.length = b.length) (h : ∀ j, j < a.length → a.getD j 0 = b.getD j 0) : a = b := by
  apply List.ext_getElem hl
  intro j h1 h2
  have := h j h1
  simpa only [List.getD_eq_getElem?_getD, List.getElem?_eq_getElem h1, List.getElem?_eq_getElem h2, Option.getD_some] using this
theorem plusF_getD (a b : List Nat) (k j : Nat) (h : j < (plusF a b k).length) : (plusF a b k).getD j 0 = a.getD j 0 + if k ≤ j then b.getD (j - k) 0 else 0 := by
  rw [List.getD_eq_getElem?_getD, List.getElem?_eq_getElem h]
  unfold plusF
  simp
theorem getD_none {a : List Nat} {j : Nat} (h : a.length ≤ j) : a.getD j 0 = 0 := by rw [List.getD_eq_getElem?_getD, List.getElem?_eq_none h]; rfl
theorem getD_rep (a : List Nat) (k j : Nat) : (a ++ List.replicate k 0).getD j 0 = a.getD j 0 := by
  by_cases h : j < a.length
  · rw [List.getD_eq_getElem?_getD, List.getElem?_append_left h, ← List.getD_eq_getElem?_getD]
  · rw [getD_none (a := a) (by omega), List.getD_eq_getElem?_getD, List.getElem?_append_right (by omega), List.getElem?_replicate]
    split <;> rfl
set_option maxHeartbeats 2000000 in
theorem plusR_ok {cf : CF} {fuel : Nat} {H : AHeap} {v w : AV} {a b : List Nat} {k : Nat} (h36 : ∀ H, cf 59 [.int .i64 (.ofNat 0)] H = some (intA 0, H)) (h38 : ∀ {m n : Nat}, m < bigN → n < bigN → ∀ H, cf 61 [intA m, intA n] H = some (intA (m + n), H))
    (hv : RowE 2 H v a.length (rowC a)) (hw : RdR 2 H w b.length (rowC b)) (hd : ∀ i, w.own = some i → v.own ≠ some i) (hla : a.length < 1000) (hlb : b.length < 1000) (hk : k < 1000) (hs : a.sum + b.sum < bigN) (hf : 3000 < fuel) :
    ∃ v' H', xfunc cf fuel L105 [v, w, nA k] H = some (v', H') ∧ (RowE 2 H' v' (plusF a b k).length (rowC (plusF a b k)) ∧ Kx H v H' v') := by
  refine xfunc_ofK rfl (by show 3 ≤ 42; omega) ?_
  have hwn : ∀ i, w.own = some i → i < H.next := fun i hi => hw.own_lt hi
  unfold L105
  dsimp only
  refine WK.seq (WK.reg (k := 1) rfl (WKO.op (k_mv rfl) rfl (WKO.nil ⟨fun _ => ?_, fun q => absurd rfl q⟩)))
  refine WK.cut (α := AV) (fun u => [(0, u), (1, w), (2, nA k)]) (fun u H1 => RowE 2 H1 u (a ++ List.replicate (b.length + k - a.length) 0).length (rowC (a ++ List.replicate (b.length + k - a.length) 0)) ∧ Kx H v H1 u) ?_ ?_
  · refine WK.block (WK.loop (α := Nat × AV) (fun s => [(0, s.2), (1, w), (2, nA k)]) (fun s H1 => RowE 2 H1 s.2 (a ++ List.replicate s.1 0).length (rowC (a ++ List.replicate s.1 0)) ∧ Kx H v H1 s.2 ∧ s.1 ≤ b.length + k - a.length) (fun s => 2000 - s.1) (0, v) (.cons rfl <| .cons rfl <| .cons rfl <| .nil _) ?_ (by show 2000 - 0 < fuel; omega) ?_)
    · exact ⟨by simpa using hv.frame (by simp only [next_bump]; omega) (fun _ _ => get_bump _ _ _), (Kx.refl H v).up rfl (by simp only [next_bump]; omega), Nat.zero_le _⟩
    · rintro ⟨t, u⟩ H1 ⟨h1, h2, h3⟩
      simp only at h1 h2 h3 ⊢
      have hlen : (a ++ List.replicate t 0).length = a.length + t := by simp
      repeat' (first | refine WK.seq ?_ | refine WK.skip ?_ | refine WK.exit ?_ | refine WK.block ?_ | (apply WK.reg; (· exact lnn)) | refine WKO.nil ?_ | ((first | apply WKO.op); (· first | exact k_mv rfl | exact k_lenE rfl (RdR.of h1) | exact k_lenE rfl hw | exact k_call rfl rfl (h36 _) | exact opA); (· rfl)) | refine pN ?_ | refine pX ?_ | refine bX ?_ | (apply WK.condD; (· rfl); all_goals intro _) | fail)
      · refine WKO.apI (b := a ++ List.replicate t 0) (w := 0) h1 rfl nxx nxx (by omega) rfl rfl ?_
        rintro v' H2 q1 q2 q3 q4
        repeat' (first | refine WKO.nil ?_ | ((first | apply WKO.op); (· first | exact k_mv rfl); (· rfl)) | refine pN ?_ | refine bN ?_ | fail)
        refine ⟨(t + 1, v'), (.cons rfl <| .cons rfl <| .cons rfl <| .nil _), ⟨?_, h2.trans ⟨by simp only [next_bump] at q2; omega, q3, q4⟩, by show t + 1 ≤ _; omega⟩, by show 2000 - (t + 1) < 2000 - t; omega⟩
        have e : a ++ List.replicate (t + 1) 0 = a ++ List.replicate t 0 ++ [0] := by rw [List.replicate_succ']; simp
        simp only
        rw [e]
        exact q1
      · have ht : b.length + k - a.length = t := by omega
        refine ⟨fun _ => ⟨u, (.cons rfl <| .cons rfl <| .cons rfl <| .nil _), ?_, h2.up rfl (by simp only [next_bump]; omega)⟩, fun q => absurd rfl q⟩
        rw [ht]
        exact h1.frame (by simp only [next_bump]; omega) (fun _ _ => get_bump _ _ _)
  · intro u H1 ⟨h1, h2⟩
    generalize hA : a ++ List.replicate (b.length + k - a.length) 0 = A at h1
    have hAl : A.length = (plusF a b k).length := by rw [← hA, plusF_len, List.length_append, List.length_replicate]; omega
    have hAg : ∀ j, A.getD j 0 = a.getD j 0 := fun j => by rw [← hA]; exact getD_rep _ _ _
    have hPl := plusF_len a b k
    have huw : ∀ i, w.own = some i → u.own ≠ some i := fun i hi e => by
      rcases h2.2.2 i e with q | q
      · exact hd i hi q
      · have := hwn i hi; omega
    have hw1 : RdR 2 H1 w b.length (rowC b) := hw.frame h2.1 (fun i hi => h2.2.1 i (hwn i hi) (hd i hi))
    repeat' (first | refine WK.seq ?_ | refine WK.block ?_ | (apply WK.reg; (· exact lnn)) | refine WKO.nil ?_ | ((first | apply WKO.op); (· first | exact k_mv rfl | exact k_lenE rfl hw1); (· rfl)) | refine pN ?_ | fail)
    refine WK.loop (α := Nat × List Nat) (fun s => [(0, u), (1, w), (2, nA k), (20, w), (21, nA b.length), (22, nA s.1)]) (fun s H2 => RowE 2 H2 u s.2.length (rowC s.2) ∧ Kx H1 u H2 u ∧ s.1 ≤ b.length ∧ s.2.length = A.length ∧ ∀ j, s.2.getD j 0 = a.getD j 0 + if k ≤ j ∧ j < k + s.1 then b.getD (j - k) 0 else 0) (fun s => b.length - s.1) (0, A) (.cons rfl <| .cons rfl <| .cons rfl <| .cons rfl <| .cons rfl <| .cons rfl <| .nil _) ?_ (by show b.length - 0 < fuel; omega) ?_
    · refine ⟨h1.frame (by simp only [next_bump]; omega) (fun _ _ => get_bump _ _ _), (Kx.refl H1 u).up rfl (by simp only [next_bump]; omega), Nat.zero_le _, rfl, fun j => ?_⟩
      simp only
      rw [hAg, if_neg (by omega)]
      rfl
    · rintro ⟨i, c⟩ H2 ⟨g1, g2, g3, g4, g5⟩
      simp only at g1 g2 g3 g4 g5 ⊢
      have hw2 : RdR 2 H2 w b.length (rowC b) := hw1.frame g2.1 (fun i hi => g2.2.1 i (hw1.own_lt hi) (huw i hi))
      have hF2 := HF.start H2
      have hb1 : b.getD i 0 < bigN := by have := getD_le b i; omega
      have hb2 : c.getD (i + k) 0 < bigN := by
        rw [g5, if_neg (by omega)]
        have := getD_le a (i + k)
        omega
      repeat' (first | refine WK.seq ?_ | refine WK.skip ?_ | refine WK.exit ?_ | refine WK.block ?_ | (apply WK.reg; (· exact lnn)) | (apply WKO.alO; (· assumption); (· rfl); (· exact nxx); (· exact nxx); (· exact nxx); intro _ _ _) | refine WKO.nil ?_ | ((first | apply WKO.op); (· first | exact k_mv rfl | exact k_iaE rfl rfl hw2 (by omega) | exact k_ldI rfl hw2 rfl (by omega) | exact opA); (· rfl)) | refine pN ?_ | refine pX ?_ | refine bX ?_ | (apply WK.condD; (· rfl); all_goals intro _) | fail)
      · rename_i H3 hF3 hn3
        refine WKO.stW0 (vs := [.bool false, digA (limbs (b.getD i 0))]) rfl rfl hF3 rfl nxx (.inr nxx) rfl rfl (by simp only [List.all_cons, List.all_nil, digA_one, Bool.and_true]; rfl) rfl ?_
        intro H4 hF4 hn4
        have hkeep : ∀ j, j < H2.next → H4.get j = H2.get j := fun j hj => hF4.fr j hj (by simp)
        have hn24 : H2.next ≤ H4.next := by simp only [next_bump] at hn3 hn4; omega
        have gR4 : RowE 2 H4 u c.length (rowC c) := g1.frame hn24 (fun j hj => hkeep j (g1.own_lt hj))
        repeat' (first | (apply WK.regd0; (· exact lnn)) | refine WKO.nil ?_ | ((first | apply WKO.op); (· first | exact k_mv rfl | exact k_iaE rfl rfl (RdR.of gR4) (by omega) | exact k_ldI rfl (RdR.of gR4) rfl (by omega) | (apply k_ldA; (· rfl); (· exact hF4); (· rfl); (· exact .head _); (· rfl)) | exact k_call rfl rfl (h38 (by assumption) (by assumption) _) | exact opA); (· rfl)) | refine pN ?_ | fail)
        have gR5 : Row 2 H4 u c.length (rowC c) := by
          rcases gR4 with q | ⟨q, _⟩
          · exact q
          · omega
        refine WKO.stI gR5 rfl nxx (by omega) rfl rfl ?_
        intro H5 r5 n5 f5
        repeat' (first | (apply WK.reg; (· exact lnn)) | refine WKO.nil ?_ | ((first | apply WKO.op); (· first | exact k_mv rfl | exact opA); (· rfl)) | refine pN ?_ | refine bN ?_ | fail)
        refine ⟨(i + 1, c.set (i + k) (c.getD (i + k) 0 + b.getD i 0)), (.cons rfl <| .cons rfl <| .cons rfl <| .cons rfl <| .cons rfl <| .cons rfl <| .nil _), ⟨?_, ?_, by show i + 1 ≤ b.length; omega, by simp [g4], fun j => ?_⟩, by show b.length - (i + 1) < b.length - i; omega⟩
        · simp only [List.length_set]
          exact RowE.frame (.inl r5) (by simp only [next_bump]; omega) (fun _ _ => get_bump _ _ _)
        · simp only [next_bump] at n5
          refine g2.trans ⟨by simp only [next_bump]; omega, fun q hq hu => ?_, fun i hi => .inl hi⟩
          rw [get_bump, f5 q hu, get_bump]
          exact hkeep q hq
        · simp only
          by_cases hj : j = i + k
          · subst hj
            rw [List.getD_eq_getElem?_getD, List.getElem?_set_self (by omega), Option.getD_some, g5 (i + k), if_neg (by omega), if_pos (by omega), show i + k - k = i by omega, Nat.add_zero]
          · rw [List.getD_eq_getElem?_getD, List.getElem?_set_ne (fun e => hj e.symm), ← List.getD_eq_getElem?_getD, g5 j]
            by_cases hc : k ≤ j ∧ j < k + i
            · rw [if_pos hc, if_pos (by omega)]
            · rw [if_neg hc, if_neg (by omega)]
      · refine ⟨fun _ => ?_, fun q => absurd rfl q⟩
        repeat' (first | refine WK.seq ?_ | refine WK.ret ?_ | (apply WK.reg; (· exact lnn)) | refine WKO.nil ?_ | ((first | apply WKO.op); (· first | exact k_mv rfl); (· rfl)) | refine pN ?_ | fail)
        have hib : i = b.length := by omega
        have hcP : c = plusF a b k := by
          refine list_getD_ext (by omega) fun j hj => ?_
          rw [g5 j, plusF_getD _ _ _ _ (by omega), hib]
          by_cases h1 : k ≤ j
          · rw [if_pos h1]
            by_cases h2 : j < k + b.length
            · rw [if_pos ⟨h1, h2⟩]
            · rw [if_neg (by omega), getD_none (a := b) (by omega)]
          · rw [if_neg h1, if_neg (by omega)]
        rw [hcP] at g1
        exact ⟨fun id q => (by cases q), [u], rfl, g1.frame (by simp only [next_bump]; omega) (fun _ _ => get_bump _ _ _), (h2.trans g2).up rfl (by simp only [next_bump]; omega)⟩
end Go.Proofs.YtfcgofffalmdfaaGreatDoor.PA
namespace Go.Proofs.YtfcgofffalmdfaaGreatDoor.PA
open Go Go.Eng Go.Proofs
theorem plus_m {fuel k : Nat} (hf : 3000 < fuel) {H : AHeap} {v w : AV} {a b : List Nat} {n : Nat} (hv : RowE 2 H v a.length (rowC a)) (hw : RdR 2 H w b.length (rowC b)) (hd : ∀ i, w.own = some i → v.own ≠ some i) (hla : a.length < 1000) (hlb : b.length < 1000) (hk : n < 1000) (hs : a.sum + b.sum < bigN) :
    ∃ v' H', xcallK KN F fuel (k + 1) 105 [v, w, nA n] H = some (v', H') ∧ (RowE 2 H' v' (plusF a b n).length (rowC (plusF a b n)) ∧ Kx H v H' v') := by
  obtain ⟨v', H', h1, h2⟩ := plusR_ok (cf := xcallK KN F fuel k) (fuel := fuel) (fun H => cfhit (KN_36 (by decide) H)) (fun hm hn H => cfhit (KN_38 hm hn H)) hv hw hd hla hlb hk hs hf
  exact ⟨v', H', (cfstep rfl rfl).trans h1, h2⟩
def rowI (l : List Nat) : AV := .imm (rowC l) l.length false
theorem rowI_V (l : List Nat) : RowV l = rowI l := by unfold RowV rowI; rfl
theorem rowI_rd (H : AHeap) (l : List Nat) : RdR 2 H (rowI l) l.length (rowC l) := RdR.imm (rowC_len l)
set_option maxHeartbeats 2000000 in
theorem timesR_ok {fuel k : Nat} {H : AHeap} {a b : List Nat} (hla : a.length < 400) (hlb : b.length < 400) (ha : a.sum < bigN) (hb : b.sum < bigN) (hs : a.sum * b.sum < bigN) (hf : 3000 < fuel) :
    ∃ v' H', xfunc (xcallK KN F fuel (k + 1)) fuel L106 [rowI a, rowI b] H = some (v', H') ∧ RowE 2 H' v' (timesF a b).length (rowC (timesF a b)) := by
  refine xfunc_ofK rfl (by show 2 ≤ 37; omega) ?_
  unfold L106
  dsimp only
  repeat' (first | refine WK.seq ?_ | refine WK.block ?_ | (apply WK.reg; (· exact lnn)) | refine WKO.nil ?_ | ((first | apply WKO.op); (· first | exact k_mv rfl | exact k_lenE rfl (rowI_rd ⟨.e, 0⟩ _)); (· rfl)) | refine pN ?_ | fail)
  refine WK.loop (α := Nat × AV) (fun s => [(0, rowI a), (1, rowI b), (5, s.2), (11, rowI a), (12, nA a.length), (13, nA s.1)]) (fun s H' => RowE 2 H' s.2 (timesP a b s.1).length (rowC (timesP a b s.1)) ∧ s.1 ≤ a.length) (fun s => a.length - s.1) (0, .nils) (.cons rfl <| .cons rfl <| .cons rfl <| .cons rfl <| .cons rfl <| .cons rfl <| .nil _) ⟨.inl (Row.nil _ _), Nat.zero_le _⟩ (by show a.length - 0 < fuel; omega) ?_
  rintro ⟨i, u⟩ H1 ⟨h1, h2⟩
  simp only at h1 h2 ⊢
  have hF1 := HF.start H1
  have hA : ∀ j, a.getD j 0 < bigN := fun j => by have := getD_le a j; omega
  have hB : ∀ j, b.getD j 0 < bigN := fun j => by have := getD_le b j; omega
  repeat' (first | refine WK.seq ?_ | refine WK.skip ?_ | refine WK.exit ?_ | refine WK.block ?_ | (apply WK.reg; (· exact lnn)) | (apply WKO.alO; (· assumption); (· rfl); (· exact nxx); (· exact nxx); (· exact nxx); intro _ _ _) | refine WKO.nil ?_ | ((first | apply WKO.op); (· first | exact k_mv rfl | exact k_iaE rfl rfl (rowI_rd H1 _) (by omega) | exact k_ldI rfl (rowI_rd H1 _) rfl (by omega) | exact opA); (· rfl)) | refine pN ?_ | refine pX ?_ | refine bX ?_ | (apply WK.condD; (· rfl); all_goals intro _) | fail)
  · rename_i H2 hF2 hn2
    refine WKO.stW0 (vs := [.bool false, digA (limbs (a.getD i 0))]) rfl rfl hF2 rfl nxx (.inr nxx) rfl rfl (by simp only [List.all_cons, List.all_nil, digA_one, Bool.and_true]; rfl) rfl ?_
    intro H3 hF3 hn3
    generalize hq : (H1.bump 1).next + 1 + 1 + 1 = qx at *
    have gq : H3.get qx = some (.cells [.bool false, digA (limbs (a.getD i 0))] none) := hF3.obj _ (.head _)
    have hq2 : qx < H3.next := by simp only [next_bump] at hn2 hn3 hq; omega
    have gU : RowE 2 H3 u (timesP a b i).length (rowC (timesP a b i)) := h1.frame (by simp only [next_bump] at hn2 hn3; omega) (fun j hj => hF3.fr j (h1.own_lt hj) (by simp))
    have hUq : ∀ j, u.own = some j → j < H1.next := fun j hj => h1.own_lt hj
    repeat' (first | refine WK.seq ?_ | refine WK.block ?_ | (apply WK.reg; (· exact lnn)) | refine WKO.nil ?_ | ((first | apply WKO.op); (· first | exact k_mv rfl | exact k_lenE rfl (rowI_rd H1 _)); (· rfl)) | refine pN ?_ | fail)
    refine WK.loop (α := Nat × AV) (fun s => [(0, rowI a), (1, rowI b), (5, u), (11, rowI a), (12, nA a.length), (13, nA i), (6, nA i), (7, .ptr qx 0), (8, s.2), (18, rowI b), (19, nA b.length), (20, nA s.1)])
      (fun s H' => RowE 2 H' s.2 ((b.take s.1).map fun y => a.getD i 0 * y).length (rowC ((b.take s.1).map fun y => a.getD i 0 * y)) ∧ Kx H3 .nils H' s.2 ∧ s.1 ≤ b.length) (fun s => b.length - s.1) (0, .nils) (.cons rfl <| .cons rfl <| .cons rfl <| .cons rfl <| .cons rfl <| .cons rfl <| .cons rfl <| .cons rfl <| .cons rfl <| .cons rfl <| .cons rfl <| .cons rfl <| .nil _) ⟨.inl (Row.nil _ _), (Kx.refl _ _).up rfl (by simp only [next_bump]; omega), Nat.zero_le _⟩ (by show b.length - 0 < fuel; omega) ?_
    rintro ⟨j, w⟩ H4 ⟨g1, g2, g3⟩
    simp only at g1 g2 g3 ⊢
    have hF4 := HF.start H4
    have gq4 : H4.get qx = some (.cells [.bool false, digA (limbs (a.getD i 0))] none) := (g2.2.1 qx hq2 (by simp [AV.own])).trans gq
    repeat' (first | refine WK.seq ?_ | refine WK.skip ?_ | refine WK.exit ?_ | refine WK.block ?_ | (apply WK.reg; (· exact lnn)) | (apply WKO.alO; (· assumption); (· rfl); (· exact nxx); (· exact nxx); (· exact nxx); intro _ _ _) | refine WKO.nil ?_ | ((first | apply WKO.op); (· first | exact k_iaE rfl rfl (rowI_rd H4 _) (by omega) | exact k_ldI rfl (rowI_rd H4 _) rfl (by omega) | exact opA); (· rfl)) | refine pN ?_ | refine pX ?_ | refine bX ?_ | (apply WK.condD; (· rfl); all_goals intro _) | fail)
    · rename_i H5 hF5 hn5
      refine WKO.stW0 (vs := [.bool false, digA (limbs (b.getD j 0))]) rfl rfl hF5 rfl nxx (.inr nxx) rfl rfl (by simp only [List.all_cons, List.all_nil, digA_one, Bool.and_true]; rfl) rfl ?_
      intro H6 hF6 hn6
      have hqlt : qx < H4.next := Nat.lt_of_lt_of_le hq2 g2.1
      have gq6 : H6.get qx = some (.cells [.bool false, digA (limbs (a.getD i 0))] none) := (hF6.fr qx hqlt (by simp)).trans gq4
      have hk6 : ∀ q, q < H4.next → H6.get q = H4.get q := fun q hq => hF6.fr q hq (by simp)
      have hn46 : H4.next ≤ H6.next := by simp only [next_bump] at hn5 hn6; omega
      repeat' (first | (apply WK.reg; (· exact lnn)) | refine WKO.nil ?_ | ((first | apply WKO.op); (· first | exact k_mv rfl | exact k_ldG rfl gq6 rfl rfl | (apply k_ldA; (· rfl); (· exact hF6); (· rfl); (· exact .head _); (· rfl)) | exact k_call rfl rfl (cfhit (KN_58 (hA _) (hB _) _))); (· rfl)) | refine pN ?_ | fail)
      refine WKO.apI (b := (b.take j).map fun y => a.getD i 0 * y) (w := a.getD i 0 * b.getD j 0) (H := H6) (g1.frame hn46 (fun q hq => hk6 q (g1.own_lt hq))) rfl nxx nxx (by simp; omega) rfl rfl ?_
      rintro v' H7 q1 q2 q3 q4
      repeat' (first | (apply WK.reg; (· exact lnn)) | refine WKO.nil ?_ | ((first | apply WKO.op); (· first | exact k_mv rfl | exact opA); (· rfl)) | refine pN ?_ | refine bN ?_ | fail)
      have e : ((b.take (j + 1)).map fun y => a.getD i 0 * y) = ((b.take j).map fun y => a.getD i 0 * y) ++ [a.getD i 0 * b.getD j 0] := by
        have hbj : b.getD j 0 = b[j] := by rw [List.getD_eq_getElem?_getD, List.getElem?_eq_getElem (show j < b.length by omega)]; rfl
        rw [List.take_add_one, List.map_append, List.getElem?_eq_getElem (show j < b.length by omega), hbj]
        rfl
      refine ⟨(j + 1, v'), (.cons rfl <| .cons rfl <| .cons rfl <| .cons rfl <| .cons rfl <| .cons rfl <| .cons rfl <| .cons rfl <| .cons rfl <| .cons rfl <| .cons rfl <| .cons rfl <| .nil _), ⟨?_, ?_, by show j + 1 ≤ b.length; omega⟩, by show b.length - (j + 1) < b.length - j; omega⟩
      · simp only
        rw [e]
        exact q1.frame (by simp only [next_bump]; omega) (fun _ _ => get_bump _ _ _)
      · simp only [next_bump] at q2
        refine (g2.trans (H2 := H7) (v2 := v') ⟨by omega, fun q hq hu => ?_, fun q hq => ?_⟩).up rfl (by simp only [next_bump]; omega)
        · rw [q3 q (by omega) hu]
          exact hk6 q hq
        · rcases q4 q hq with r | r
          · exact .inl r
          · exact .inr (by omega)
    · refine ⟨fun _ => ?_, fun q => absurd rfl q⟩
      have hjb : j = b.length := by omega
      rw [hjb, List.take_length] at g1
      repeat' (first | (apply WK.reg; (· exact lnn)) | ((first | apply WKO.op); (· first | exact k_mv rfl); (· rfl)) | fail)
      have hrl : (b.map fun y => a.getD i 0 * y).length = b.length := List.length_map ..
      have hrs : (b.map fun y => a.getD i 0 * y).sum = a.getD i 0 * b.sum := by
        have := sum_map_mul (a.getD i 0) (fun y : Nat => y) b
        rwa [List.map_id'] at this
      have hsum : (timesP a b i).sum + (b.map fun y => a.getD i 0 * y).sum < bigN := by
        rw [← plusF_sum _ _ i, ← timesP_succ]
        exact Nat.lt_of_le_of_lt (timesP_le a b (i + 1) (by omega)) hs
      have hlen := timesP_len a b i
      have gU4 : RowE 2 H4 u (timesP a b i).length (rowC (timesP a b i)) := gU.frame g2.1 (fun q hq => g2.2.1 q (gU.own_lt hq) (by simp [AV.own]))
      have hn13 : H1.next ≤ H3.next := by simp only [next_bump] at hn2 hn3; omega
      refine WKO.callV rfl rfl rfl (plus_m hf (gU4.frame (by simp only [next_bump]; omega) (fun _ _ => get_bump _ _ _)) ((RdR.of g1).frame (by simp only [next_bump]; omega) (fun _ _ => get_bump _ _ _)) (fun q hq hu => ?_) (by rw [hlen]; split <;> omega) (by omega) (by omega) hsum) ?_
      · have := hUq q hu
        rcases g2.2.2 q hq with r | r
        · cases r
        · omega
      · rintro v' H8 ⟨r1, r2⟩
        repeat' (first | (apply WK.reg; (· exact lnn)) | refine WKO.nil ?_ | ((first | apply WKO.op); (· first | exact k_mv rfl | exact opA); (· rfl)) | refine pN ?_ | refine bN ?_ | fail)
        refine ⟨(i + 1, v'), (.cons rfl <| .cons rfl <| .cons rfl <| .cons rfl <| .cons rfl <| .cons rfl <| .nil _), ⟨?_, by show i + 1 ≤ a.length; omega⟩, by show a.length - (i + 1) < a.length - i; omega⟩
        simp only
        rw [timesP_succ]
        exact r1.frame (by simp only [next_bump]; omega) (fun _ _ => get_bump _ _ _)
  · refine ⟨fun _ => ?_, fun q => absurd rfl q⟩
    have hia : i = a.length := by omega
    rw [hia] at h1
    repeat' (first | refine WK.seq ?_ | refine WK.ret ?_ | (apply WK.reg; (· exact lnn)) | refine WKO.nil ?_ | ((first | apply WKO.op); (· first | exact k_mv rfl); (· rfl)) | refine pN ?_ | fail)
    exact ⟨fun id q => (by cases q), [u], rfl, h1.frame (by simp only [next_bump]; omega) (fun _ _ => get_bump _ _ _)⟩
theorem times_R {a b : List Nat} (hla : a.length < 400) (hlb : b.length < 400) (ha : a.sum < bigN) (hb : b.sum < bigN) (hs : a.sum * b.sum < bigN) (H : AHeap) : CallOK Tryz.prog 106 [rowI a, rowI b] H (rowI (timesF a b)) H := by
  obtain ⟨v, H', h, hR⟩ := timesR_ok (fuel := 4000) (k := 1) (H := ⟨.e, 0⟩) hla hlb ha hb hs (by omega)
  have h2 := xcallK_sound mixed KN_ok F_ok 4000 3 106 _ _ _ _ ((cfstep rfl rfl).trans h)
  rw [← rowI_V, ← rowI_V] at *
  rw [← rowI_V]
  exact h2.pure (by simp [AV.frozL, RowV_froz]) (RowI.fz hR (fun i _ => get_e0 i))
end Go.Proofs.YtfcgofffalmdfaaGreatDoor.PA
/-
  DERIVED: THE SHELF's CONTRACTS AT THIS DUMP, IN PLAIN WORDS (tools/lay-plain.mjs out of 'YtfcgofffalmdfaaGreatDoorShelf.lean', which tools/lay-shelf.mjs wrote): THE SAME DECLARATIONS UNDER THE SAME NAMES: 'import', 'namespace', 'open', 'def', 'theorem' AND NOTHING ELSE: no command of the shelf's: FOR A HAND-IN. Each laying: the table of numbers ('.._ren') and one theorem, a field a fact of the dump's own or the kernel's comparison; each contract: ONE APPLICATION.
-/
namespace Go.Proofs
open Go.Shelf
def Tryz.sortPair_ren : Go.Shelf.Ren := ⟨fun | 6 => 123 | 15 => 139 | 14 => 138 | 28 => 157 | 29 => 158 | 20 => 149 | 21 => 150 | 22 => 151 | 23 => 152 | 24 => 153 | 25 => 154 | 26 => 155 | 27 => 156 | 46 => 165 | 47 => 166 | 48 => 167 | 49 => 168 | 50 => 169 | 57 => 172 | n => n, fun | 22 => 22 | 24 => 59 | 25 => 192 | 3 => 3 | 39 => 166 | 0 => 0 | 53 => 165 | 55 => 162 | 4 => 4 | 46 => 215 | 45 => 214 | 50 => 85 | 5 => 5 | 9 => 9 | 66 => 228 | 70 => 232 | 76 => 235 | 77 => 236 | n => n, fun | n => n⟩
theorem Tryz.sortPair : Go.Proofs.SlLaysF0.n6 Tryz.prog Tryz.sortPair_ren := {
  mixed := by kernel_rfl
  f6 := ⟨Tryz.f123.name, by decide, Tryz.func123.trans (congrArg some (by kernel_rfl))⟩
  f14 := ⟨Tryz.f138.name, by decide, Tryz.func138.trans (congrArg some (by kernel_rfl))⟩
  f15 := Tryz.func139.trans (congrArg some (by kernel_rfl))
  f20 := ⟨Tryz.f149.name, by decide, Tryz.func149.trans (congrArg some (by kernel_rfl))⟩
  f21 := ⟨Tryz.f150.name, by decide, Tryz.func150.trans (congrArg some (by kernel_rfl))⟩
  f22 := ⟨Tryz.f151.name, by decide, Tryz.func151.trans (congrArg some (by kernel_rfl))⟩
  f23 := ⟨Tryz.f152.name, by decide, Tryz.func152.trans (congrArg some (by kernel_rfl))⟩
  f24 := ⟨Tryz.f153.name, by decide, Tryz.func153.trans (congrArg some (by kernel_rfl))⟩
  f25 := ⟨Tryz.f154.name, by decide, Tryz.func154.trans (congrArg some (by kernel_rfl))⟩
  f26 := ⟨Tryz.f155.name, by decide, Tryz.func155.trans (congrArg some (by kernel_rfl))⟩
  f27 := ⟨Tryz.f156.name, by decide, Tryz.func156.trans (congrArg some (by kernel_rfl))⟩
  f28 := Tryz.func157.trans (congrArg some (by kernel_rfl))
  f29 := Tryz.func158.trans (congrArg some (by kernel_rfl))
  f46 := ⟨Tryz.f165.name, by decide, Tryz.func165.trans (congrArg some (by kernel_rfl))⟩
  f47 := Tryz.func166.trans (congrArg some (by kernel_rfl))
  f48 := Tryz.func167.trans (congrArg some (by kernel_rfl))
  f49 := ⟨Tryz.f168.name, by decide, Tryz.func168.trans (congrArg some (by kernel_rfl))⟩
  f50 := ⟨Tryz.f169.name, by decide, Tryz.func169.trans (congrArg some (by kernel_rfl))⟩
  f57 := ⟨Tryz.f172.name, by decide, Tryz.func172.trans (congrArg some (by kernel_rfl))⟩
  t0 := Tryz.underlying0
  a0 := Tryz.isAgg0
  z0 := Tryz.sizeOf0
  v0 := Tryz.zeroValue0
  t3 := Tryz.underlying3
  a3 := Tryz.isAgg3
  z3 := Tryz.sizeOf3
  v3 := Tryz.zeroValue3
  t4 := Tryz.underlying4
  a4 := Tryz.isAgg4
  z4 := Tryz.sizeOf4
  v4 := Tryz.zeroValue4
  t5 := Tryz.underlying5
  a5 := Tryz.isAgg5
  z5 := Tryz.sizeOf5
  v5 := Tryz.zeroValue5
  t9 := Tryz.underlying9
  a9 := Tryz.isAgg9
  z9 := Tryz.sizeOf9
  v9 := Tryz.zeroValue9
  t22 := Tryz.underlying22
  a22 := Tryz.isAgg22
  z22 := Tryz.sizeOf22
  v22 := Tryz.zeroValue22
  t25 := Tryz.underlying192
  a25 := Tryz.isAgg192
  z25 := Tryz.sizeOf192
  v25 := Tryz.zeroValue192
  t39 := Tryz.underlying166
  a39 := Tryz.isAgg166
  z39 := Tryz.sizeOf166
  v39 := Tryz.zeroValue166
  t45 := Tryz.underlying214
  a45 := Tryz.isAgg214
  z45 := Tryz.sizeOf214
  v45 := Tryz.zeroValue214
  t46 := Tryz.underlying215
  a46 := Tryz.isAgg215
  z46 := Tryz.sizeOf215
  v46 := Tryz.zeroValue215
  t50 := Tryz.underlying85
  a50 := Tryz.isAgg85
  z50 := Tryz.sizeOf85
  v50 := Tryz.zeroValue85
  t53 := Tryz.underlying165
  a53 := Tryz.isAgg165
  z53 := Tryz.sizeOf165
  v53 := Tryz.zeroValue165
  t55 := Tryz.underlying162
  a55 := Tryz.isAgg162
  z55 := Tryz.sizeOf162
  v55 := Tryz.zeroValue162
  t66 := Tryz.underlying228
  a66 := Tryz.isAgg228
  z66 := Tryz.sizeOf228
  v66 := Tryz.zeroValue228
  t70 := Tryz.underlying232
  a70 := Tryz.isAgg232
  z70 := Tryz.sizeOf232
  v70 := Tryz.zeroValue232
  t76 := Tryz.underlying235
  a76 := Tryz.isAgg235
  z76 := Tryz.sizeOf235
  v76 := Tryz.zeroValue235
  t77 := Tryz.underlying236
  a77 := Tryz.isAgg236
  z77 := Tryz.sizeOf236
  v77 := Tryz.zeroValue236 }
end Go.Proofs
namespace Go.Proofs
open Go.Shelf Go.RowKit Go.Lib Go.Sort Go.Eng
set_option maxHeartbeats 1000000 in
theorem Tryz.closure124 (x0 x1 y0 y1 : Int) (W : World) (hs : IntKind.i64.wrap (x0 - y0) = x0 - y0) : Calls Tryz.prog 124 #[.agg #[.int .i64 x0, .int .i64 x1], .agg #[.int .i64 y0, .int .i64 y1]] W fun e w' => e = .returned (.int .i64 (x0 - y0)) ∧ ∃ q os', w' = Go.Sort.grow (W.drewN q) os' := by
  go_enter Tryz.func124, Tryz.ntmps124
  go_wp2
  go_ret
  refine ⟨?_, 0, _, by rw [alloc_eq_grow, alloc_eq_grow, grow_grow]; rfl⟩
  first | rfl | simp [hs]
theorem Tryz.sortC : SortC Tryz.prog 123 124 := by
  intro blk off cap d w hH hblk hsz
  have eg : ∀ args w, (callFunc 124 args).run Tryz.prog w = .ok (.enter 124 args) w := enters_of Tryz.func124 (by kernel_rfl) rfl
  have hlt : ∀ x y : BP, ltOf cmpBP x y = ltBP x y := by
    intro x y
    unfold ltOf cmpBP ltBP
    by_cases h : x.1.1 < y.1.1
    · rw [decide_eq_true h, decide_eq_true (by omega)]
    · rw [decide_eq_false h, decide_eq_false (by omega)]
  have hO : SWO (ltOf cmpBP) := ⟨fun x => by rw [hlt]; simp [ltBP], fun x y z h1 h2 => by rw [hlt] at *; simp [ltBP] at *; omega, fun x y z h1 h2 => by rw [hlt] at *; simp [ltBP] at *; omega⟩
  have hc : CmpLays Tryz.prog 124 #[] encBP 2 cmpBP blk off d.size w := by
    intro m os dk _ x y
    have hx := x.2
    have hy := y.2
    simp only [okP, Bool.and_eq_true, decide_eq_true_eq] at hx hy
    exact Tryz.closure124 _ _ _ _ _ (by simp only [IntKind.wrap, IntKind.bits, IntKind.signed]; simp; omega)
  have h := AnyQ.slices_SortFunc Tryz.sortPair 2 Tryz.isAgg59 Tryz.sizeOf59 encBP (fun _ => rfl) (fun x v hv => by simp [encBP] at hv; rcases hv with rfl | rfl <;> rfl) cmpBP hO 124 #[] blk off cap d w eg hc hH hblk hsz
  refine h.mono ?_
  rintro e w' ⟨rfl, d', n, os, hp, hs, rfl⟩
  refine ⟨rfl, d', n, os, hp, ?_, rfl⟩
  intro i j h1 h2 h3
  rw [← hlt]
  exact hs i j h1 h2 h3
theorem Tryz.sortK_ok : CFok Tryz.prog (sortK 123 124) := Go.Eng.sortK_ok ⟨_, Tryz.func123, by kernel_rfl, by kernel_rfl⟩ Tryz.sortC
end Go.Proofs
namespace Go.Proofs.YtfcgofffalmdfaaGreatDoor.PA
open Go Go.Eng
abbrev K0 : CF := sortK 123 124
end Go.Proofs.YtfcgofffalmdfaaGreatDoor.PA
namespace Go.Proofs.YtfcgofffalmdfaaGreatDoor.PA
open Go Go.Eng
def ropeA (s : List UInt8) (rl : List Bool) (gap : Int) (k f : AV) : List AV := .str s :: (rl.map AV.bool ++ [.int .i64 gap, k, f])
theorem ropeA_gap {s : List UInt8} {rl : List Bool} {gap : Int} {k f : AV} (h : rl.length = 16) : ((ropeA s rl gap k f).drop 17)[0]? = some (.int .i64 gap) := by
  rw [List.getElem?_drop]
  show (rl.map AV.bool ++ [.int .i64 gap, k, f])[16]? = _
  rw [List.getElem?_append_right (by simp [h])]
  simp [h]
theorem ropeA_str {s : List UInt8} {rl : List Bool} {gap : Int} {k f : AV} : ((ropeA s rl gap k f).drop 0)[0]? = some (.str s) := rfl
theorem ropeA_rule {s : List UInt8} {rl : List Bool} {gap : Int} {k f : AV} {j : Nat} {v : Bool} (h : rl[j]? = some v) : ((ropeA s rl gap k f).drop (1 + j))[0]? = some (.bool v) := by
  rw [List.getElem?_drop, show 1 + j + 0 = j + 1 by omega]
  show (rl.map AV.bool ++ [.int .i64 gap, k, f])[j]? = _
  have hj : j < rl.length := by
    rcases Nat.lt_or_ge j rl.length with q | q
    · exact q
    · rw [List.getElem?_eq_none q] at h; cases h
  rw [List.getElem?_append_left (by simpa using hj), List.getElem?_map, h]
  rfl
def inS' (b : UInt8) : Bool := decide (97 ≤ b.toNat) && decide (b.toNat ≤ 100)
def ruleOf (rl : List Bool) (a b : UInt8) : Bool := rl.getD ((a.toNat - 97) * 4 + (b.toNat - 97)) false
def mayF (s : List UInt8) (rl : List Bool) (gap : Int) (i j : Nat) : Bool := decide ((j : Int) - (i : Int) > gap) && ruleOf rl (s.getD i 97) (s.getD j 97)
set_option maxHeartbeats 4000000 in
theorem may_ok {cf : CF} {fuel : Nat} {H : AHeap} {R : Nat} {s : List UInt8} {rl : List Bool} {gap : Int} {k f : AV} (hR : H.get R = some (.cells (ropeA s rl gap k f) none)) (hrl : rl.length = 16) (hs : s.all inS' = true) (hsl : s.length ≤ 1000) {i j : Nat} (hi : i < s.length) (hj : j < s.length) :
    ∃ v H', xfunc cf fuel L90 [.ptr R 0, natA i, natA j] H = some (v, H') ∧ v = .bool (mayF s rl gap i j) ∧ Same H H' := by
  refine xfunc_of rfl (by show 3 ≤ 37; omega) ?_
  have a0 : (argsT [.ptr R 0, natA i, natA j] 0 .e).get 0 = some (.ptr R 0) := rfl
  have a1 : (argsT [.ptr R 0, natA i, natA j] 0 .e).get 1 = some (natA i) := rfl
  have a2 : (argsT [.ptr R 0, natA i, natA j] 0 .e).get 2 = some (natA j) := rfl
  generalize argsT [.ptr R 0, natA i, natA j] 0 .e = tm at a0 a1 a2
  obtain ⟨a, ha⟩ : ∃ a, s[i]? = some a := ⟨_, List.getElem?_eq_getElem hi⟩
  obtain ⟨b, hb⟩ : ∃ b, s[j]? = some b := ⟨_, List.getElem?_eq_getElem hj⟩
  have hsa : 97 ≤ a.toNat ∧ a.toNat ≤ 100 := by
    have := List.all_eq_true.1 hs a (List.mem_of_getElem? ha)
    simpa [inS'] using this
  have hsb : 97 ≤ b.toNat ∧ b.toNat ≤ 100 := by
    have := List.all_eq_true.1 hs b (List.mem_of_getElem? hb)
    simpa [inS'] using this
  have wa : wrapA .u8 ((a.toNat : Int) - Int.ofNat 97) = ((a.toNat - 97 : Nat) : Int) := by
    show wrapA .u8 ((a.toNat : Int) - 97) = _
    simp only [wrapA, IntKind.wrap, IntKind.bits, IntKind.signed]; simp; omega
  have wb : wrapA .u8 ((b.toNat : Int) - Int.ofNat 97) = ((b.toNat - 97 : Nat) : Int) := by
    show wrapA .u8 ((b.toNat : Int) - 97) = _
    simp only [wrapA, IntKind.wrap, IntKind.bits, IntKind.signed]; simp; omega
  have wd : wrapA .i64 ((j : Int) - (i : Int)) = (j : Int) - (i : Int) := wrapI _ (by omega) (by omega)
  have ia : idxOk ((a.toNat - 97 : Nat) : Int) 4 = true := idxOk_lt (by omega)
  have ib : idxOk ((b.toNat - 97 : Nat) : Int) 4 = true := idxOk_lt (by omega)
  have is1 : idxOk (i : Int) s.length = true := idxOk_lt hi
  have is2 : idxOk (j : Int) s.length = true := idxOk_lt hj
  have g17 := ropeA_gap (s := s) (gap := gap) (k := k) (f := f) hrl
  have hmay : mayF s rl gap i j = (decide ((j : Int) - (i : Int) > gap) && ruleOf rl a b) := by
    simp only [mayF, List.getD_eq_getElem?_getD, ha, hb, Option.getD_some]
  rw [hmay]
  unfold L90
  dsimp only
  by_cases hc : (j : Int) - (i : Int) > gap
  · have hd : decide ((j : Int) - (i : Int) > gap) = true := decide_eq_true hc
    have hrule : rl[(a.toNat - 97) * 4 + (b.toNat - 97)]? = some (ruleOf rl a b) := by
      rw [List.getElem?_eq_getElem (by rw [hrl]; omega)]
      simp [ruleOf, List.getD_eq_getElem?_getD, List.getElem?_eq_getElem (show (a.toNat - 97) * 4 + (b.toNat - 97) < rl.length by rw [hrl]; omega)]
    have hload : ∀ (H1 : AHeap) (o : Nat), H1.get R = H.get R → o = 1 + ((a.toNat - 97) * 4 + (b.toNat - 97)) → loadA H1 none (.ptr R o) = some (.bool (ruleOf rl a b)) := by
      intro H1 o h1 h2
      subst h2
      simp only [loadA, cellsAt, h1, hR]
      exact ropeA_rule hrule
    repeat (first | refine W.seq ?_ | (apply W.reg; · (simp only [List.length_cons, List.length_nil, Nat.reduceAdd]; rfl)) | (apply W.regd0; · (simp only [List.length_cons, List.length_nil, Nat.reduceAdd]; rfl)) | refine WO.nil ?_ | (apply WO.op; · first | exact op_mv (by simp only [St.ev, ↓Tr.get_set, ↓reduceIte, Nat.reduceEqDiff, natA, a0, a1, a2, hR, g17, hd, wd, ropeA_str, ha, hb, wa, wb, is1, is2, Int.toNat_natCast, Option.map_some, ia, ib]; rfl) | exact op_bin (by simp only [St.ev, ↓Tr.get_set, ↓reduceIte, Nat.reduceEqDiff, natA, a0, a1, a2, hR, g17, hd, wd, ropeA_str, ha, hb, wa, wb, is1, is2, Int.toNat_natCast, Option.map_some, ia, ib]; rfl) (by simp only [St.ev, ↓Tr.get_set, ↓reduceIte, Nat.reduceEqDiff, natA, a0, a1, a2, hR, g17, hd, wd, ropeA_str, ha, hb, wa, wb, is1, is2, Int.toNat_natCast, Option.map_some, ia, ib]; rfl) (by simp only [binA, intCmpA, strA, natA, a0, a1, a2, hR, g17, hd, wd, ropeA_str, ha, hb, wa, wb, is1, is2, Int.toNat_natCast, Option.map_some, ia, ib]; rfl) | exact op_faddr (by simp only [St.ev, ↓Tr.get_set, ↓reduceIte, Nat.reduceEqDiff, natA, a0, a1, a2, hR, g17, hd, wd, ropeA_str, ha, hb, wa, wb, is1, is2, Int.toNat_natCast, Option.map_some, ia, ib]; rfl) | exact op_nilc (by simp only [St.ev, ↓Tr.get_set, ↓reduceIte, Nat.reduceEqDiff, natA, a0, a1, a2, hR, g17, hd, wd, ropeA_str, ha, hb, wa, wb, is1, is2, Int.toNat_natCast, Option.map_some, ia, ib]; rfl) | (simp only [xval, xop, AR.ofV, St.ev, Tr.get_set, get_bump, next_bump, next_set, next_add, AHeap.get_set, reduceIte, Nat.reduceEqDiff, evL, evParts, fillA, AV.cells, natA, binA, intCmpA, unA, minA, maxA, Nat.add_assoc, Nat.reduceAdd, Nat.add_left_cancel_iff, Nat.add_eq_left, Nat.left_eq_add, loadA, cellsAt, storeA, Option.bind_some, iaddrA, aaddrA, a0, a1, a2, hR, g17, hd, wd, ropeA_str, ha, hb, wa, wb, is1, is2, Int.toNat_natCast, Option.map_some, ia, ib]; rfl)) | (apply WO.gop'; (· (simp only [St.ev, ↓Tr.get_set, ↓reduceIte, Nat.reduceEqDiff, natA, a0, a1, a2, hR, g17, hd, wd, ropeA_str, ha, hb, wa, wb, is1, is2, Int.toNat_natCast, Option.map_some, ia, ib]; rfl)); (· rfl); (· first | exact op_mv (by simp only [St.ev, ↓Tr.get_set, ↓reduceIte, Nat.reduceEqDiff, natA, a0, a1, a2, hR, g17, hd, wd, ropeA_str, ha, hb, wa, wb, is1, is2, Int.toNat_natCast, Option.map_some, ia, ib]; rfl) | exact op_bin (by simp only [St.ev, ↓Tr.get_set, ↓reduceIte, Nat.reduceEqDiff, natA, a0, a1, a2, hR, g17, hd, wd, ropeA_str, ha, hb, wa, wb, is1, is2, Int.toNat_natCast, Option.map_some, ia, ib]; rfl) (by simp only [St.ev, ↓Tr.get_set, ↓reduceIte, Nat.reduceEqDiff, natA, a0, a1, a2, hR, g17, hd, wd, ropeA_str, ha, hb, wa, wb, is1, is2, Int.toNat_natCast, Option.map_some, ia, ib]; rfl) (by simp only [binA, intCmpA, strA, natA, a0, a1, a2, hR, g17, hd, wd, ropeA_str, ha, hb, wa, wb, is1, is2, Int.toNat_natCast, Option.map_some, ia, ib]; rfl) | exact op_faddr (by simp only [St.ev, ↓Tr.get_set, ↓reduceIte, Nat.reduceEqDiff, natA, a0, a1, a2, hR, g17, hd, wd, ropeA_str, ha, hb, wa, wb, is1, is2, Int.toNat_natCast, Option.map_some, ia, ib]; rfl) | exact op_nilc (by simp only [St.ev, ↓Tr.get_set, ↓reduceIte, Nat.reduceEqDiff, natA, a0, a1, a2, hR, g17, hd, wd, ropeA_str, ha, hb, wa, wb, is1, is2, Int.toNat_natCast, Option.map_some, ia, ib]; rfl) | (simp only [xval, xop, AR.ofV, St.ev, Tr.get_set, get_bump, next_bump, next_set, next_add, AHeap.get_set, reduceIte, Nat.reduceEqDiff, evL, evParts, fillA, AV.cells, natA, binA, intCmpA, unA, minA, maxA, Nat.add_assoc, Nat.reduceAdd, Nat.add_left_cancel_iff, Nat.add_eq_left, Nat.left_eq_add, loadA, cellsAt, storeA, Option.bind_some, iaddrA, aaddrA, a0, a1, a2, hR, g17, hd, wd, ropeA_str, ha, hb, wa, wb, is1, is2, Int.toNat_natCast, Option.map_some, ia, ib]; rfl))) | refine pN ?_ | fail)
    refine WO.gop' (by simp only [Tr.get_set, get_bump, next_bump, next_set, next_add, AHeap.get_set, reduceIte, Nat.reduceEqDiff]; rfl) (by rfl) (op_load (by simp only [St.ev, Tr.get_set, get_bump, next_bump, next_set, next_add, AHeap.get_set, reduceIte, Nat.reduceEqDiff]; rfl) (hload _ _ rfl (by omega))) ?_
    repeat (first | refine W.ret ?_ | refine WO.nil ?_ | (apply WO.op; · first | exact op_mv (by simp only [St.ev, ↓Tr.get_set, ↓reduceIte, Nat.reduceEqDiff, natA]; rfl) | exact op_pick (by simp only [St.ev, ↓Tr.get_set, ↓reduceIte, Nat.reduceEqDiff, natA]; rfl) (by first | exact .inl ⟨rfl, (by simp only [St.ev, ↓Tr.get_set, ↓reduceIte, Nat.reduceEqDiff, natA]; rfl)⟩ | exact .inr ⟨rfl, (by simp only [St.ev, ↓Tr.get_set, ↓reduceIte, Nat.reduceEqDiff, natA]; rfl)⟩)) | refine pN ?_ | fail)
    exact ⟨fun id q => (by cases q), _, by simp only [resL, resA, Tr.get_set, get_bump, next_bump, next_set, next_add, AHeap.get_set, reduceIte, Nat.reduceEqDiff]; rfl, by simp only [wrapL, hd, Bool.true_and], (Same.bump _ _).trans (Same.bump _ _)⟩
  · have hd : decide ((j : Int) - (i : Int) > gap) = false := decide_eq_false hc
    repeat (first | refine W.seq ?_ | refine W.ret ?_ | (apply W.reg; · (simp only [List.length_cons, List.length_nil, Nat.reduceAdd]; rfl)) | (apply W.regd0; · (simp only [List.length_cons, List.length_nil, Nat.reduceAdd]; rfl)) | refine WO.nil ?_ | (apply WO.op; · first | exact op_mv (by simp only [St.ev, ↓Tr.get_set, ↓reduceIte, Nat.reduceEqDiff, natA, a0, a1, a2, hR, g17, hd, wd]; rfl) | exact op_bin (by simp only [St.ev, ↓Tr.get_set, ↓reduceIte, Nat.reduceEqDiff, natA, a0, a1, a2, hR, g17, hd, wd]; rfl) (by simp only [St.ev, ↓Tr.get_set, ↓reduceIte, Nat.reduceEqDiff, natA, a0, a1, a2, hR, g17, hd, wd]; rfl) (by simp only [binA, intCmpA, strA, natA, a0, a1, a2, hR, g17, hd, wd]; rfl) | exact op_faddr (by simp only [St.ev, ↓Tr.get_set, ↓reduceIte, Nat.reduceEqDiff, natA, a0, a1, a2, hR, g17, hd, wd]; rfl) | exact op_nilc (by simp only [St.ev, ↓Tr.get_set, ↓reduceIte, Nat.reduceEqDiff, natA, a0, a1, a2, hR, g17, hd, wd]; rfl) | exact op_pick (by simp only [St.ev, ↓Tr.get_set, ↓reduceIte, Nat.reduceEqDiff, natA, a0, a1, a2, hR, g17, hd, wd]; rfl) (by first | exact .inl ⟨rfl, (by simp only [St.ev, ↓Tr.get_set, ↓reduceIte, Nat.reduceEqDiff, natA, a0, a1, a2, hR, g17, hd, wd]; rfl)⟩ | exact .inr ⟨rfl, (by simp only [St.ev, ↓Tr.get_set, ↓reduceIte, Nat.reduceEqDiff, natA, a0, a1, a2, hR, g17, hd, wd]; rfl)⟩) | (simp only [xval, xop, AR.ofV, St.ev, Tr.get_set, get_bump, next_bump, next_set, next_add, AHeap.get_set, reduceIte, Nat.reduceEqDiff, evL, evParts, fillA, AV.cells, natA, binA, intCmpA, unA, minA, maxA, Nat.add_assoc, Nat.reduceAdd, Nat.add_left_cancel_iff, Nat.add_eq_left, Nat.left_eq_add, loadA, cellsAt, storeA, Option.bind_some, iaddrA, aaddrA, a0, a1, a2, hR, g17, hd, wd]; rfl)) | (apply WO.gno'; (· (simp only [St.ev, ↓Tr.get_set, ↓reduceIte, Nat.reduceEqDiff, natA, a0, a1, a2, hR, g17, hd, wd]; rfl)); (· rfl)) | refine pN ?_ | fail)
    exact ⟨fun id q => (by cases q), _, by simp only [resL, resA, Tr.get_set, get_bump, next_bump, next_set, next_add, AHeap.get_set, reduceIte, Nat.reduceEqDiff]; rfl, by simp only [wrapL, hd, Bool.false_and], (Same.bump _ _).trans (Same.bump _ _)⟩
end Go.Proofs.YtfcgofffalmdfaaGreatDoor.PA
namespace Go.Proofs.YtfcgofffalmdfaaGreatDoor.PA
open Go Go.Eng Go.Proofs
def KP : KT := ⟨true, [.i .i64, .i .i64]⟩
abbrev keyP (i j : Nat) : AV := .agg [nA i, nA j]
def litP (i j : Nat) : List Lit := [.int .i64 (i : Int), .int .i64 (j : Int)]
theorem wf64 {n : Nat} (h : n < 1000000) : (Lit.int .i64 (n : Int)).wf = true := by
  have h1 : IntKind.i64.min = -9223372036854775808 := by decide
  have h2 : IntKind.i64.max = 9223372036854775807 := by decide
  simp [Lit.wf, h1, h2]
  omega
theorem keyA_P {i j : Nat} (hi : i < 1000000) (hj : j < 1000000) : keyA KP (keyP i j) = some (litP i j) := by
  simp only [keyA, KP, if_true, litsA, nA, litA, wf64 hi, wf64 hj, and_self, litP]
  rfl
theorem litsEq_P (i j i' j' : Nat) : litsEq (litP i j) (litP i' j') = decide (i = i' ∧ j = j') := by
  rw [Bool.eq_iff_iff]
  simp [litP, litsEq, litEq]
  omega
theorem keyP_inj {i j i' j' : Nat} (h : keyP i j = keyP i' j') : i = i' ∧ j = j' := by
  simp only [keyP, nA, AV.agg.injEq, List.cons.injEq, AV.int.injEq, true_and, and_true] at h
  omega
theorem find_memo (i j : Nat) : ∀ (es : List (AV × AV)) (n : Nat), (∀ e ∈ es, ∃ i' j', i' < 1000000 ∧ j' < 1000000 ∧ e.1 = keyP i' j') →
    findE KP (litP i j) es n = some none ∨ ∃ k v, findE KP (litP i j) es n = some (some (n + k, v)) ∧ es[k]? = some (keyP i j, v)
  | [], n, _ => .inl rfl
  | (key, v) :: es, n, h => by
    obtain ⟨i', j', h1, h2, h3⟩ := h _ (List.mem_cons_self ..)
    simp only at h3
    subst h3
    have ih := find_memo i j es (n + 1) (fun e he => h e (List.mem_cons_of_mem _ he))
    simp only [findE, keyA_P h1 h2]
    rcases ih with ih | ⟨k, u, ih, hk⟩
    · rw [ih]
      simp only [litsEq_P]
      by_cases q : i = i' ∧ j = j'
      · obtain ⟨rfl, rfl⟩ := q
        exact .inr ⟨0, v, by simp, rfl⟩
      · have q' : ¬ (i' = i ∧ j' = j) := fun w => q ⟨w.1.symm, w.2.symm⟩
        simp [q, q']
    · rw [ih]
      simp only [litsEq_P]
      by_cases q : i = i' ∧ j = j'
      · obtain ⟨rfl, rfl⟩ := q
        exact .inr ⟨0, v, by simp, rfl⟩
      · have q' : ¬ (i' = i ∧ j' = j) := fun w => q ⟨w.1.symm, w.2.symm⟩
        refine .inr ⟨k + 1, u, ?_, by simpa using hk⟩
        simp [q, q']
        omega
theorem upd_memo {i j : Nat} {u : AV} {es : List (AV × AV)} (h : ∀ e ∈ es, ∃ i' j', i' < 1000000 ∧ j' < 1000000 ∧ e.1 = keyP i' j') : ∃ es', updE KP (litP i j) (keyP i j) u es = some es' ∧ ∀ e ∈ es', e = (keyP i j, u) ∨ e ∈ es := by
  unfold updE
  rcases find_memo i j es 0 h with q | ⟨k, v, q, hk⟩
  · rw [q]
    refine ⟨_, rfl, fun e he => ?_⟩
    rcases List.mem_append.1 he with he | he
    · exact .inr he
    · exact .inl (List.mem_singleton.1 he)
  · rw [q]
    refine ⟨_, rfl, fun e he => ?_⟩
    rcases List.mem_or_eq_of_mem_set he with he | he
    · exact .inr he
    · exact .inl he
end Go.Proofs.YtfcgofffalmdfaaGreatDoor.PA
namespace Go.Proofs.YtfcgofffalmdfaaGreatDoor.PA
open Go Go.Eng Go.Proofs
section
variable (may : Nat → Nat → Bool)
theorem lenN_le : ∀ n i, lenN may n i ≤ n + 1 := by
  intro n
  induction n using Nat.strongRecOn with
  | _ n ih =>
    intro i
    by_cases h : n < 2
    · rw [lenN_lt may h]; omega
    · have := lenP_eq may n i (n - 1)
      rw [← sizesN_ge may (by omega)] at this
      rcases this with q | ⟨j, h1, _, q⟩
      · have := ih (n - 1) (by omega) (i + 1)
        unfold lenN at *
        omega
      · have h3 := ih j (by omega) (i + 1)
        have h4 := ih (n - 2 - j) (by omega) (i + 2 + j)
        unfold lenN at *
        omega
theorem lenP_le1 (n i k : Nat) (hn : 2 ≤ n) (hk : k ≤ n - 1) : (sizesP may n i k).length ≤ n + 1 := by
  rcases lenP_eq may n i k with q | ⟨j, h1, _, q⟩
  · have := lenN_le may (n - 1) (i + 1)
    omega
  · have h3 := lenN_le may j (i + 1)
    have h4 := lenN_le may (n - 2 - j) (i + 2 + j)
    omega
end
theorem pow8 {n : Nat} (h : n ≤ 48) : 8 ^ n < bigN := by
  have h1 : 8 ^ n ≤ 8 ^ 64 := Nat.pow_le_pow_right (by decide) (by omega)
  have h2 : (8 : Nat) ^ 64 = B32 ^ 6 := by decide
  have h3 : B32 ^ 6 < B32 ^ 20 := Nat.pow_lt_pow_right (by decide) (by decide)
  rw [bigN_def]
  omega
section
variable (s : List UInt8) (rl : List Bool) (gap : Int) (R kn fn : Nat)
def szF (i j : Nat) : List Nat := sizesN (mayF s rl gap) (j - i) i
def MemoOK (es : List (AV × AV)) : Prop := ∀ e ∈ es, ∃ i j, i ≤ j ∧ j ≤ s.length ∧ e = (keyP i j, rowI (szF s rl gap i j))
structure GoodH (H : AHeap) : Prop where
  r : H.get R = some (.cells (ropeA s rl gap (.map kn) (.map fn)) none)
  k : ∃ es, H.get kn = some (.map es) ∧ MemoOK s rl gap es
  rn : R < H.next
  kn : kn < H.next
structure RopeP : Prop where
  rl : rl.length = 16
  sa : s.all inS' = true
  sl : s.length ≤ 40
  kR : kn ≠ R
  fk : fn ≠ kn
  fR : fn ≠ R
def Sp28 (i j : Nat) (H : AHeap) (v : AV) (H' : AHeap) : Prop := v = rowI (szF s rl gap i j) ∧ GoodH s rl gap R kn fn H' ∧ (∀ q, q < H.next → q ≠ kn → H'.get q = H.get q) ∧ H.next ≤ H'.next
theorem GoodH.up {H H' : AHeap} (h : GoodH s rl gap R kn fn H) (hn : H.next ≤ H'.next) (h1 : H'.get R = H.get R) (h2 : H'.get kn = H.get kn) : GoodH s rl gap R kn fn H' :=
  ⟨h1.trans h.r, by obtain ⟨es, q1, q2⟩ := h.k; exact ⟨es, h2.trans q1, q2⟩, Nat.lt_of_lt_of_le h.rn hn, Nat.lt_of_lt_of_le h.kn hn⟩
open Classical in
noncomputable def KS : CF := fun f args H =>
  if f = 68 then (if h : ∃ (r : AV × AHeap) (i j : Nat), args = [.ptr R 0, keyP i j] ∧ CallOK Tryz.prog 68 args H r.1 r.2 ∧ Sp28 s rl gap R kn fn i j H r.1 r.2 then some h.choose else none) else
  if f = 106 then (match args with
    | [x, y] => (unRow x).bind fun a => (unRow y).bind fun b => if a.length < 400 ∧ b.length < 400 ∧ a.sum < bigN ∧ b.sum < bigN ∧ a.sum * b.sum < bigN then some (rowI (timesF a b), H) else none
    | _ => none) else KN f args H
theorem KS_ok : CFok Tryz.prog (KS s rl gap R kn fn) := by
  intro f args H v H' h
  unfold KS at h
  split at h
  · rename_i hf
    subst hf
    split at h
    · rename_i q
      obtain ⟨i, j, h1, h2, h3⟩ := q.choose_spec
      simp only [Option.some.injEq] at h
      rw [h] at h2
      exact h2
    · cases h
  · split at h
    · rename_i hf
      subst hf
      split at h
      · obtain ⟨a, h1, h⟩ := Option.bind_eq_some_iff.1 h
        obtain ⟨b, h2, h⟩ := Option.bind_eq_some_iff.1 h
        split at h
        · rename_i hb
          cases h
          rw [unRow_some h1, unRow_some h2, rowI_V, rowI_V]
          exact times_R hb.1 hb.2.1 hb.2.2.1 hb.2.2.2.1 hb.2.2.2.2 H
        · cases h
      · cases h
    · exact KN_ok _ _ _ _ _ h
theorem KS_28 {i j : Nat} {H : AHeap} (h : ∃ v H', CallOK Tryz.prog 68 [.ptr R 0, keyP i j] H v H' ∧ Sp28 s rl gap R kn fn i j H v H') : ∃ v H', KS s rl gap R kn fn 68 [.ptr R 0, keyP i j] H = some (v, H') ∧ Sp28 s rl gap R kn fn i j H v H' := by
  obtain ⟨v, H', h1, h2⟩ := h
  have q : ∃ (r : AV × AHeap) (i' j' : Nat), [AV.ptr R 0, keyP i j] = [.ptr R 0, keyP i' j'] ∧ CallOK Tryz.prog 68 [.ptr R 0, keyP i j] H r.1 r.2 ∧ Sp28 s rl gap R kn fn i' j' H r.1 r.2 := ⟨(v, H'), i, j, rfl, h1, h2⟩
  refine ⟨_, _, (by unfold KS; rw [if_pos rfl, dif_pos q]), ?_⟩
  obtain ⟨i', j', e, _, h3⟩ := q.choose_spec
  obtain ⟨rfl, rfl⟩ := keyP_inj (i := i) (j := j) (by simpa using e)
  exact h3
theorem KS_46 {a b : List Nat} (h : a.length < 400 ∧ b.length < 400 ∧ a.sum < bigN ∧ b.sum < bigN ∧ a.sum * b.sum < bigN) (H : AHeap) : KS s rl gap R kn fn 106 [rowI a, rowI b] H = some (rowI (timesF a b), H) := by
  unfold KS
  rw [if_neg (by decide), if_pos rfl]
  simp only
  rw [← rowI_V a, ← rowI_V b, unRow_V, unRow_V, Option.bind_some, Option.bind_some, if_pos h]
theorem KS_KN {f : Nat} {args : List AV} {H : AHeap} (h1 : f ≠ 68) (h2 : f ≠ 106) : KS s rl gap R kn fn f args H = KN f args H := by
  unfold KS
  rw [if_neg h1, if_neg h2]
end
theorem plus_K {K : CF} {fuel k : Nat} (hK : ∀ args H, K 105 args H = none) (h36 : ∀ H, K 59 [.int .i64 (.ofNat 0)] H = some (intA 0, H)) (h38 : ∀ {m n : Nat}, m < bigN → n < bigN → ∀ H, K 61 [intA m, intA n] H = some (intA (m + n), H)) (hf : 3000 < fuel) {H : AHeap} {v w : AV} {a b : List Nat} {n : Nat} (hv : RowE 2 H v a.length (rowC a)) (hw : RdR 2 H w b.length (rowC b)) (hd : ∀ i, w.own = some i → v.own ≠ some i) (hla : a.length < 1000) (hlb : b.length < 1000) (hk : n < 1000) (hs : a.sum + b.sum < bigN) :
    ∃ v' H', xcallK K F fuel (k + 1) 105 [v, w, nA n] H = some (v', H') ∧ (RowE 2 H' v' (plusF a b n).length (rowC (plusF a b n)) ∧ Kx H v H' v') := by
  obtain ⟨v', H', h1, h2⟩ := plusR_ok (cf := xcallK K F fuel k) (fuel := fuel) (fun H => cfhit (h36 H)) (fun hm hn H => cfhit (h38 hm hn H)) hv hw hd hla hlb hk hs hf
  exact ⟨v', H', (cfstep (hK _ _) rfl).trans h1, h2⟩
theorem clone_ok {cf : CF} {fuel : Nat} {H : AHeap} {l : List Nat} (hl : 0 < l.length) (hl2 : l.length < 1000) : ∃ v' H', xfunc cf fuel L104 [rowI l] H = some (v', H') ∧ (RowE 2 H' v' l.length (rowC l) ∧ Kx H .nils H' v') := by
  refine xfunc_ofK rfl (by show 1 ≤ 8; omega) ?_
  have hne : ∀ {cf : CF} {n : Nat} {H : AHeap} {K : KL0} {x : XO}, evK K x = some (rowI l) → XV cf K H n (.eqn false .s x (.k .nils)) = some (.bool false, H) := by
    intro cf n H K x hx
    obtain ⟨y, l', rfl⟩ : ∃ y l', l = y :: l' := by
      cases l with
      | nil => simp at hl
      | cons y l' => exact ⟨y, l', rfl⟩
    exact k_eqn hx rfl rfl rfl
  unfold L104
  dsimp only
  repeat' (first | refine WK.seq ?_ | refine WK.skip ?_ | (apply WK.reg; (· exact lnn)) | refine WKO.nil ?_ | ((first | apply WKO.op); (· first | exact k_mv rfl | exact hne rfl); (· rfl)) | refine pN ?_ | (apply WK.condF; (· rfl); (· exact dcd)) | fail)
  have hg : (((H.bump 1).bump 2).bump 4).get ((H.bump 1).bump 2).next = H.get ((H.bump 1).bump 2).next := rfl
  refine WKO.op (v := .sl ((H.bump 1).bump 2).next 0 0 0) (H1 := (((H.bump 1).bump 2).bump 4).set ((H.bump 1).bump 2).next (some (.cells [] none))) (k_any (by simp [xval, xop, evParts, fillA])) rfl ?_
  refine WKO.op (k_mv rfl) rfl ?_
  have hE : RowE 2 ((((H.bump 1).bump 2).bump 4).set ((H.bump 1).bump 2).next (some (.cells [] none))) (.sl ((H.bump 1).bump 2).next 0 0 0) 0 [] := .inr ⟨rfl, rfl, _, rfl, by simp only [next_set, next_bump]; omega, by rw [AHeap.get_set, if_pos rfl]⟩
  have hal : (rowC l).all AV.oneCell = true := by
    rw [List.all_eq_true]
    intro x hx
    obtain ⟨c, hc, hx⟩ := List.mem_flatten.1 hx
    obtain ⟨n, _, rfl⟩ := List.mem_map.1 hc
    simp only [intC, List.mem_cons, List.not_mem_nil, or_false] at hx
    rcases hx with rfl | rfl
    · rfl
    · exact digA_one _
  obtain ⟨v', H', e1, e2, e3, e4, e5⟩ := hE.app (bytes := 32) (y := rowI l) (n := l.length) (new := rowC l) (by omega) (by omega) hl (by decide) rfl (by simp only [rowI, srcA, rowC_len]; rw [if_pos (Nat.le_refl _), List.take_of_length_le (by rw [rowC_len]; exact Nat.le_refl _)]) (rowC_len l) hal
  refine WKO.op (v := v') (H1 := H') (k_any (by simp only [xval, xop]; exact (by simp only [evK, Go.Eng.look]; simp [e1]))) rfl ?_
  repeat' (first | refine WK.ret ?_ | refine WKO.nil ?_ | ((first | apply WKO.op); (· first | exact k_mv rfl); (· rfl)) | refine pN ?_ | fail)
  rw [Nat.zero_add] at e2
  refine ⟨fun id q => (by cases q), [v'], rfl, .inl (show Row 2 H' v' l.length (rowC l) by simpa using e2), ⟨by simp only [next_set, next_bump] at e3; omega, fun q hq _ => ?_, fun i hi => ?_⟩⟩
  · rw [e4 q (by simp only [next_set, next_bump]; omega) (by simp only [AV.own, next_bump, ne_eq, Option.some.injEq]; omega), AHeap.get_set, if_neg (by simp only [next_bump]; omega)]
    rfl
  · rcases e5 i hi with q | q
    · simp only [AV.own, Option.some.injEq, next_bump] at q
      exact .inr (by omega)
    · simp only [next_set, next_bump] at q
      exact .inr (by omega)
end Go.Proofs.YtfcgofffalmdfaaGreatDoor.PA
namespace Go.Proofs.YtfcgofffalmdfaaGreatDoor.PA
open Go Go.Eng Go.Proofs
section
variable {cf : CF} {n : Nat} {H0 H H' : AHeap} {mod : List Nat} {T : Nat} {fs : List (Nat × AObj)} {l : KL0} {x y : XO}
theorem k_ldF {i p : Nat} {c : List AV} {opn : Option Nat} {v : AV} (hx : evK l x = some (.ptr i p)) (hF : HF H0 mod T fs H) (hm : H'.m = H.m) (hg : H0.get i = some (.cells c opn)) (hlt : i < H0.next) (hmod : i ∉ mod) (hc : c[p]? = some v) : XV cf l H' n (.load none x) = some (v, H') :=
  k_any (op_loadc hx (by unfold AHeap.get; rw [hm]; exact (hF.fr i hlt hmod).trans hg) hc)
theorem k_lookF {i : Nat} {K : KT} {zero key : AV} {es : List (AV × AV)} {ls : List Lit} {r : Option (Nat × AV)} (hx : evK l x = some (.map i)) (hy : evK l y = some key) (hF : HF H0 mod T fs H) (hm : H'.m = H.m) (hg : H0.get i = some (.map es)) (hlt : i < H0.next) (hmod : i ∉ mod) (hk : keyA K key = some ls) (hf : findE K ls es 0 = some r) :
    XV cf l H' n (.look K zero x y true) = some (.tup [(r.map (·.2)).getD zero, .bool r.isSome], H') := by
  have hg' : H'.get i = some (.map es) := by unfold AHeap.get; rw [hm]; exact (hF.fr i hlt hmod).trans hg
  refine k_any ?_
  cases r with
  | none => simp only [xval, xop, hx, hy, Option.bind_some, entsA, hg', hk, hf]; rfl
  | some r => obtain ⟨j, v⟩ := r; simp only [xval, xop, hx, hy, Option.bind_some, entsA, hg', hk, hf]; rfl
theorem k_ld0 {i p : Nat} {c : List AV} {opn : Option Nat} {v : AV} (hx : evK l x = some (.ptr i p)) (hg : H.get i = some (.cells c opn)) (hm : H'.m = H.m) (hc : c[p]? = some v) : XV cf l H' n (.load none x) = some (v, H') :=
  k_any (op_loadc hx (by unfold AHeap.get; rw [hm]; exact hg) hc)
end
theorem ropeA_17 {s : List UInt8} {rl : List Bool} {gap : Int} {k f : AV} (h : rl.length = 16) : (ropeA s rl gap k f)[17]? = some (.int .i64 gap) ∧ (ropeA s rl gap k f)[18]? = some k ∧ (ropeA s rl gap k f)[19]? = some f := by
  refine ⟨?_, ?_, ?_⟩
  all_goals
    unfold ropeA
    rw [List.getElem?_cons_succ, List.getElem?_append_right (by rw [List.length_map]; omega), List.length_map, h]
    rfl
theorem _root_.Go.Eng.HF.weak {H0 H : AHeap} {mod mod' : List Nat} {T : Nat} {fs : List (Nat × AObj)} (h : HF H0 mod T fs H) (hm : ∀ k ∈ mod, k ∈ mod') : HF H0 mod' T fs H :=
  ⟨h.obj, h.lt, h.nd, h.base, h.le, fun k h1 h2 => h.fr k h1 (fun q => h2 (hm k q))⟩
theorem k_upd0 {cf : CF} {n : Nat} {H H' : AHeap} {l : KL0} {a x y : XO} {i : Nat} {K : KT} {key v : AV} {es es' : List (AV × AV)} {ls : List Lit} (ha : evK l a = some (.map i)) (hx : evK l x = some key) (hy : evK l y = some v) (hg : H.get i = some (.map es)) (hm : H'.m = H.m) (hk : keyA K key = some ls) (hu : updE K ls key v es = some es') :
    XV cf l H' n (.upd K a x y) = some (undefA, H'.set i (some (.map es'))) := by
  have hg' : H'.get i = some (.map es) := by unfold AHeap.get; rw [hm]; exact hg
  exact k_any (by simp only [xval, xop, ha, hx, hy, hg', hk, hu])
theorem xop_ld {ev : XO → Option AV} {H : AHeap} {n i p : Nat} {x : XO} {c : List AV} {opn : Option Nat} {v : AV} (hx : ev x = some (.ptr i p)) (hg : H.get i = some (.cells c opn)) (hc : c[p]? = some v) : xop ev H n (.load none x) = .v v := by
  simp only [xop, hx, Option.bind_some, loadA, cellsAt, hg, List.getElem?_drop, Nat.add_zero, hc, AR.ofV]
def ownL (v : AV) : List Nat := match v.own with
  | some q => [q]
  | none => []
theorem mem_ownL {v : AV} {q : Nat} : q ∈ ownL v ↔ v.own = some q := by
  unfold ownL
  split
  · rename_i r h
    rw [h]
    simp [eq_comm]
  · rename_i h
    rw [h]
    simp
def Alt (f : Nat) (args : List AV) (H : AHeap) (Sp : AV → AHeap → Prop) (v : AV) (H' : AHeap) : Prop := ∃ v' H'', (CallOK Tryz.prog f args H v H' → CallOK Tryz.prog f args H v' H'') ∧ Sp v' H''
section
variable {s : List UInt8} {rl : List Bool} {gap : Int} {R kn fn : Nat}
theorem MemoOK.keys {es : List (AV × AV)} (h : MemoOK s rl gap es) (hl : s.length ≤ 40) : ∀ e ∈ es, ∃ i' j', i' < 1000000 ∧ j' < 1000000 ∧ e.1 = keyP i' j' := fun e he => by
  obtain ⟨i, j, h1, h2, rfl⟩ := h e he
  exact ⟨i, j, by omega, by omega, rfl⟩
theorem alt_freeze {i j q m c : Nat} {args : List AV} {H H1 : AHeap} {full : List AV} {opn : Option Nat} {l : List Nat} {zs : List ((AV × AV) × AV)} (hG : GoodH s rl gap R kn fn H) (hkR : kn ≠ R) (hq : H1.get q = some (.cells full opn)) (hfull : full.take (l.length * 2) = rowC l) (hm : m = l.length)
    (hq0 : H.next ≤ q) (hkn : H1.get kn = some (.map (zs.map (·.1)))) (hz : ∀ e ∈ zs, e.2 = e.1.2 ∨ (e.1.2 = .sl q 0 m c ∧ e.2 = rowI l)) (hzM : MemoOK s rl gap (zs.map fun e => (e.1.1, e.2))) (hfr : ∀ k, k < H.next → k ≠ kn → H1.get k = H.get k) (hn : H.next ≤ H1.next) (hl : l = szF s rl gap i j) :
    Alt 68 args H (Sp28 s rl gap R kn fn i j H) (.sl q 0 m c) H1 := by
  have hknq : q ≠ kn := by have := hG.kn; omega
  have hg : ∀ k, ((H1.set q none).set kn (some (.map (zs.map fun e => (e.1.1, e.2))))).get k = if k = kn then some (.map (zs.map fun e => (e.1.1, e.2))) else if k = q then none else H1.get k := fun k => by rw [AHeap.get_set, AHeap.get_set]
  have hq1 : ((H1.set q none).set kn (some (.map (zs.map fun e => (e.1.1, e.2))))).get q = none := by rw [hg, if_neg hknq, if_pos rfl]
  have hfz : Fz H1 ((H1.set q none).set kn (some (.map (zs.map fun e => (e.1.1, e.2))))) (fun _ => True) (.sl q 0 m c) (rowI l) := by
    have : (rowI l) = .imm (rowC l) m false := by rw [hm]; rfl
    rw [this]
    refine .fsl (k := l.length * 2) hq1 hq (by rw [List.drop_zero, hfull]) (fun j x y hx hy => ?_) (fun h0 => ?_)
    · rw [List.drop_zero, hfull] at hx
      rw [hx] at hy
      cases hy
      exact Fz.all (fun _ => trivial) _
    · rw [List.eq_nil_of_length_eq_zero (show l.length = 0 by omega)]; rfl
  refine ⟨rowI l, (H1.set q none).set kn (some (.map (zs.map fun e => (e.1.1, e.2)))), fun hc => hc.freeze (N := fun _ => True) (fun _ _ => trivial) hn (fun _ _ h => h) hfz (fun k o h => ⟨trivial, ?_⟩), by rw [hl], ⟨?_, ⟨_, by rw [hg, if_pos rfl], hzM⟩, Nat.lt_of_lt_of_le hG.rn hn, Nat.lt_of_lt_of_le hG.kn hn⟩, fun k hk hk2 => ?_, hn⟩
  · rw [hg] at h
    split at h
    · rename_i e
      subst e
      cases h
      refine ⟨_, hkn, .map fun e he => ⟨Fz.all (fun _ => trivial) _, ?_⟩⟩
      rcases hz e he with q | ⟨q1, q2⟩
      · rw [q]; exact Fz.all (fun _ => trivial) _
      · rw [q1, q2]; exact hfz
    · split at h
      · cases h
      · exact ⟨o, h, .same fun _ => trivial⟩
  · have := hG.rn
    rw [hg, if_neg (fun e => hkR e.symm), if_neg (by omega), hfr R (by omega) (fun e => hkR e.symm)]
    exact hG.r
  · rw [hg, if_neg hk2, if_neg (by omega), hfr k hk hk2]
theorem zs_same (es : List (AV × AV)) : (es.map fun e => (e, e.2)).map (·.1) = es ∧ (es.map fun e => (e, e.2)).map (fun e => (e.1.1, e.2)) = es := by
  constructor
  · rw [List.map_map]; exact List.map_id _
  · rw [List.map_map]; exact List.map_id _
set_option maxHeartbeats 4000000 in
theorem sizes_walk (hP : RopeP s rl R kn fn) {fuel : Nat} (hf : 3000 < fuel) {i j : Nat} (hij : i ≤ j) (hj : j ≤ s.length) {H : AHeap} (hG : GoodH s rl gap R kn fn H)
    (ih : ∀ i' j', i' ≤ j' → j' ≤ s.length → j' - i' < j - i → ∀ H, GoodH s rl gap R kn fn H → ∃ v H', KS s rl gap R kn fn 68 [.ptr R 0, keyP i' j'] H = some (v, H') ∧ Sp28 s rl gap R kn fn i' j' H v H') :
    ∃ v H', xfunc (xcallK (KS s rl gap R kn fn) F fuel 1) fuel L68 [.ptr R 0, keyP i j] H = some (v, H') ∧ Alt 68 [.ptr R 0, keyP i j] H (Sp28 s rl gap R kn fn i j H) v H' := by
  refine xfunc_ofK rfl (by show 2 ≤ 75; omega) ?_
  have hF := HF.start H
  have h36 : ∀ {k : Nat} (n : Nat) (hn : n < 4611686018427387904) (H : AHeap), xcallK (KS s rl gap R kn fn) F fuel k 59 [.int .i64 (.ofNat n)] H = some (intA n, H) := fun n hn H => cfhit ((KS_KN _ _ _ _ _ _ (by decide) (by decide)).trans (KN_36 hn H))
  obtain ⟨es, hes, hmo⟩ := hG.k
  have hsl := hP.sl
  have hR := hG.r
  have h18 := (ropeA_17 (s := s) (gap := gap) (k := .map kn) (f := .map fn) hP.rl).2.1
  unfold L68
  dsimp only
  have hkP := keyA_P (i := i) (j := j) (by omega) (by omega)
  rcases find_memo i j es 0 (hmo.keys hsl) with hfm | ⟨kk, vv, hfm, hkk⟩
  · repeat' (first | refine WK.seq ?_ | refine WK.skip ?_ | refine WK.ret ?_ | (apply WK.reg; (· exact lnn)) | (apply WK.regC; (· rfl); (· exact lnn); (· decide)) | (apply WKO.boxO; (· rfl); (· assumption); (· rfl); (· exact nxx); (· exact nxx); (· exact nxx); intro _ _ _) | (apply WKO.bsO; (· rfl); (· rfl); (· assumption); (· rfl); (· exact nxx); (· exact nxx); (· exact nxx); intro _ _ _) | refine WKC.nil ?_ | refine WKO.nil ?_ | ((first | apply WKC.op | apply WKO.op); (· first | exact k_mv rfl | exact k_call rfl rfl (h36 _ (by decide) _) | (apply k_ldF; (· rfl); (· assumption); (· rfl); (· exact hR); (· exact hG.rn); (· simp); (· exact h18)) | (apply k_lookF; (· rfl); (· rfl); (· assumption); (· rfl); (· exact hes); (· exact hG.kn); (· simp); (· exact hkP); (· exact hfm)) | (apply k_ldO; (· rfl); (· assumption); (· rfl); (· exact mmb); (· rfl)) | (apply k_ldA; (· rfl); (· assumption); (· rfl); (· exact mmb); (· first | rfl)) | exact k_faddr rfl | exact k_nilc rfl | exact opA); (· rfl)) | refine pN ?_ | refine pR ?_ | (apply WK.condF; (· rfl); (· exact dcd)) | (apply WK.condD; (· rfl); all_goals intro _) | fail)
    · rename_i H1 hF1 hn1 hlt H2 hF2 hn2
      refine ⟨fun id q => (by cases q), _, rfl, ?_⟩
      obtain ⟨z1, z2⟩ := zs_same es
      refine alt_freeze (zs := es.map fun e => (e, e.2)) (l := [1]) hG hP.kR (hF2.obj _ (.head _)) rfl rfl (by have := hF1.base; have := hF1.le; simp only [next_bump]; omega) (by rw [z1, hF2.fr kn hG.kn (by simp)]; exact hes) (fun e he => ?_) (by rw [z2]; exact hmo) (fun k h1 _ => hF2.fr k h1 (by simp)) (Nat.le_trans hF2.base hF2.le) (by unfold szF; rw [sizesN_lt _ hlt])
      obtain ⟨e0, _, rfl⟩ := List.mem_map.1 he
      exact .inl rfl
    · rename_i H1 hF1 hn1 hlt
      have hFm := hF1.weak (mod' := [kn]) (by simp)
      have hc28 : ∀ {k : Nat} (i' j' : Nat), i' ≤ j' → j' ≤ s.length → j' - i' < j - i → ∀ H, GoodH s rl gap R kn fn H → ∃ v H', xcallK (KS s rl gap R kn fn) F fuel k 68 [.ptr R 0, keyP i' j'] H = some (v, H') ∧ Sp28 s rl gap R kn fn i' j' H v H' := fun i' j' a b c H g => by
        obtain ⟨v, H', q1, q2⟩ := ih i' j' a b c H g
        exact ⟨v, H', cfhit q1, q2⟩
      have hknp : ∀ p ∈ [(H.next, AObj.cells (keyP i j).cells none)], p.1 ∉ [kn] := fun p hp => by
        have := hG.kn
        simp only [List.mem_singleton] at hp
        subst hp
        simp only [List.mem_singleton]
        omega
      have hG1 : GoodH s rl gap R kn fn H1 := hG.up _ _ _ _ _ _ (Nat.le_trans hF1.base hF1.le) (hF1.fr R hG.rn (by simp)) (hF1.fr kn hG.kn (by simp))
      refine WKO.callV rfl rfl rfl (hc28 (i + 1) j (by omega) hj (by omega) _ (hG1.up _ _ _ _ _ _ (by simp only [next_bump]; omega) rfl rfl)) ?_
      rintro v2 H2 ⟨rfl, hG2, hk2, hn2⟩
      have hF2 := (hFm.up (H' := (((H1.bump 6).bump 11).bump 1).bump 10) rfl (by simp only [next_bump]; omega)).call (mod' := [kn]) (fun k h1 h2 => hk2 k h1 (by simpa using h2)) hn2 (fun k hk => .inl hk) hknp
      have hz2 : 0 < (szF s rl gap (i + 1) j).length := sizesN_pos _ _ _
      have hz3 : (szF s rl gap (i + 1) j).length ≤ 41 := by
        have := lenN_le (mayF s rl gap) (j - (i + 1)) (i + 1)
        unfold lenN at this
        unfold szF
        omega
      refine WKO.callV rfl rfl rfl (show ∃ v H', xcallK (KS s rl gap R kn fn) F fuel 1 104 [rowI (szF s rl gap (i + 1) j)] H2 = some (v, H') ∧ _ from by
        obtain ⟨v, H', q1, q2⟩ := clone_ok (cf := xcallK (KS s rl gap R kn fn) F fuel 0) (fuel := fuel) (H := H2) hz2 (by omega)
        exact ⟨v, H', (cfstep ((KS_KN _ _ _ _ _ _ (by decide) (by decide)).trans rfl) rfl).trans q1, q2⟩) ?_
      rintro u H3 ⟨g1, g2⟩
      have hF3 := hF2.call (mod' := []) (fun k h1 _ => g2.2.1 k h1 (by simp [AV.own])) g2.1 (fun k hk => by cases hk) (fun p hp => by simp)
      have hG3 : GoodH s rl gap R kn fn H3 := hG2.up _ _ _ _ _ _ g2.1 (g2.2.1 R hG2.rn (by simp [AV.own])) (g2.2.1 kn hG2.kn (by simp [AV.own]))
      repeat' (first | refine WK.seq ?_ | refine WK.block ?_ | (apply WK.reg; (· exact lnn)) | refine WKO.nil ?_ | ((first | apply WKO.op); (· first | exact k_mv rfl | (apply k_ldO; (· rfl); (· assumption); (· rfl); (· exact mmb); (· rfl)) | exact k_faddr rfl | exact opA); (· rfl)) | refine pN ?_ | fail)
      refine WK.loop (α := Nat × AV) (fun t => [(0, .ptr R 0), (3, .ptr H.next 0), (7, t.2), (8, nA (i + 1 + t.1))]) (fun t H' => (∃ T, HF H [kn] T [(H.next, .cells [nA i, nA j] none)] H') ∧ GoodH s rl gap R kn fn H' ∧ RowE 2 H' t.2 (sizesP (mayF s rl gap) (j - i) i t.1).length (rowC (sizesP (mayF s rl gap) (j - i) i t.1)) ∧ (∀ q, t.2.own = some q → H.next < q) ∧ t.1 ≤ j - i - 1)
        (fun t => j - i - t.1) (0, u) (.cons rfl <| .cons rfl <| .cons rfl <| .cons rfl <| .nil _) ⟨⟨_, hF3.up rfl (by simp only [next_bump]; omega)⟩, hG3.up _ _ _ _ _ _ (by simp only [next_bump]; omega) rfl rfl, ?_, fun q hq => ?_, Nat.zero_le _⟩ (by show j - i - 0 < fuel; omega) ?_
      · have e : sizesP (mayF s rl gap) (j - i) i 0 = szF s rl gap (i + 1) j := by
          rw [sizesP_zero]
          unfold szF
          rw [show j - i - 1 = j - (i + 1) by omega]
        simp only
        rw [e]
        exact g1.frame (by simp only [next_bump]; omega) (fun _ _ => rfl)
      · rcases g2.2.2 q hq with r | r
        · cases r
        · have := hF2.lt _ (.head _)
          have := hF2.le
          simp only at *
          omega
      · rintro ⟨k, u⟩ H4 ⟨⟨T, hF4⟩, hG4, r4, o4, k4⟩
        simp only at hF4 hG4 r4 o4 k4 ⊢
        clear hF hF1 hFm hF2 hF3
        have hmay : ∀ {H : AHeap} (a b : Nat), GoodH s rl gap R kn fn H → a < s.length → b < s.length → ∃ v H', xcallK (KS s rl gap R kn fn) F fuel 1 90 [.ptr R 0, nA a, nA b] H = some (v, H') ∧ (v = .bool (mayF s rl gap a b) ∧ Same H H') := fun a b g ha hb => by
          obtain ⟨v, H', q1, q2⟩ := may_ok (cf := xcallK (KS s rl gap R kn fn) F fuel 0) (fuel := fuel) g.r hP.rl hP.sa (by omega) ha hb
          exact ⟨v, H', (cfstep ((KS_KN _ _ _ _ _ _ (by decide) (by decide)).trans rfl) rfl).trans q1, q2⟩
        repeat' (first | refine WK.seq ?_ | refine WK.skip ?_ | refine WK.exit ?_ | refine WK.block ?_ | (apply WK.reg; (· exact lnn)) | refine WKO.nil ?_ | ((first | apply WKO.op); (· first | exact k_mv rfl | (apply k_ldO; (· rfl); (· assumption); (· rfl); (· exact mmb); (· rfl)) | exact k_faddr rfl | exact opA); (· rfl)) | refine pN ?_ | refine pX ?_ | refine bX ?_ | (apply WK.condD; (· rfl); all_goals intro _) | fail)
        · refine WKO.callV rfl rfl rfl (hmay i (i + 1 + k) (hG4.up _ _ _ _ _ _ (by simp only [next_bump]; omega) rfl rfl) (by omega) (by omega)) ?_
          rintro v5 H5 ⟨rfl, s5⟩
          have hF5 := (hF4.up (H' := (H4.bump 4).bump 5) rfl (by simp only [next_bump]; omega)).call (mod' := []) (fun q h1 _ => s5.2 q h1) s5.1 (fun q hq => by cases hq) (fun p hp => by simp)
          have hn45 : H4.next ≤ H5.next := by have := s5.1; simp only [next_bump] at this; omega
          have hk45 : ∀ q, q < H4.next → H5.get q = H4.get q := fun q hq => s5.2 q (by simp only [next_bump]; omega)
          have hG5 : GoodH s rl gap R kn fn H5 := hG4.up _ _ _ _ _ _ hn45 (hk45 R hG4.rn) (hk45 kn hG4.kn)
          have r5 := r4.frame hn45 (fun q hq => hk45 q (r4.own_lt hq))
          cases hm : mayF s rl gap i (i + 1 + k) with
          | false =>
            repeat' (first | refine WK.skip ?_ | (apply WK.reg; (· exact lnn)) | refine WKO.nil ?_ | ((first | apply WKO.op); (· first | exact k_mv rfl | exact opA); (· rfl)) | refine pN ?_ | refine bN ?_ | (apply WK.condF; (· rfl); (· exact dcd)) | fail)
            refine ⟨(k + 1, u), (.cons rfl <| .cons rfl <| .cons rfl <| .cons rfl <| .nil _), ⟨⟨T, hF5.up rfl (by simp only [next_bump]; omega)⟩, hG5.up _ _ _ _ _ _ (by simp only [next_bump]; omega) rfl rfl, ?_, o4, by show k + 1 ≤ j - i - 1; omega⟩, by show j - i - (k + 1) < j - i - k; omega⟩
            simp only
            rw [sizesP_succ, if_neg (by rw [hm]; simp)]
            exact r5.frame (by simp only [next_bump]; omega) (fun _ _ => rfl)
          | true =>
            repeat' (first | refine WKO.nil ?_ | refine pN ?_ | (apply WK.condT; (· rfl); (· exact dcd)) | fail)
            refine WK.regT (k := 18) rfl ?_
            repeat' (first | ((first | apply WKT.op); (· first | exact k_mv rfl | (apply k_ldO; (· rfl); (· assumption); (· rfl); (· exact mmb); (· rfl)) | exact k_faddr rfl | exact opA); (· rfl)) | fail)
            refine WKT.callV rfl rfl rfl (hc28 (i + 1) (i + 1 + k) (by omega) (by omega) (by omega) _ (hG5.up _ _ _ _ _ _ (by simp only [next_bump]; omega) rfl rfl)) ?_
            rintro v6 H6 ⟨rfl, hG6, hk6, hn6⟩
            have hF6 := (hF5.up (H' := H5.bump 18) rfl (by simp only [next_bump]; omega)).call (mod' := [kn]) (fun q h1 h2 => hk6 q h1 (by simpa using h2)) hn6 (fun k hk => .inl hk) hknp
            repeat' (first | ((first | apply WKT.op); (· first | exact k_mv rfl | (apply k_ldO; (· rfl); (· assumption); (· rfl); (· exact mmb); (· rfl)) | exact k_faddr rfl | exact opA); (· rfl)) | fail)
            refine WKT.callV rfl rfl rfl (hc28 (i + 1 + k + 1) j (by omega) hj (by omega) _ hG6) ?_
            rintro v7 H7 ⟨rfl, hG7, hk7, hn7⟩
            have hF7 := hF6.call (mod' := [kn]) (fun q h1 h2 => hk7 q h1 (by simpa using h2)) hn7 (fun k hk => .inl hk) hknp
            have hA : szF s rl gap (i + 1) (i + 1 + k) = sizesN (mayF s rl gap) k (i + 1) := by unfold szF; rw [show i + 1 + k - (i + 1) = k by omega]
            have hB : szF s rl gap (i + 1 + k + 1) j = sizesN (mayF s rl gap) (j - i - 2 - k) (i + 2 + k) := by unfold szF; rw [show j - (i + 1 + k + 1) = j - i - 2 - k by omega, show i + 1 + k + 1 = i + 2 + k by omega]
            have hsu := sizesP_succ (mayF s rl gap) (j - i) i k
            rw [if_pos hm, ← hA, ← hB] at hsu
            have hsum := sizesP_sum (mayF s rl gap) (j - i) i (k + 1) (by omega) (by omega) (by omega)
            rw [hsu, plusF_sum] at hsum
            have hbig := pow8 (n := j - i) (by omega)
            have hts := timesF_sum (szF s rl gap (i + 1) (i + 1 + k)) (szF s rl gap (i + 1 + k + 1) j)
            have hAl : (szF s rl gap (i + 1) (i + 1 + k)).length ≤ 41 := by rw [hA]; have := lenN_le (mayF s rl gap) k (i + 1); unfold lenN at this; omega
            have hBl : (szF s rl gap (i + 1 + k + 1) j).length ≤ 41 := by rw [hB]; have := lenN_le (mayF s rl gap) (j - i - 2 - k) (i + 2 + k); unfold lenN at this; omega
            have hAs : (szF s rl gap (i + 1) (i + 1 + k)).sum < bigN := by rw [hA]; exact Nat.lt_of_le_of_lt (sizesN_sum _ _ _ (by omega)) (pow8 (by omega))
            have hBs : (szF s rl gap (i + 1 + k + 1) j).sum < bigN := by rw [hB]; exact Nat.lt_of_le_of_lt (sizesN_sum _ _ _ (by omega)) (pow8 (by omega))
            have hPl := lenP_le1 (mayF s rl gap) (j - i) i k (by omega) (by omega)
            have hTl := timesF_len (szF s rl gap (i + 1) (i + 1 + k)) (szF s rl gap (i + 1 + k + 1) j)
            have h46 := KS_46 s rl gap R kn fn (a := szF s rl gap (i + 1) (i + 1 + k)) (b := szF s rl gap (i + 1 + k + 1) j) ⟨by omega, by omega, hAs, hBs, by omega⟩
            repeat' (first | ((first | apply WKT.op); (· first | exact k_call rfl rfl (cfhit (h46 _))); (· rfl)) | fail)
            have hukn : ∀ q, u.own = some q → q ≠ kn := fun q hq => by have := o4 q hq; have := hG.kn; omega
            have r7 := ((r5.frame (H' := H5.bump 18) (by simp only [next_bump]; omega) (fun _ _ => rfl)).frame hn6 (fun q hq => hk6 q (Nat.lt_of_lt_of_le (r5.own_lt hq) (by simp only [next_bump]; omega)) (hukn q hq)))
            have r7' := r7.frame hn7 (fun q hq => hk7 q (r7.own_lt hq) (hukn q hq))
            refine WKT.callV rfl rfl rfl (plus_K (K := KS s rl gap R kn fn) (fun args H => (KS_KN _ _ _ _ _ _ (by decide) (by decide)).trans rfl) (fun H => (KS_KN _ _ _ _ _ _ (by decide) (by decide)).trans (KN_36 (by decide) H)) (fun hm hn H => (KS_KN _ _ _ _ _ _ (by decide) (by decide)).trans (KN_38 hm hn H)) hf r7' (rowI_rd H7 _) (fun q hq => by cases hq) (by omega) (by rw [hTl]; split <;> omega) (n := 1) (by omega) (by omega)) ?_
            rintro v8 H8 ⟨r8, k8⟩
            repeat' (first | refine WKT.nil ?_ | ((first | apply WKT.op); (· first | exact k_mv rfl); (· rfl)) | fail)
            have hF8 := hF7.call (mod' := ownL u) (fun q h1 h2 => k8.2.1 q h1 (fun e => h2 (mem_ownL.2 e))) k8.1 (fun q hq => .inr (by have := o4 q (mem_ownL.1 hq); omega)) (fun p hp => by
              simp only [List.mem_singleton] at hp
              subst hp
              intro hq
              have := o4 _ (mem_ownL.1 hq)
              simp only at this
              omega)
            have hG8 : GoodH s rl gap R kn fn H8 := hG7.up _ _ _ _ _ _ k8.1 (k8.2.1 R hG7.rn (fun e => by have := o4 R e; have := hG.rn; omega)) (k8.2.1 kn hG7.kn (fun e => by have := o4 kn e; have := hG.kn; omega))
            refine ⟨fun q hq => ?_, fun j hj => (by cases hj), (_, H8), rfl, ?_⟩
            · have hq' : q = (12, [7], []) := by simpa using hq
              subst hq'
              refine ⟨_, _, _, _, nA j, rfl, rfl, rfl, xop_ld rfl (hF6.obj _ (.head _)) rfl, fun w hw => ?_⟩
              have hw' : w = 12 ∨ w = 7 ∨ w = 8 := by simpa using hw
              rcases hw' with rfl | rfl | rfl
              · exact ⟨_, rfl, xop_ld rfl (hF6.obj _ (.head _)) rfl⟩
              · exact ⟨_, rfl, xop_ld (H := H5) (n := 0) rfl (hF5.obj _ (.head _)) rfl⟩
              · exact ⟨_, rfl, xop_ld rfl (hF6.obj _ (.head _)) rfl⟩
            · repeat' (first | (apply WK.reg; (· exact lnn)) | refine WKO.nil ?_ | ((first | apply WKO.op); (· first | exact k_mv rfl | exact opA); (· rfl)) | refine pN ?_ | refine bN ?_ | fail)
              refine ⟨(k + 1, v8), (.cons rfl <| .cons rfl <| .cons rfl <| .cons rfl <| .nil _), ⟨⟨_, hF8.up rfl (by simp only [next_bump]; omega)⟩, hG8.up _ _ _ _ _ _ (by simp only [next_bump]; omega) rfl rfl, ?_, fun q hq => ?_, by show k + 1 ≤ j - i - 1; omega⟩, by show j - i - (k + 1) < j - i - k; omega⟩
              · simp only
                rw [hsu]
                exact r8.frame (by simp only [next_bump]; omega) (fun _ _ => rfl)
              · rcases k8.2.2 q hq with e | e
                · exact o4 q e
                · have := hF7.lt _ (.head _)
                  have := hF7.le
                  simp only at *
                  omega
        · refine ⟨fun _ => ?_, fun q => absurd rfl q⟩
          obtain ⟨es4, he4, hm4⟩ := hG4.k
          obtain ⟨es5, hu5, hin5⟩ := upd_memo (u := u) (i := i) (j := j) (hm4.keys hsl)
          repeat' (first | refine WK.seq ?_ | (apply WK.regd0; (· exact lnn)) | ((first | apply WKO.op); (· first | exact k_mv rfl | exact k_ld0 rfl hG4.r rfl h18 | (apply k_ldA; (· rfl); (· assumption); (· rfl); (· exact mmb); (· first | rfl)) | exact k_faddr rfl | exact k_nilc rfl); (· rfl)) | fail)
          refine WKO.opn (k_upd0 rfl rfl rfl he4 rfl hkP hu5) rfl ?_
          repeat' (first | refine WK.seq ?_ | refine WK.ret ?_ | (apply WK.reg; (· exact lnn)) | refine WKO.nil ?_ | ((first | apply WKO.op); (· first | exact k_mv rfl); (· rfl)) | refine pN ?_ | fail)
          have hkj : k = j - i - 1 := by omega
          rw [hkj, ← sizesN_ge _ (by omega)] at r4
          have hpos := sizesN_pos (mayF s rl gap) (j - i) i
          have hn04 : H.next ≤ H4.next := Nat.le_trans hF4.base hF4.le
          rcases r4 with ⟨_, ⟨rfl, h0⟩ | ⟨q, full, rfl, hq, hfl, hfl2, hqn⟩⟩ | ⟨h0, _⟩
          · omega
          · have hqp := o4 q rfl
            have hqkn : q ≠ kn := by have := hG.kn; omega
            classical
            refine ⟨fun id q => (by cases q), _, rfl, ?_⟩
            refine alt_freeze (zs := es5.map fun e => (e, if e = (keyP i j, AV.sl q 0 (sizesN (mayF s rl gap) (j - i) i).length openCap) then rowI (sizesN (mayF s rl gap) (j - i) i) else e.2)) (l := sizesN (mayF s rl gap) (j - i) i) (full := full) (opn := some 2) hG hP.kR ?_ hfl rfl (by omega) ?_ (fun e he => ?_) (fun e he => ?_) (fun w hw1 hw2 => ?_) (by simp only [next_bump, next_set]; omega) rfl
            · simp only [get_bump]
              rw [AHeap.get_set, if_neg hqkn]
              simp only [get_bump]
              exact hq
            · simp only [get_bump]
              rw [AHeap.get_set, if_pos rfl, List.map_map]
              exact congrArg (fun l => some (AObj.map l)) (List.map_id _).symm
            · obtain ⟨e0, _, rfl⟩ := List.mem_map.1 he
              by_cases hc : e0 = (keyP i j, AV.sl q 0 (sizesN (mayF s rl gap) (j - i) i).length openCap)
              · exact .inr ⟨by rw [hc], if_pos hc⟩
              · exact .inl (if_neg hc)
            · rw [List.map_map] at he
              obtain ⟨e0, he0, rfl⟩ := List.mem_map.1 he
              simp only [Function.comp_apply]
              by_cases hc : e0 = (keyP i j, AV.sl q 0 (sizesN (mayF s rl gap) (j - i) i).length openCap)
              · rw [if_pos hc]
                exact ⟨i, j, hij, hj, by rw [hc]; rfl⟩
              · rw [if_neg hc]
                rcases hin5 e0 he0 with r | r
                · exact absurd r hc
                · exact hm4 e0 r
            · simp only [get_bump]
              rw [AHeap.get_set, if_neg hw2]
              simp only [get_bump]
              exact hF4.fr w hw1 (by simpa using hw2)
          · omega
  · obtain ⟨i', j', _, _, e⟩ := hmo _ (List.mem_of_getElem? hkk)
    obtain ⟨e1, e2⟩ := Prod.mk.injEq _ _ _ _ ▸ e
    obtain ⟨rfl, rfl⟩ := keyP_inj e1
    subst e2
    repeat' (first | refine WK.seq ?_ | refine WK.skip ?_ | refine WK.ret ?_ | (apply WK.reg; (· exact lnn)) | (apply WK.regC; (· rfl); (· exact lnn); (· decide)) | (apply WKO.boxO; (· rfl); (· assumption); (· rfl); (· exact nxx); (· exact nxx); (· exact nxx); intro _ _ _) | (apply WKO.bsO; (· rfl); (· rfl); (· assumption); (· rfl); (· exact nxx); (· exact nxx); (· exact nxx); intro _ _ _) | refine WKC.nil ?_ | refine WKO.nil ?_ | ((first | apply WKC.op | apply WKO.op); (· first | exact k_mv rfl | exact k_call rfl rfl (h36 _ (by decide) _) | (apply k_ldF; (· rfl); (· assumption); (· rfl); (· exact hR); (· exact hG.rn); (· simp); (· exact h18)) | (apply k_lookF; (· rfl); (· rfl); (· assumption); (· rfl); (· exact hes); (· exact hG.kn); (· simp); (· exact hkP); (· exact hfm)) | (apply k_ldO; (· rfl); (· assumption); (· rfl); (· exact mmb); (· rfl)) | (apply k_ldA; (· rfl); (· assumption); (· rfl); (· exact mmb); (· first | rfl)) | exact k_faddr rfl | exact k_nilc rfl | exact opA); (· rfl)) | refine pN ?_ | refine pR ?_ | (apply WK.condT; (· rfl); (· exact dcd)) | (apply WK.condD; (· rfl); all_goals intro _) | fail)
    · rename_i H1 hF1 hn1 hlt H2 hF2 hn2
      refine ⟨fun id q => (by cases q), _, rfl, ?_⟩
      obtain ⟨z1, z2⟩ := zs_same es
      refine alt_freeze (zs := es.map fun e => (e, e.2)) (l := [1]) hG hP.kR (hF2.obj _ (.head _)) rfl rfl (by have := hF1.base; have := hF1.le; simp only [next_bump]; omega) (by rw [z1, hF2.fr kn hG.kn (by simp)]; exact hes) (fun e he => ?_) (by rw [z2]; exact hmo) (fun k h1 _ => hF2.fr k h1 (by simp)) (Nat.le_trans hF2.base hF2.le) (by unfold szF; rw [sizesN_lt _ hlt])
      obtain ⟨e0, _, rfl⟩ := List.mem_map.1 he
      exact .inl rfl
    · rename_i H1 hF1 hn1 hlt
      have hn' : H.next ≤ H1.next := Nat.le_trans hF1.base hF1.le
      refine ⟨fun id q => (by cases q), _, rfl, rowI (szF s rl gap i j), _, id, rfl, hG.up _ _ _ _ _ _ (by simp only [next_bump]; omega) (hF1.fr R hG.rn (by simp)) (hF1.fr kn hG.kn (by simp)), fun k h1 _ => hF1.fr k h1 (by simp), by simp only [next_bump]; omega⟩
end
end Go.Proofs.YtfcgofffalmdfaaGreatDoor.PA
namespace Go.Proofs.YtfcgofffalmdfaaGreatDoor.PA
open Go Go.Eng Go.Proofs
section
variable {s : List UInt8} {rl : List Bool} {gap : Int} {R kn fn : Nat}
theorem sizes_ok (hP : RopeP s rl R kn fn) : ∀ n i j, j - i = n → i ≤ j → j ≤ s.length → ∀ H, GoodH s rl gap R kn fn H → ∃ v H', CallOK Tryz.prog 68 [.ptr R 0, keyP i j] H v H' ∧ Sp28 s rl gap R kn fn i j H v H' := by
  intro n
  induction n using Nat.strongRecOn with
  | _ n ih =>
    intro i j hn hij hj H hG
    obtain ⟨v, H1, h, v', H', hc, hsp⟩ := sizes_walk hP (fuel := 4000) (by omega) hij hj hG (fun i' j' a b c H g => KS_28 _ _ _ _ _ _ (ih (j' - i') (by omega) i' j' rfl a b H g))
    exact ⟨v', H', hc (xfunc_sound mixed (xcallK_sound mixed (KS_ok _ _ _ _ _ _) F_ok 4000 1) 4000 (F_ok 68 L68 rfl) h), hsp⟩
theorem sizes_K (hP : RopeP s rl R kn fn) {i j : Nat} (hij : i ≤ j) (hj : j ≤ s.length) {H : AHeap} (hG : GoodH s rl gap R kn fn H) : ∃ v H', KS s rl gap R kn fn 68 [.ptr R 0, keyP i j] H = some (v, H') ∧ Sp28 s rl gap R kn fn i j H v H' :=
  KS_28 _ _ _ _ _ _ (sizes_ok hP _ i j rfl hij hj H hG)
def mostF (s : List UInt8) (rl : List Bool) (gap : Int) (i j : Nat) : Nat := lenN (mayF s rl gap) (j - i) i - 1
def Sp47 (s : List UInt8) (rl : List Bool) (gap : Int) (R kn fn i j : Nat) (H : AHeap) (v : AV) (H' : AHeap) : Prop := v = nA (mostF s rl gap i j) ∧ GoodH s rl gap R kn fn H' ∧ (∀ q, q < H.next → q ≠ kn → H'.get q = H.get q) ∧ H.next ≤ H'.next
theorem most_ok (hP : RopeP s rl R kn fn) {cf : CF} {fuel : Nat} {i j : Nat} (hj : j ≤ s.length) {H : AHeap} (hG : GoodH s rl gap R kn fn H) (h28 : ∀ H, GoodH s rl gap R kn fn H → ∃ v H', cf 68 [.ptr R 0, keyP i j] H = some (v, H') ∧ Sp28 s rl gap R kn fn i j H v H') :
    ∃ v H', xfunc cf fuel L91 [.ptr R 0, keyP i j] H = some (v, H') ∧ Sp47 s rl gap R kn fn i j H v H' := by
  refine xfunc_ofK rfl (by show 2 ≤ 10; omega) ?_
  have hF := HF.start H
  unfold L91
  dsimp only
  repeat' (first | refine WK.seq ?_ | (apply WK.reg; (· exact lnn)) | (apply WKO.boxO; (· rfl); (· assumption); (· rfl); (· exact nxx); (· exact nxx); (· exact nxx); intro _ _ _) | refine WKO.nil ?_ | ((first | apply WKO.op); (· first | exact k_mv rfl | (apply k_ldA; (· rfl); (· assumption); (· rfl); (· exact mmb); (· first | rfl))); (· rfl)) | refine pN ?_ | fail)
  rename_i H1 hF1 hn1
  have hn' : H.next ≤ H1.next := Nat.le_trans hF1.base hF1.le
  have hG1 : GoodH s rl gap R kn fn H1 := hG.up _ _ _ _ _ _ hn' (hF1.fr R hG.rn (by simp)) (hF1.fr kn hG.kn (by simp))
  refine WKO.callV rfl rfl rfl (h28 _ (hG1.up _ _ _ _ _ _ (by simp only [next_bump]; omega) rfl rfl)) ?_
  rintro v2 H2 ⟨rfl, hG2, hk2, hn2⟩
  have hpos : 1 ≤ (szF s rl gap i j).length := sizesN_pos _ _ _
  have hle : (szF s rl gap i j).length ≤ 42 := by
    have := lenN_le (mayF s rl gap) (j - i) i
    have := hP.sl
    unfold lenN at *
    unfold szF
    omega
  simp only [next_bump] at hn2
  repeat' (first | refine WK.ret ?_ | refine WKO.nil ?_ | ((first | apply WKO.op); (· first | exact k_mv rfl | exact k_lenE rfl (rowI_rd H2 _) | exact opA); (· rfl)) | refine pN ?_ | fail)
  refine ⟨fun id q => (by cases q), _, rfl, rfl, hG2, fun q h1 h2 => ?_, by omega⟩
  rw [hk2 q (by simp only [next_bump]; omega) h2]
  exact hF1.fr q h1 (by simp)
end
end Go.Proofs.YtfcgofffalmdfaaGreatDoor.PA
namespace Go.Eng
section
variable {cf : CF} {n : Nat} {l : KL0} {H : AHeap} {Q : List (KL0 × AHeap) → Prop}
theorem WKT.gop {d g : Nat} {b c : Bool} {op : XOp} {r : List XOper} {v : AV} {H1 : AHeap} (hg : look l g = some (.bool c)) (hc : c = b) (h : XV cf l H n op = some (v, H1)) (ha : allSm l op.opnds = true) (k : WKT cf r (n + 1) ((d, v) :: l) H1 fun ps => Q ((l, H) :: ps)) : WKT cf (⟨some d, op, some (g, b)⟩ :: r) n l H Q := fun tm ht => by
  obtain ⟨tr, ps, h1, h2, h3⟩ := k _ (ht.set d v)
  unfold XV at h
  have hw : wantedA tm ⟨some d, op, some (g, b)⟩ = some true := by simp only [wantedA, ht _ _ hg, hc]; simp
  exact ⟨_, _, by simp only [xtrace, xstep, hw, (xval_kw ht ha).trans h, putT, h1, Option.map_some], .cons ht h2, h3⟩
theorem WKT.gno {d g : Nat} {b c : Bool} {op : XOp} {r : List XOper} (hg : look l g = some (.bool c)) (hc : c = !b) (k : WKT cf r (n + 1) ((d, undefA) :: l) H fun ps => Q ((l, H) :: ps)) : WKT cf (⟨some d, op, some (g, b)⟩ :: r) n l H Q := fun tm ht => by
  obtain ⟨tr, ps, h1, h2, h3⟩ := k _ (ht.set d undefA)
  have hw : wantedA tm ⟨some d, op, some (g, b)⟩ = some false := by simp only [wantedA, ht _ _ hg, hc]; cases b <;> rfl
  exact ⟨_, _, by simp only [xtrace, xstep, hw, putT, undefA, h1, Option.map_some] <;> (simp only [undefA] at h1; rw [h1]; rfl), .cons ht h2, h3⟩
theorem WKT.gnoT {d g : Nat} {c : Bool} {op : XOp} {r : List XOper} (hg : look l g = some (.bool c)) (hc : c = false) (k : WKT cf r (n + 1) ((d, undefA) :: l) H fun ps => Q ((l, H) :: ps)) : WKT cf (⟨some d, op, some (g, true)⟩ :: r) n l H Q := WKT.gno hg hc k
theorem WKT.gnoF {d g : Nat} {c : Bool} {op : XOp} {r : List XOper} (hg : look l g = some (.bool c)) (hc : c = true) (k : WKT cf r (n + 1) ((d, undefA) :: l) H fun ps => Q ((l, H) :: ps)) : WKT cf (⟨some d, op, some (g, false)⟩ :: r) n l H Q := WKT.gno hg hc k
theorem WKT.gcallV {d f g : Nat} {b c : Bool} {x : XO} {xs : List XO} {cs av : List AV} {P : AV → AHeap → Prop} {r : List XOper} (hg : look l g = some (.bool c)) (hc : c = b) (hx : evK l x = some (.fn f cs)) (hl : evL (evK l) xs = some av) (ha : allSm l (x :: xs) = true) (h : ∃ v H', cf f (av ++ cs) H = some (v, H') ∧ P v H')
    (k : ∀ v H', P v H' → WKT cf r (n + 1) ((d, v) :: l) H' fun ps => Q ((l, H) :: ps)) : WKT cf (⟨some d, .call x xs, some (g, b)⟩ :: r) n l H Q := by
  obtain ⟨v, H', h1, h2⟩ := h
  exact WKT.gop (H1 := H') hg hc (k_any (op_call hx hl h1)) ha (k v H' h2)
end
def LooseQ (ops : List XOper) (ps : List (KL0 × AHeap)) (base : Nat) (nn : List Nat) (q : Nat × List Nat × List Nat) : Prop :=
  (∃ d op g b l H, ops[q.1]? = some ⟨d, op, some (g, b)⟩ ∧ ps[q.1]? = some (l, H) ∧ look l g = some (.bool (!b))) ∨
  (∃ d op g b l H v, ops[q.1]? = some ⟨d, op, some (g, b)⟩ ∧ ps[q.1]? = some (l, H) ∧ look l g = some (.bool b) ∧ allSm l op.opnds = true ∧ xop (evK l) H 0 op = .v v ∧
    ∀ j ∈ q.1 :: (q.2.1 ++ q.2.1.map (· + 1)), ∃ p, ps[j]? = some p ∧ xop (evK l) ((p.2.less base q.2.2).less base (nn.filter fun k => Nat.ble j k)) 0 op = .v v)
theorem WK.regQ {cf : CF} {fuel : Nat} {l : KL0} {H : AHeap} {ops : List XOper} {lo : List (Nat × List Nat × List Nat)} {k : Nat} {R : XE → KL0 → AHeap → Prop} (hk : ops.length = k)
    (h : WKT cf ops H.next l (H.bump k) fun ps => (∀ q ∈ lo, LooseQ ops ps H.next [] q) ∧ ∃ p, ps.getLast? = some p ∧ R .normal p.1 p.2) : WK cf fuel (.regd ops lo []) l H R := by
  unfold WK
  intro tm ht
  obtain ⟨tr, ps, h1, h2, h3, p, h5, h6⟩ := h tm ht
  obtain ⟨tm', g1, g2⟩ := h2.last h5
  refine W.regd k hk ⟨tr, h1, ?_, rfl, _, g1, p.1, g2, h6⟩
  rw [List.all_eq_true]
  intro q hq
  rcases h3 q hq with ⟨d, op, g, b, l1, H1, q1, q2, q3⟩ | ⟨d, op, g, b, l1, H1, v, q1, q2, q0, q3, q4, q5⟩
  · obtain ⟨t1, r1, r2⟩ := h2.at q2
    unfold looseOk
    rw [q1, r1]
    have hw : wantedA t1 ⟨d, op, some (g, b)⟩ = some false := by simp only [wantedA, r2 _ _ q3]; cases b <;> rfl
    simp only [hw]
  · obtain ⟨t1, r1, r2⟩ := h2.at q2
    have hev : ∀ (H' : AHeap), xop (St.ev t1) H' 0 op = xop (evK l1) H' 0 op := fun H' => xop_congr fun x hx => by
      have := List.all_eq_true.1 q3 x hx
      cases e : evK l1 x with
      | none => rw [e] at this; cases this
      | some u => exact r2.ev e
    unfold looseOk
    rw [q1, r1]
    have hw : wantedA t1 ⟨d, op, some (g, b)⟩ = some true := by simp only [wantedA, r2 _ _ q0]; simp
    simp only [hw]
    rw [hev, q4]
    simp only
    rw [List.all_eq_true]
    intro j hj
    obtain ⟨pj, s1, s2⟩ := q5 j hj
    obtain ⟨tj, s3, _⟩ := h2.at s1
    rw [s3]
    simp only
    rw [hev, s2]
    exact AV.beq_refl v
end Go.Eng
namespace Go.Proofs.YtfcgofffalmdfaaGreatDoor.PA
open Go Go.Eng Go.Proofs
section
variable {cf : CF} {n : Nat} {H : AHeap} {l : KL0} {x y : XO} {a b : List UInt8}
theorem k_catS (hx : evK l x = some (.str a)) (hy : evK l y = some (.str b)) (h : a.length + b.length < 1000000) : XV cf l H n (.bin .add x y) = some (.str (a ++ b), H) :=
  k_bin hx hy (by
    show (if a.length + b.length < 2 ^ 40 then some (AV.str (a ++ b)) else none) = _
    rw [if_pos (by omega)])
theorem k_emS (hx : evK l x = some (.str a)) : XV cf l H n (.bin .eql x (.k (.str []))) = some (.bool (decide (a = [])), H) :=
  k_bin hx rfl (by
    show some (AV.bool (a == [])) = _
    congr 2
    rw [Bool.eq_iff_iff]
    simp)
end
section
variable (s : List UInt8) (rl : List Bool) (gap : Int) (R kn fn : Nat)
def fsF (i j : Nat) : List UInt8 := firstN (mayF s rl gap) (j - i) i
def FMemo (es : List (AV × AV)) : Prop := ∀ e ∈ es, ∃ i j, i ≤ j ∧ j ≤ s.length ∧ e = (keyP i j, .str (fsF s rl gap i j))
structure GoodF (H : AHeap) : Prop where
  g : GoodH s rl gap R kn fn H
  f : ∃ es, H.get fn = some (.map es) ∧ FMemo s rl gap es
  fnl : fn < H.next
def Sp30 (i j : Nat) (H : AHeap) (v : AV) (H' : AHeap) : Prop := v = .str (fsF s rl gap i j) ∧ GoodF s rl gap R kn fn H' ∧ (∀ q, q < H.next → q ≠ kn → q ≠ fn → H'.get q = H.get q) ∧ H.next ≤ H'.next
variable {s rl gap R kn fn}
theorem GoodF.of {H H' : AHeap} (h : GoodF s rl gap R kn fn H) (g : GoodH s rl gap R kn fn H') (hn : H.next ≤ H'.next) (hf : H'.get fn = H.get fn) : GoodF s rl gap R kn fn H' :=
  ⟨g, by obtain ⟨es, q1, q2⟩ := h.f; exact ⟨es, hf.trans q1, q2⟩, Nat.lt_of_lt_of_le h.fnl hn⟩
theorem GoodF.up {H H' : AHeap} (h : GoodF s rl gap R kn fn H) (hn : H.next ≤ H'.next) (h1 : H'.get R = H.get R) (h2 : H'.get kn = H.get kn) (h3 : H'.get fn = H.get fn) : GoodF s rl gap R kn fn H' :=
  h.of (h.g.up _ _ _ _ _ _ hn h1 h2) hn h3
theorem FMemo.keys {es : List (AV × AV)} (h : FMemo s rl gap es) (hl : s.length ≤ 40) : ∀ e ∈ es, ∃ i' j', i' < 1000000 ∧ j' < 1000000 ∧ e.1 = keyP i' j' := fun e he => by
  obtain ⟨i, j, h1, h2, rfl⟩ := h e he
  exact ⟨i, j, by omega, by omega, rfl⟩
theorem fsF_len (i j : Nat) : (fsF s rl gap i j).length = j - i := (firstN_top (mayF s rl gap) (j - i) i).2.1
variable (s rl gap R kn fn)
open Classical in
noncomputable def KF : CF := fun f args H =>
  if f = 48 then (if h : ∃ (r : AV × AHeap) (i j : Nat), args = [.ptr R 0, keyP i j] ∧ CallOK Tryz.prog 48 args H r.1 r.2 ∧ Sp30 s rl gap R kn fn i j H r.1 r.2 then some h.choose else none) else KS s rl gap R kn fn f args H
theorem KF_ok : CFok Tryz.prog (KF s rl gap R kn fn) := by
  intro f args H v H' h
  unfold KF at h
  split at h
  · rename_i hf
    subst hf
    split at h
    · rename_i q
      obtain ⟨i, j, h1, h2, h3⟩ := q.choose_spec
      simp only [Option.some.injEq] at h
      rw [h] at h2
      exact h2
    · cases h
  · exact KS_ok _ _ _ _ _ _ _ _ _ _ _ h
theorem KF_30 {i j : Nat} {H : AHeap} (h : ∃ v H', CallOK Tryz.prog 48 [.ptr R 0, keyP i j] H v H' ∧ Sp30 s rl gap R kn fn i j H v H') : ∃ v H', KF s rl gap R kn fn 48 [.ptr R 0, keyP i j] H = some (v, H') ∧ Sp30 s rl gap R kn fn i j H v H' := by
  obtain ⟨v, H', h1, h2⟩ := h
  have q : ∃ (r : AV × AHeap) (i' j' : Nat), [AV.ptr R 0, keyP i j] = [.ptr R 0, keyP i' j'] ∧ CallOK Tryz.prog 48 [.ptr R 0, keyP i j] H r.1 r.2 ∧ Sp30 s rl gap R kn fn i' j' H r.1 r.2 := ⟨(v, H'), i, j, rfl, h1, h2⟩
  refine ⟨_, _, (by unfold KF; rw [if_pos rfl, dif_pos q]), ?_⟩
  obtain ⟨i', j', e, _, h3⟩ := q.choose_spec
  obtain ⟨rfl, rfl⟩ := keyP_inj (i := i) (j := j) (by simpa using e)
  exact h3
theorem KF_KS {f : Nat} {args : List AV} {H : AHeap} (h1 : f ≠ 48) : KF s rl gap R kn fn f args H = KS s rl gap R kn fn f args H := by
  unfold KF
  rw [if_neg h1]
end
section
variable {s : List UInt8} {rl : List Bool} {gap : Int} {R kn fn : Nat}
theorem most_F (hP : RopeP s rl R kn fn) {fuel k : Nat} {i j : Nat} (hij : i ≤ j) (hj : j ≤ s.length) {H : AHeap} (hG : GoodH s rl gap R kn fn H) : ∃ v H', xcallK (KF s rl gap R kn fn) F fuel (k + 1) 91 [.ptr R 0, keyP i j] H = some (v, H') ∧ Sp47 s rl gap R kn fn i j H v H' := by
  obtain ⟨v, H', h1, h2⟩ := most_ok (cf := xcallK (KF s rl gap R kn fn) F fuel k) (fuel := fuel) hP hj hG (fun H g => by
    obtain ⟨v, H', q1, q2⟩ := sizes_K hP hij hj g
    exact ⟨v, H', cfhit ((KF_KS _ _ _ _ _ _ (by decide)).trans q1), q2⟩)
  exact ⟨v, H', (cfstep ((KF_KS _ _ _ _ _ _ (by decide)).trans ((KS_KN _ _ _ _ _ _ (by decide) (by decide)).trans rfl)) rfl).trans h1, h2⟩
theorem may_F (hP : RopeP s rl R kn fn) {fuel k : Nat} {a b : Nat} {H : AHeap} (hG : GoodH s rl gap R kn fn H) (ha : a < s.length) (hb : b < s.length) : ∃ v H', xcallK (KF s rl gap R kn fn) F fuel (k + 1) 90 [.ptr R 0, nA a, nA b] H = some (v, H') ∧ (v = .bool (mayF s rl gap a b) ∧ Same H H') := by
  obtain ⟨v, H', q1, q2⟩ := may_ok (cf := xcallK (KF s rl gap R kn fn) F fuel k) (fuel := fuel) hG.r hP.rl hP.sa (by have := hP.sl; omega) ha hb
  exact ⟨v, H', (cfstep ((KF_KS _ _ _ _ _ _ (by decide)).trans ((KS_KN _ _ _ _ _ _ (by decide) (by decide)).trans rfl)) rfl).trans q1, q2⟩
end
end Go.Proofs.YtfcgofffalmdfaaGreatDoor.PA
namespace Go.Proofs.YtfcgofffalmdfaaGreatDoor.PA
open Go Go.Eng Go.Proofs
theorem le_b1 (H : AHeap) (a : Nat) : H.next ≤ (H.bump a).next := by simp only [next_bump]; omega
theorem le_b2 (H : AHeap) (a b : Nat) : H.next ≤ ((H.bump a).bump b).next := by simp only [next_bump]; omega
theorem le_b3 (H : AHeap) (a b c : Nat) : H.next ≤ (((H.bump a).bump b).bump c).next := by simp only [next_bump]; omega
theorem xop_ldn {ev : XO → Option AV} {H : AHeap} {n i m : Nat} {x : XO} {c : List AV} {opn : Option Nat} (hx : ev x = some (.ptr i 0)) (hg : H.get i = some (.cells c opn)) (hc : c.length = m) : xop ev H n (.load (some m) x) = .v (.agg c) := by
  simp only [xop, hx, Option.bind_some, loadA, cellsAt, hg, List.drop_zero]
  rw [if_pos (by omega), List.take_of_length_le (by omega)]
  rfl
section
variable {s : List UInt8} {rl : List Bool} {gap : Int} {R kn fn : Nat}
set_option maxHeartbeats 4000000 in
theorem first_walk (hP : RopeP s rl R kn fn) {fuel : Nat} (hf : 3000 < fuel) {i j : Nat} (hij : i ≤ j) (hj : j ≤ s.length) {H : AHeap} (hG : GoodF s rl gap R kn fn H)
    (ih : ∀ i' j', i' ≤ j' → j' ≤ s.length → j' - i' < j - i → ∀ H, GoodF s rl gap R kn fn H → ∃ v H', KF s rl gap R kn fn 48 [.ptr R 0, keyP i' j'] H = some (v, H') ∧ Sp30 s rl gap R kn fn i' j' H v H') :
    ∃ v H', xfunc (xcallK (KF s rl gap R kn fn) F fuel 2) fuel L48 [.ptr R 0, keyP i j] H = some (v, H') ∧ Sp30 s rl gap R kn fn i j H v H' := by
  refine xfunc_ofK rfl (by show 2 ≤ 105; omega) ?_
  have hF := HF.start H
  obtain ⟨es, hes, hmo⟩ := hG.f
  have hsl := hP.sl
  have hR := hG.g.r
  have h19 := (ropeA_17 (s := s) (gap := gap) (k := .map kn) (f := .map fn) hP.rl).2.2
  have hkP := keyA_P (i := i) (j := j) (by omega) (by omega)
  unfold L48
  dsimp only
  rcases find_memo i j es 0 (hmo.keys hsl) with hfm | ⟨kk, vv, hfm, hkk⟩
  · repeat' (first | refine WK.seq ?_ | refine WK.skip ?_ | refine WK.ret ?_ | refine WK.block ?_ | (apply WK.reg; (· exact lnn)) | (apply WK.regC; (· rfl); (· exact lnn); (· decide)) | (apply WKO.boxO; (· rfl); (· assumption); (· rfl); (· exact nxx); (· exact nxx); (· exact nxx); intro _ _ _) | refine WKC.nil ?_ | refine WKO.nil ?_ | ((first | apply WKC.op | apply WKO.op); (· first | exact k_mv rfl | (apply k_ldF; (· rfl); (· assumption); (· rfl); (· exact hR); (· exact hG.g.rn); (· simp); (· exact h19)) | (apply k_lookF; (· rfl); (· rfl); (· assumption); (· rfl); (· exact hes); (· exact hG.fnl); (· simp); (· exact hkP); (· exact hfm)) | (apply k_ldO; (· rfl); (· assumption); (· rfl); (· exact mmb); (· rfl)) | (apply k_ldA; (· rfl); (· assumption); (· rfl); (· exact mmb); (· first | rfl)) | exact k_faddr rfl | exact k_nilc rfl | exact opA); (· rfl)) | refine pN ?_ | refine pR ?_ | (apply WK.condF; (· rfl); (· exact dcd)) | (apply WK.condD; (· rfl); all_goals intro _) | fail)
    · rename_i H1 hF1 hn1 hlt
      have hn' : H.next ≤ H1.next := Nat.le_trans hF1.base hF1.le
      refine ⟨fun id q => (by cases q), _, rfl, ?_, hG.up (by simp only [next_bump]; omega) (hF1.fr R hG.g.rn (by simp)) (hF1.fr kn hG.g.kn (by simp)) (hF1.fr fn hG.fnl (by simp)), fun q h1 _ _ => hF1.fr q h1 (by simp), by simp only [next_bump]; omega⟩
      show AV.str [] = .str (fsF s rl gap i j)
      unfold fsF
      rw [show j - i = 0 by omega, firstN_zero]
    · rename_i H1 hF1 hn1 hne
      have hn' : H.next ≤ H1.next := Nat.le_trans hF1.base hF1.le
      have hFm := hF1.weak (mod' := [kn, fn]) (by simp)
      have hG1 : GoodF s rl gap R kn fn H1 := hG.up hn' (hF1.fr R hG.g.rn (by simp)) (hF1.fr kn hG.g.kn (by simp)) (hF1.fr fn hG.fnl (by simp))
      have hpkn : H.next ≠ kn := by have := hG.g.kn; omega
      have hpfn : H.next ≠ fn := by have := hG.fnl; omega
      have hc30 : ∀ {k : Nat} (i' j' : Nat), i' ≤ j' → j' ≤ s.length → j' - i' < j - i → ∀ H, GoodF s rl gap R kn fn H → ∃ v H', xcallK (KF s rl gap R kn fn) F fuel k 48 [.ptr R 0, keyP i' j'] H = some (v, H') ∧ Sp30 s rl gap R kn fn i' j' H v H' := fun i' j' a b c H g => by
        obtain ⟨v, H', q1, q2⟩ := ih i' j' a b c H g
        exact ⟨v, H', cfhit q1, q2⟩
      have hknp : ∀ p ∈ [(H.next, AObj.cells (keyP i j).cells none)], p.1 ∉ [kn] := fun p hp => by
        simp only [List.mem_singleton] at hp
        subst hp
        simpa using hpkn
      have hkfp : ∀ p ∈ [(H.next, AObj.cells (keyP i j).cells none)], p.1 ∉ [kn, fn] := fun p hp => by
        simp only [List.mem_singleton] at hp
        subst hp
        simp [hpkn, hpfn]
      refine WK.loop (α := Nat) (fun k => [(0, .ptr R 0), (3, .ptr H.next 0), (7, .str (firstP (mayF s rl gap) (j - i) i k)), (8, nA (i + 1 + k))]) (fun k H' => (∃ T, HF H [kn, fn] T [(H.next, .cells [nA i, nA j] none)] H') ∧ GoodF s rl gap R kn fn H' ∧ k ≤ j - i - 1) (fun k => j - i - k) 0 (.cons rfl <| .cons rfl <| .cons rfl <| .cons rfl <| .nil _) ⟨⟨_, hFm.up rfl (by simp only [next_bump]; omega)⟩, hG1.up (by simp only [next_bump]; omega) rfl rfl rfl, Nat.zero_le _⟩ (by show j - i - 0 < fuel; omega) ?_
      rintro k H4 ⟨⟨T, hF4⟩, hG4, k4⟩
      clear hF hF1 hFm
      repeat' (first | refine WK.seq ?_ | refine WK.skip ?_ | refine WK.exit ?_ | refine WK.block ?_ | (apply WK.reg; (· exact lnn)) | (apply WK.regd0; (· exact lnn)) | refine WKO.nil ?_ | ((first | apply WKO.op); (· first | exact k_mv rfl | exact k_emS rfl | (apply k_ldO; (· rfl); (· assumption); (· rfl); (· exact mmb); (· rfl)) | exact k_faddr rfl | exact k_nilc rfl | exact opA); (· rfl)) | refine pN ?_ | refine pX ?_ | refine bX ?_ | (apply WK.condD; (· rfl); all_goals intro _) | fail)
      · refine WK.regQ (k := 27) rfl ?_
        repeat' (first | ((first | apply WKT.op); (· first | exact k_mv rfl | (apply k_ldO; (· rfl); (· assumption); (· rfl); (· exact mmb); (· rfl)) | exact k_faddr rfl); (· rfl)) | fail)
        refine WKT.callV rfl rfl rfl (may_F hP (a := i) (b := i + 1 + k) (hG4.g.up _ _ _ _ _ _ (by simp only [next_bump]; omega) rfl rfl) (by omega) (by omega)) ?_
        rintro v5 H5 ⟨rfl, s5⟩
        have hF5 := (hF4.up (H' := (H4.bump 4).bump 27) rfl (by simp only [next_bump]; omega)).call (mod' := []) (fun q h1 _ => s5.2 q h1) s5.1 (fun q hq => by cases hq) (fun p hp => by simp)
        have hn45 : H4.next ≤ H5.next := by have := s5.1; simp only [next_bump] at this; omega
        have hk45 : ∀ q, q < H4.next → H5.get q = H4.get q := fun q hq => s5.2 q (by simp only [next_bump]; omega)
        have hG5 : GoodF s rl gap R kn fn H5 := hG4.up hn45 (hk45 R hG4.g.rn) (hk45 kn hG4.g.kn) (hk45 fn hG4.fnl)
        have hnext : ∀ {H' : AHeap} {T' : Nat} {f : List UInt8} {l' : KL0}, HF H [kn, fn] T' [(H.next, .cells [nA i, nA j] none)] H' → GoodF s rl gap R kn fn H' → f = firstP (mayF s rl gap) (j - i) i (k + 1) → i + 1 + k < j → Go.Eng.Sub l' [(0, .ptr R 0), (3, .ptr H.next 0), (7, .str f), (8, nA (i + 1 + (k + 1)))] →
            ∃ k', Go.Eng.Sub l' [(0, .ptr R 0), (3, .ptr H.next 0), (7, .str (firstP (mayF s rl gap) (j - i) i k')), (8, nA (i + 1 + k'))] ∧ ((∃ T, HF H [kn, fn] T [(H.next, .cells [nA i, nA j] none)] H') ∧ GoodF s rl gap R kn fn H' ∧ k' ≤ j - i - 1) ∧ j - i - k' < j - i - k := fun a b c d e => by
          subst c
          exact ⟨k + 1, e, ⟨⟨_, a⟩, b, by omega⟩, by omega⟩
        cases hm : mayF s rl gap i (i + 1 + k) with
        | false =>
          repeat' (first | refine WKT.nil ?_ | ((first | apply WKT.op); (· first | exact k_mv rfl | exact opA); (· rfl)) | ((first | apply WKT.gnoT); (· rfl); (· exact dcd)) | fail)
          refine ⟨fun q hq => ?_, _, rfl, ?_⟩
          · have hq' : q = (18, [12], []) ∨ q = (23, [12, 20], []) := by simpa using hq
            rcases hq' with rfl | rfl <;> exact .inl ⟨_, _, _, _, _, _, rfl, rfl, rfl⟩
          · repeat' (first | refine WK.skip ?_ | (apply WK.reg; (· exact lnn)) | refine WKO.nil ?_ | ((first | apply WKO.op); (· first | exact k_mv rfl | exact opA); (· rfl)) | refine pN ?_ | refine bN ?_ | (apply WK.condF; (· rfl); (· exact dcd)) | fail)
            refine hnext (hF5.up rfl (Nat.le_add_right _ _)) (hG5.up (Nat.le_add_right _ _) rfl rfl rfl) ?_ (by assumption) (.cons rfl <| .cons rfl <| .cons rfl <| .cons rfl <| .nil _)
            rw [firstP_succ, if_neg (by rw [hm]; simp)]
        | true =>
          have hMb : ∀ a b, b ≤ s.length → mostF s rl gap a b ≤ 41 := fun a b hb => by
            have := lenN_le (mayF s rl gap) (b - a) a
            unfold mostF
            omega
          have hM1 := hMb (i + 1) (i + 1 + k) (by omega)
          have hM2 := hMb (i + 1 + k + 1) j hj
          have hM3 := hMb i j hj
          repeat' (first | ((first | apply WKT.op | ((first | apply WKT.gop); (· rfl); (· exact dcd))); (· first | exact k_mv rfl | (apply k_ldO; (· rfl); (· assumption); (· rfl); (· exact mmb); (· rfl)) | exact k_faddr rfl | exact opA); (· rfl)) | fail)
          refine WKT.gcallV rfl rfl rfl rfl rfl (most_F hP (i := i + 1) (j := i + 1 + k) (by omega) (by omega) hG5.g) ?_
          rintro v6 H6 ⟨rfl, hG6, hk6, hn6⟩
          have hF6 := hF5.call (mod' := [kn]) (fun q h1 h2 => hk6 q h1 (by simpa using h2)) hn6 (fun k hk => .inl (by simp at hk; simp [hk])) hknp
          have hGF6 := hG5.of hG6 hn6 (hk6 fn hG5.fnl hP.fk)
          repeat' (first | ((first | ((first | apply WKT.gop); (· rfl); (· exact dcd))); (· first | exact k_mv rfl | (apply k_ldO; (· rfl); (· assumption); (· rfl); (· exact mmb); (· rfl)) | exact k_faddr rfl | exact opA); (· rfl)) | fail)
          refine WKT.gcallV rfl rfl rfl rfl rfl (most_F hP (i := i + 1 + k + 1) (j := j) (by omega) hj hG6) ?_
          rintro v7 H7 ⟨rfl, hG7, hk7, hn7⟩
          have hF7 := hF6.call (mod' := [kn]) (fun q h1 h2 => hk7 q h1 (by simpa using h2)) hn7 (fun k hk => .inl (by simp at hk; simp [hk])) hknp
          have hGF7 := hGF6.of hG7 hn7 (hk7 fn hGF6.fnl hP.fk)
          repeat' (first | ((first | ((first | apply WKT.gop); (· rfl); (· exact dcd))); (· first | exact k_mv rfl | (apply k_ldA; (· rfl); (· assumption); (· rfl); (· exact mmb); (· first | rfl)) | exact opA); (· rfl)) | fail)
          refine WKT.gcallV rfl rfl rfl rfl rfl (most_F hP (i := i) (j := j) hij hj hG7) ?_
          rintro v8 H8 ⟨rfl, hG8, hk8, hn8⟩
          have hF8 := hF7.call (mod' := [kn]) (fun q h1 h2 => hk8 q h1 (by simpa using h2)) hn8 (fun k hk => .inl (by simp at hk; simp [hk])) hknp
          have hGF8 := hGF7.of hG8 hn8 (hk8 fn hGF7.fnl hP.fk)
          repeat' (first | refine WKT.nil ?_ | ((first | apply WKT.op | ((first | apply WKT.gop); (· rfl); (· exact dcd))); (· first | exact opA); (· rfl)) | fail)
          refine ⟨fun q hq => ?_, _, rfl, ?_⟩
          · have hq' : q = (18, [12], []) ∨ q = (23, [12, 20], []) := by simpa using hq
            rcases hq' with rfl | rfl
            · refine .inr ⟨_, _, _, _, _, _, nA j, rfl, rfl, rfl, rfl, xop_ld rfl (hF6.obj _ (.head _)) rfl, fun w hw => ?_⟩
              have hw' : w = 18 ∨ w = 12 ∨ w = 13 := by simpa using hw
              rcases hw' with rfl | rfl | rfl
              · exact ⟨_, rfl, xop_ld rfl (hF6.obj _ (.head _)) rfl⟩
              · exact ⟨_, rfl, xop_ld rfl (hF5.obj _ (.head _)) rfl⟩
              · exact ⟨_, rfl, xop_ld rfl (hF6.obj _ (.head _)) rfl⟩
            · refine .inr ⟨_, _, _, _, _, _, .agg [nA i, nA j], rfl, rfl, rfl, rfl, xop_ldn rfl (hF7.obj _ (.head _)) rfl, fun w hw => ?_⟩
              have hw' : w = 23 ∨ w = 12 ∨ w = 20 ∨ w = 13 ∨ w = 21 := by simpa using hw
              rcases hw' with rfl | rfl | rfl | rfl | rfl
              · exact ⟨_, rfl, xop_ldn rfl (hF7.obj _ (.head _)) rfl⟩
              · exact ⟨_, rfl, xop_ldn rfl (hF5.obj _ (.head _)) rfl⟩
              · exact ⟨_, rfl, xop_ldn rfl (hF6.obj _ (.head _)) rfl⟩
              · exact ⟨_, rfl, xop_ldn rfl (hF6.obj _ (.head _)) rfl⟩
              · exact ⟨_, rfl, xop_ldn rfl (hF7.obj _ (.head _)) rfl⟩
          · have hL : ∀ a b, 1 ≤ lenN (mayF s rl gap) a b := fun a b => lenN_pos _ a b
            have hL1 := hL (i + 1 + k - (i + 1)) (i + 1)
            have hL2 := hL (j - (i + 1 + k + 1)) (i + 1 + k + 1)
            have hL3 := hL (j - i) i
            have hcond : 1 + mostF s rl gap (i + 1) (i + 1 + k) + mostF s rl gap (i + 1 + k + 1) j = mostF s rl gap i j ↔ lenN (mayF s rl gap) k (i + 1) + lenN (mayF s rl gap) (j - i - 2 - k) (i + 2 + k) = lenN (mayF s rl gap) (j - i) i := by
              unfold mostF
              rw [show i + 1 + k - (i + 1) = k by omega, show j - (i + 1 + k + 1) = j - i - 2 - k by omega, show i + 1 + k + 1 = i + 2 + k by omega] at *
              omega
            repeat' (first | refine WK.seq ?_ | refine WK.skip ?_ | (apply WK.reg; (· exact lnn)) | refine WKO.nil ?_ | ((first | apply WKO.op); (· first | exact k_mv rfl | exact opA); (· rfl)) | refine pN ?_ | refine bN ?_ | (apply WK.condD; (· rfl); all_goals intro _) | fail)
            · refine WK.regT (k := 18) rfl ?_
              repeat' (first | ((first | apply WKT.op); (· first | exact k_mv rfl | (apply k_ldO; (· rfl); (· assumption); (· rfl); (· exact mmb); (· rfl)) | exact k_faddr rfl | exact opA); (· rfl)) | fail)
              refine WKT.callV rfl rfl rfl (hc30 (i + 1) (i + 1 + k) (by omega) (by omega) (by omega) _ (hGF8.up (Nat.le_add_right _ _) rfl rfl rfl)) ?_
              rintro v9 H9 ⟨rfl, hG9, hk9, hn9⟩
              have hF9 := (hF8.up (H' := H8.bump 18) rfl (Nat.le_add_right _ _)).call (mod' := [kn, fn]) (fun q h1 h2 => hk9 q h1 (by simp at h2; exact h2.1) (by simp at h2; exact h2.2)) hn9 (fun k hk => .inl hk) hkfp
              have hl1 := fsF_len (s := s) (rl := rl) (gap := gap) (i + 1) (i + 1 + k)
              have hl2 := fsF_len (s := s) (rl := rl) (gap := gap) (i + 1 + k + 1) j
              repeat' (first | ((first | apply WKT.op); (· first | exact k_mv rfl | exact k_catS rfl rfl (by simp only [List.length_append, List.length_cons, List.length_nil]; omega) | (apply k_ldO; (· rfl); (· assumption); (· rfl); (· exact mmb); (· rfl)) | exact k_faddr rfl | exact opA); (· rfl)) | fail)
              refine WKT.callV rfl rfl rfl (hc30 (i + 1 + k + 1) j (by omega) (by omega) (by omega) _ hG9) ?_
              rintro v10 H10 ⟨rfl, hG10, hk10, hn10⟩
              have hF10 := hF9.call (mod' := [kn, fn]) (fun q h1 h2 => hk10 q h1 (by simp at h2; exact h2.1) (by simp at h2; exact h2.2)) hn10 (fun k hk => .inl hk) hkfp
              repeat' (first | refine WKT.nil ?_ | ((first | apply WKT.op); (· first | exact k_mv rfl | exact k_catS rfl rfl (by simp only [List.length_append, List.length_cons, List.length_nil]; omega)); (· rfl)) | fail)
              refine ⟨fun q hq => ?_, fun j hj => (by cases hj), _, rfl, ?_⟩
              · have hq' : q = (13, [6], []) := by simpa using hq
                subst hq'
                refine ⟨_, _, _, _, nA j, rfl, rfl, rfl, xop_ld rfl (hF9.obj _ (.head _)) rfl, fun w hw => ?_⟩
                have hw' : w = 13 ∨ w = 6 ∨ w = 7 := by simpa using hw
                rcases hw' with rfl | rfl | rfl
                · exact ⟨_, rfl, xop_ld rfl (hF9.obj _ (.head _)) rfl⟩
                · exact ⟨_, rfl, xop_ld (H := H8) (n := 0) rfl (hF8.obj _ (.head _)) rfl⟩
                · exact ⟨_, rfl, xop_ld rfl (hF9.obj _ (.head _)) rfl⟩
              · have hcand : ([UInt8.ofNat 40] ++ fsF s rl gap (i + 1) (i + 1 + k) ++ [UInt8.ofNat 41] ++ fsF s rl gap (i + 1 + k + 1) j) = 40 :: (firstN (mayF s rl gap) k (i + 1) ++ 41 :: firstN (mayF s rl gap) (j - i - 2 - k) (i + 2 + k)) := by
                  unfold fsF
                  rw [show i + 1 + k - (i + 1) = k by omega, show j - (i + 1 + k + 1) = j - i - 2 - k by omega, show i + 1 + k + 1 = i + 2 + k by omega]
                  simp
                repeat' (first | refine WK.seq ?_ | refine WK.skip ?_ | (apply WK.reg; (· exact lnn)) | refine WKO.nil ?_ | ((first | apply WKO.op | ((first | apply WKO.gop); (· rfl); (· exact dcd))); (· first | exact k_mv rfl | exact k_emS rfl | exact opA); (· rfl)) | ((first | apply WKO.gnoF); (· rfl); (· exact dcd)) | ((first | apply WKO.gsp); (· rfl); all_goals ((fail_if_success (refine known ?_ ?_; (· assumption))); intro _)) | refine pN ?_ | refine bN ?_ | (apply WK.condT; (· rfl); (· exact dcd)) | (apply WK.condB; (· rfl); all_goals intro _) | fail)
                · rename_i hlt heq hem
                  refine hnext (hF10.up rfl (by first | exact le_b1 _ _ | exact le_b2 _ _ _ | exact le_b3 _ _ _ _)) (hG10.up (by first | exact le_b1 _ _ | exact le_b2 _ _ _ | exact le_b3 _ _ _ _) rfl rfl rfl) ?_ hlt (.cons rfl <| .cons rfl <| .cons rfl <| .cons rfl <| .nil _)
                  rw [firstP_succ, if_pos ⟨hm, hcond.1 heq⟩, hcand]
                  unfold better
                  rw [if_pos (.inl hem)]
                · rename_i hlt heq hem hbl
                  refine hnext (hF10.up rfl (by first | exact le_b1 _ _ | exact le_b2 _ _ _ | exact le_b3 _ _ _ _)) (hG10.up (by first | exact le_b1 _ _ | exact le_b2 _ _ _ | exact le_b3 _ _ _ _) rfl rfl rfl) ?_ hlt (.cons rfl <| .cons rfl <| .cons rfl <| .cons rfl <| .nil _)
                  rw [hcand] at hbl
                  rw [firstP_succ, if_pos ⟨hm, hcond.1 heq⟩, hcand]
                  unfold better
                  rw [if_pos (.inr hbl)]
                · rename_i hlt heq hem hbl
                  refine hnext (hF10.up rfl (by first | exact le_b1 _ _ | exact le_b2 _ _ _ | exact le_b3 _ _ _ _)) (hG10.up (by first | exact le_b1 _ _ | exact le_b2 _ _ _ | exact le_b3 _ _ _ _) rfl rfl rfl) ?_ hlt (.cons rfl <| .cons rfl <| .cons rfl <| .cons rfl <| .nil _)
                  rw [hcand] at hbl
                  rw [firstP_succ, if_pos ⟨hm, hcond.1 heq⟩]
                  unfold better
                  rw [if_neg (by rw [hbl]; simp [hem])]
            · rename_i hlt hne'
              refine hnext (hF8.up rfl (by first | exact le_b1 _ _ | exact le_b2 _ _ _ | exact le_b3 _ _ _ _)) (hGF8.up (by first | exact le_b1 _ _ | exact le_b2 _ _ _ | exact le_b3 _ _ _ _) rfl rfl rfl) ?_ hlt (.cons rfl <| .cons rfl <| .cons rfl <| .cons rfl <| .nil _)
              rw [firstP_succ, if_neg (fun w => hne' (hcond.2 w.2))]
      · rename_i hlt hem
        have hk : k = j - i - 1 := by omega
        have hfs := firstN_pos (mayF s rl gap) (n := j - i) (i := i) (by omega)
        rw [← hk, if_pos hem] at hfs
        have hw : [UInt8.ofNat 46] ++ fsF s rl gap (i + 1) j = fsF s rl gap i j := by
          unfold fsF
          rw [hfs, show j - (i + 1) = k by omega]
          rfl
        refine WKO.callV rfl rfl rfl (hc30 (i + 1) j (by omega) hj (by omega) _ (hG4.up (by simp only [next_bump]; omega) rfl rfl rfl)) ?_
        rintro v5 H5 ⟨rfl, hG5, hk5, hn5⟩
        have hF5 := (hF4.up (H' := ((H4.bump 4).bump 2).bump 10) rfl (by simp only [next_bump]; omega)).call (mod' := [kn, fn]) (fun q h1 h2 => hk5 q h1 (by simp at h2; exact h2.1) (by simp at h2; exact h2.2)) hn5 (fun k hk => .inl hk) hkfp
        have hl1 := fsF_len (s := s) (rl := rl) (gap := gap) (i + 1) j
        repeat' (first | refine WK.seq ?_ | (apply WK.regd0; (· exact lnn)) | refine WKO.nil ?_ | ((first | apply WKO.op); (· first | exact k_mv rfl | exact k_catS rfl rfl (by simp only [List.length_append, List.length_cons, List.length_nil]; omega)); (· rfl)) | refine pN ?_ | fail)
        obtain ⟨es4, he4, hm4⟩ := hG5.f
        obtain ⟨es5, hu5, hin5⟩ := upd_memo (u := .str ([UInt8.ofNat 46] ++ fsF s rl gap (i + 1) j)) (i := i) (j := j) (hm4.keys hsl)
        repeat' (first | ((first | apply WKO.op); (· first | exact k_mv rfl | exact k_ld0 rfl hG5.g.r rfl h19 | (apply k_ldA; (· rfl); (· exact hF5); (· rfl); (· exact .head _); (· rfl)) | exact k_faddr rfl | exact k_nilc rfl); (· rfl)) | fail)
        refine WKO.opn (k_upd0 rfl rfl rfl he4 rfl hkP hu5) rfl ?_
        repeat' (first | refine WK.seq ?_ | refine WK.ret ?_ | (apply WK.reg; (· exact lnn)) | refine WKO.nil ?_ | ((first | apply WKO.op); (· first | exact k_mv rfl); (· rfl)) | refine pN ?_ | fail)
        have hn0 : H.next ≤ H5.next := Nat.le_trans hF5.base hF5.le
        refine ⟨fun id q => (by cases q), _, rfl, by rw [← hw]; rfl, ?_, fun q h1 h2 h3 => ?_, by simp only [next_bump, next_set]; omega⟩
        · refine ⟨hG5.g.up _ _ _ _ _ _ (by simp only [next_bump, next_set]; omega) ?_ ?_, ⟨es5, ?_, fun e he => ?_⟩, by simp only [next_bump, next_set]; have := hG5.fnl; omega⟩
          · simp only [get_bump]
            rw [AHeap.get_set, if_neg (fun e => hP.fR e.symm)]
            simp only [get_bump]
          · simp only [get_bump]
            rw [AHeap.get_set, if_neg (fun e => hP.fk e.symm)]
            simp only [get_bump]
          · simp only [get_bump]
            rw [AHeap.get_set, if_pos rfl]
          · rcases hin5 e he with r | r
            · exact ⟨i, j, hij, hj, by rw [r, hw]⟩
            · exact hm4 e r
        · simp only [get_bump]
          rw [AHeap.get_set, if_neg h3]
          simp only [get_bump]
          exact hF5.fr q h1 (by simp [h2, h3])
      · rename_i hlt hem
        have hk : k = j - i - 1 := by omega
        have hfs := firstN_pos (mayF s rl gap) (n := j - i) (i := i) (by omega)
        rw [← hk, if_neg hem] at hfs
        have hw : firstP (mayF s rl gap) (j - i) i k = fsF s rl gap i j := by
          unfold fsF
          rw [hfs]
        obtain ⟨es4, he4, hm4⟩ := hG4.f
        obtain ⟨es5, hu5, hin5⟩ := upd_memo (u := .str (firstP (mayF s rl gap) (j - i) i k)) (i := i) (j := j) (hm4.keys hsl)
        repeat' (first | ((first | apply WKO.op); (· first | exact k_mv rfl | exact k_ld0 rfl hG4.g.r rfl h19 | (apply k_ldA; (· rfl); (· exact hF4); (· rfl); (· exact .head _); (· rfl))); (· rfl)) | fail)
        refine WKO.opn (k_upd0 rfl rfl rfl he4 rfl hkP hu5) rfl ?_
        repeat' (first | refine WK.seq ?_ | refine WK.ret ?_ | (apply WK.reg; (· exact lnn)) | refine WKO.nil ?_ | ((first | apply WKO.op); (· first | exact k_mv rfl); (· rfl)) | refine pN ?_ | fail)
        have hn0 : H.next ≤ H4.next := Nat.le_trans hF4.base hF4.le
        refine ⟨fun id q => (by cases q), _, rfl, by rw [← hw]; rfl, ?_, fun q h1 h2 h3 => ?_, by simp only [next_bump, next_set]; omega⟩
        · refine ⟨hG4.g.up _ _ _ _ _ _ (by simp only [next_bump, next_set]; omega) ?_ ?_, ⟨es5, ?_, fun e he => ?_⟩, by simp only [next_bump, next_set]; have := hG4.fnl; omega⟩
          · simp only [get_bump]
            rw [AHeap.get_set, if_neg (fun e => hP.fR e.symm)]
            simp only [get_bump]
          · simp only [get_bump]
            rw [AHeap.get_set, if_neg (fun e => hP.fk e.symm)]
            simp only [get_bump]
          · simp only [get_bump]
            rw [AHeap.get_set, if_pos rfl]
          · rcases hin5 e he with r | r
            · exact ⟨i, j, hij, hj, by rw [r, hw]⟩
            · exact hm4 e r
        · simp only [get_bump]
          rw [AHeap.get_set, if_neg h3]
          simp only [get_bump]
          exact hF4.fr q h1 (by simp [h2, h3])
  · obtain ⟨i', j', _, _, e⟩ := hmo _ (List.mem_of_getElem? hkk)
    obtain ⟨e1, e2⟩ := Prod.mk.injEq _ _ _ _ ▸ e
    obtain ⟨rfl, rfl⟩ := keyP_inj e1
    subst e2
    repeat' (first | refine WK.seq ?_ | refine WK.skip ?_ | refine WK.ret ?_ | (apply WK.reg; (· exact lnn)) | (apply WK.regC; (· rfl); (· exact lnn); (· decide)) | (apply WKO.boxO; (· rfl); (· assumption); (· rfl); (· exact nxx); (· exact nxx); (· exact nxx); intro _ _ _) | refine WKC.nil ?_ | refine WKO.nil ?_ | ((first | apply WKC.op | apply WKO.op); (· first | exact k_mv rfl | (apply k_ldF; (· rfl); (· assumption); (· rfl); (· exact hR); (· exact hG.g.rn); (· simp); (· exact h19)) | (apply k_lookF; (· rfl); (· rfl); (· assumption); (· rfl); (· exact hes); (· exact hG.fnl); (· simp); (· exact hkP); (· exact hfm)) | (apply k_ldO; (· rfl); (· assumption); (· rfl); (· exact mmb); (· rfl)) | (apply k_ldA; (· rfl); (· assumption); (· rfl); (· exact mmb); (· first | rfl)) | exact k_faddr rfl | exact k_nilc rfl | exact opA); (· rfl)) | refine pN ?_ | refine pR ?_ | (apply WK.condT; (· rfl); (· exact dcd)) | (apply WK.condD; (· rfl); all_goals intro _) | fail)
    · rename_i H1 hF1 hn1 hlt
      have hn' : H.next ≤ H1.next := Nat.le_trans hF1.base hF1.le
      refine ⟨fun id q => (by cases q), _, rfl, ?_, hG.up (by simp only [next_bump]; omega) (hF1.fr R hG.g.rn (by simp)) (hF1.fr kn hG.g.kn (by simp)) (hF1.fr fn hG.fnl (by simp)), fun q h1 _ _ => hF1.fr q h1 (by simp), by simp only [next_bump]; omega⟩
      show AV.str [] = .str (fsF s rl gap i j)
      unfold fsF
      rw [show j - i = 0 by omega, firstN_zero]
    · rename_i H1 hF1 hn1 hne
      have hn' : H.next ≤ H1.next := Nat.le_trans hF1.base hF1.le
      exact ⟨fun id q => (by cases q), _, rfl, rfl, hG.up (by simp only [next_bump]; omega) (hF1.fr R hG.g.rn (by simp)) (hF1.fr kn hG.g.kn (by simp)) (hF1.fr fn hG.fnl (by simp)), fun q h1 _ _ => hF1.fr q h1 (by simp), by simp only [next_bump]; omega⟩
end
end Go.Proofs.YtfcgofffalmdfaaGreatDoor.PA
namespace Go.Proofs.YtfcgofffalmdfaaGreatDoor.PA
open Go Go.Eng
theorem K0_ok : ∀ k, CFok Tryz.prog (xcallK K0 F 2000 k) := xcallK_sound (by kernel_rfl) Tryz.sortK_ok F_ok 2000
end Go.Proofs.YtfcgofffalmdfaaGreatDoor.PA
