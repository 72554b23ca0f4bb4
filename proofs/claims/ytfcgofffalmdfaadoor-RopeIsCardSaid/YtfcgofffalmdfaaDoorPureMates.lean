/- The reference's partners, and the pairs in order, in plain Lean. No condition. -/
import Derived.Test.YtfcgofffalmdfaaDoorPAx3
import Derived.Test.YtfcgofffalmdfaaDoorHand
set_option linter.unusedSimpArgs false
set_option linter.unusedVariables false
namespace Go.Proofs.YtfcgofffalmdfaaDoor.Pure
open Go Go.Eng Go.RowKit Go.Proofs.YtfcgofffalmdfaaDoor.PA Go.Proofs.YtfcgofffalmdfaaDoorW.PrintWords Go.Proofs.YtfcgofffalmdfaaDoorW.PrintLast Go.Proofs.YtfcgofffalmdfaaDoorW.PrintMore
def comps (out : List (Nat × Nat)) : List Nat := (out.map fun p => [p.1, p.2]).flatten
theorem comps_app (out : List (Nat × Nat)) (p : Nat × Nat) : comps (out ++ [p]) = comps out ++ [p.1, p.2] := by simp [comps]
theorem mem_comps {out : List (Nat × Nat)} {x : Nat} : x ∈ comps out ↔ ∃ p ∈ out, x = p.1 ∨ x = p.2 := by
  simp only [comps, List.mem_flatten, List.mem_map]
  constructor
  · rintro ⟨l, ⟨p, hp, rfl⟩, hx⟩
    exact ⟨p, hp, by simpa using hx⟩
  · rintro ⟨p, hp, hx⟩
    exact ⟨_, ⟨p, hp, rfl⟩, by simpa using hx⟩
structure SInv (i : Nat) (op : List Nat) (out : List (Nat × Nat)) : Prop where
  opl : ∀ a ∈ op, a < i
  outl : ∀ x ∈ comps out, x < i
  nd : (op ++ comps out).Nodup
  lt : ∀ p ∈ out, p.1 < p.2
theorem SInv.start : SInv 0 [] [] := ⟨fun a h => (by cases h), fun a h => (by cases h), (by simp [comps]), fun a h => (by cases h)⟩
theorem SInv.push {i : Nat} {op : List Nat} {out : List (Nat × Nat)} (h : SInv i op out) : SInv (i + 1) (op ++ [i]) out := by
  refine ⟨fun a ha => ?_, fun x hx => Nat.lt_succ_of_lt (h.outl x hx), ?_, h.lt⟩
  · rcases List.mem_append.1 ha with q | q
    · have := h.opl a q; omega
    · simp only [List.mem_singleton] at q; omega
  · rw [List.append_assoc]
    show (op ++ (i :: comps out)).Nodup
    rw [List.perm_middle.nodup_iff, List.nodup_cons]
    refine ⟨fun q => ?_, h.nd⟩
    rcases List.mem_append.1 q with q | q
    · have := h.opl i q; omega
    · have := h.outl i q; omega
theorem SInv.point {i : Nat} {op : List Nat} {out : List (Nat × Nat)} (h : SInv i op out) : SInv (i + 1) op out :=
  ⟨fun a ha => Nat.lt_succ_of_lt (h.opl a ha), fun x hx => Nat.lt_succ_of_lt (h.outl x hx), h.nd, h.lt⟩
theorem last_split {op : List Nat} {a : Nat} (ha : op.getLast? = some a) : op.dropLast ++ [a] = op := by
  have hne : op ≠ [] := fun e => by rw [e] at ha; cases ha
  rw [List.getLast?_eq_some_getLast hne] at ha
  cases ha
  exact List.dropLast_concat_getLast hne
theorem SInv.pop {i a : Nat} {op : List Nat} {out : List (Nat × Nat)} (h : SInv i op out) (ha : op.getLast? = some a) : SInv (i + 1) op.dropLast (out ++ [(a, i)]) := by
  have hop := last_split ha
  have hai : a < i := h.opl a (by rw [← hop]; simp)
  refine ⟨fun x hx => Nat.lt_succ_of_lt (h.opl x (List.dropLast_subset op hx)), fun x hx => ?_, ?_, fun p hp => ?_⟩
  · rw [comps_app] at hx
    rcases List.mem_append.1 hx with q | q
    · have := h.outl x q; omega
    · simp only [List.mem_cons, List.not_mem_nil, or_false] at q; omega
  · rw [comps_app]
    have hp : (op.dropLast ++ (comps out ++ [a, i])).Perm (i :: (op ++ comps out)) := by
      have e1 : (op.dropLast ++ (comps out ++ [a, i])).Perm (op.dropLast ++ ([a, i] ++ comps out)) := List.Perm.append_left _ List.perm_append_comm
      have e2 : op.dropLast ++ ([a, i] ++ comps out) = (op.dropLast ++ [a]) ++ (i :: comps out) := by simp
      rw [e2, hop] at e1
      exact e1.trans List.perm_middle
    rw [hp.nodup_iff, List.nodup_cons]
    refine ⟨fun q => ?_, h.nd⟩
    rcases List.mem_append.1 q with q | q
    · have := h.opl i q; omega
    · have := h.outl i q; omega
  · rcases List.mem_append.1 hp with q | q
    · exact h.lt p q
    · simp only [List.mem_singleton] at q; subst q; exact hai
theorem scan_facts : ∀ (r : List UInt8) (i : Nat) (op : List Nat) (out : List (Nat × Nat)) (d : Nat) (op' : List Nat) (outF : List (Nat × Nat)) (dF : Nat), scanL r i op out d = some (op', outF, dF) → SInv i op out →
    SInv (i + r.length) op' outF ∧ (∀ p ∈ out, p ∈ outF) ∧ (∀ x ∈ comps outF, x ∈ comps out ∨ x ∈ op ∨ i ≤ x) ∧ (op' = [] → ∀ a ∈ op, ∃ j, i ≤ j ∧ (a, j) ∈ outF)
  | [], i, op, out, d, op', outF, dF, h, I => by
    simp only [scanL, Option.some.injEq, Prod.mk.injEq] at h
    obtain ⟨rfl, rfl, rfl⟩ := h
    exact ⟨I, fun p hp => hp, fun x hx => .inl hx, fun e a ha => by rw [e] at ha; cases ha⟩
  | b :: r, i, op, out, d, op', outF, dF, h, I => by
    simp only [scanL] at h
    simp only [List.length_cons]
    split at h
    · obtain ⟨q1, q2, q3, q4⟩ := scan_facts r (i + 1) _ _ _ _ _ _ h I.push
      refine ⟨by rw [show i + (r.length + 1) = i + 1 + r.length by omega]; exact q1, q2, fun x hx => ?_, fun e a ha => ?_⟩
      · rcases q3 x hx with q | q | q
        · exact .inl q
        · rcases List.mem_append.1 q with q | q
          · exact .inr (.inl q)
          · simp only [List.mem_singleton] at q; exact .inr (.inr (by omega))
        · exact .inr (.inr (by omega))
      · obtain ⟨j, h1, h2⟩ := q4 e a (List.mem_append_left _ ha)
        exact ⟨j, by omega, h2⟩
    · split at h
      · split at h
        · cases h
        · rename_i a ha
          obtain ⟨q1, q2, q3, q4⟩ := scan_facts r (i + 1) _ _ _ _ _ _ h (I.pop ha)
          have hop := last_split ha
          refine ⟨by rw [show i + (r.length + 1) = i + 1 + r.length by omega]; exact q1, fun p hp => q2 p (List.mem_append_left _ hp), fun x hx => ?_, fun e x hx => ?_⟩
          · rcases q3 x hx with q | q | q
            · rw [comps_app] at q
              rcases List.mem_append.1 q with q | q
              · exact .inl q
              · simp only [List.mem_cons, List.not_mem_nil, or_false] at q
                rcases q with q | q
                · exact .inr (.inl (by rw [← hop, q]; simp))
                · exact .inr (.inr (by omega))
            · exact .inr (.inl (List.dropLast_subset op q))
            · exact .inr (.inr (by omega))
          · rw [← hop] at hx
            rcases List.mem_append.1 hx with q | q
            · obtain ⟨j, h1, h2⟩ := q4 e x q
              exact ⟨j, by omega, h2⟩
            · simp only [List.mem_singleton] at q
              subst q
              exact ⟨i, Nat.le_refl _, q2 _ (by simp)⟩
      · split at h
        · obtain ⟨q1, q2, q3, q4⟩ := scan_facts r (i + 1) _ _ _ _ _ _ h I.point
          refine ⟨by rw [show i + (r.length + 1) = i + 1 + r.length by omega]; exact q1, q2, fun x hx => ?_, fun e a ha => ?_⟩
          · rcases q3 x hx with q | q | q
            · exact .inl q
            · exact .inr (.inl q)
            · exact .inr (.inr (by omega))
          · obtain ⟨j, h1, h2⟩ := q4 e a ha
            exact ⟨j, by omega, h2⟩
        · cases h
/-! ### the reference's partners -/
def MP (out : List (Nat × Nat)) (m : List Int) : Prop := ∀ k, k < m.length → (∃ j, (k, j) ∈ out ∧ m[k]? = some (j : Int)) ∨ (∃ a, (a, k) ∈ out ∧ m[k]? = some (a : Int)) ∨ (k ∉ comps out ∧ m[k]? = some (-1))
theorem MP.grow {i : Nat} {op : List Nat} {out : List (Nat × Nat)} {m : List Int} (I : SInv i op out) (hl : m.length = i) (h : MP out m) : MP out (m ++ [-1]) := by
  intro k hk
  simp only [List.length_append, List.length_cons, List.length_nil] at hk
  by_cases e : k = i
  · refine .inr (.inr ⟨fun q => by have := I.outl k q; omega, ?_⟩)
    rw [List.getElem?_append_right (by omega)]
    simp [hl, e]
  · rcases h k (by omega) with ⟨j, q1, q2⟩ | ⟨j, q1, q2⟩ | ⟨q1, q2⟩
    · exact .inl ⟨j, q1, by rw [List.getElem?_append_left (by omega)]; exact q2⟩
    · exact .inr (.inl ⟨j, q1, by rw [List.getElem?_append_left (by omega)]; exact q2⟩)
    · exact .inr (.inr ⟨q1, by rw [List.getElem?_append_left (by omega)]; exact q2⟩)
theorem MP.pair {i a : Nat} {op : List Nat} {out : List (Nat × Nat)} {m : List Int} (I : SInv i op out) (ha : a < i) (hl : m.length = i) (h : MP out m) : MP (out ++ [(a, i)]) (((m ++ [-1]).set a (i : Int)).set i (a : Int)) := by
  intro k hk
  simp only [List.length_set, List.length_append, List.length_cons, List.length_nil] at hk
  by_cases e : k = i
  · subst e
    exact .inr (.inl ⟨a, by simp, by rw [List.getElem?_set_self (by simp; omega)]⟩)
  · by_cases e2 : k = a
    · subst e2
      exact .inl ⟨i, by simp, by rw [List.getElem?_set_ne (by omega), List.getElem?_set_self (by simp; omega)]⟩
    · have hm : (((m ++ [-1]).set a (i : Int)).set i (a : Int))[k]? = m[k]? := by
        rw [List.getElem?_set_ne (by omega), List.getElem?_set_ne (by omega), List.getElem?_append_left (by omega)]
      rw [hm]
      rcases h k (by omega) with ⟨j, q1, q2⟩ | ⟨j, q1, q2⟩ | ⟨q1, q2⟩
      · exact .inl ⟨j, List.mem_append_left _ q1, q2⟩
      · exact .inr (.inl ⟨j, List.mem_append_left _ q1, q2⟩)
      · refine .inr (.inr ⟨fun q => ?_, q2⟩)
        rw [comps_app] at q
        rcases List.mem_append.1 q with q | q
        · exact q1 q
        · simp only [List.mem_cons, List.not_mem_nil, or_false] at q; omega
theorem wr (n : Nat) (h : n ≤ 1000) : wrap64 ((n : Int) + 1) = ((n + 1 : Nat) : Int) := by unfold wrap64; omega
theorem bt_of {s : ByteArray} {i : Nat} {b : UInt8} (h : s.data.toList[i]? = some b) : bt s (i : Int) = (b.toNat : Int) := by
  have hi : i < s.data.toList.length := by
    rcases Nat.lt_or_ge i s.data.toList.length with q | q
    · exact q
    · rw [List.getElem?_eq_none q] at h; cases h
  have hs : i < s.size := by simpa using hi
  unfold bt
  rw [Int.toNat_natCast, dif_pos hs]
  have : s[i] = b := by
    rw [List.getElem?_eq_getElem hi] at h
    cases h
    rfl
  rw [this]
theorem rd_of {m : List Int} {i : Nat} {v : Int} (h : m[i]? = some v) : rd m (i : Int) = v := by
  unfold rd
  rw [Int.toNat_natCast, List.getD_eq_getElem?_getD, h]
  rfl
def castL (l : List Nat) : List Int := l.map fun (n : Nat) => (n : Int)
theorem b40 {b : UInt8} : ((b.toNat : Int) = 40) ↔ b = 40 := by
  constructor
  · intro h; exact UInt8.toNat_inj.1 (by show b.toNat = 40; omega)
  · rintro rfl; rfl
theorem b41 {b : UInt8} : ((b.toNat : Int) = 41) ↔ b = 41 := by
  constructor
  · intro h; exact UInt8.toNat_inj.1 (by show b.toNat = 41; omega)
  · rintro rfl; rfl
theorem b46 {b : UInt8} : ((b.toNat : Int) = 46) ↔ b = 46 := by
  constructor
  · intro h; exact UInt8.toNat_inj.1 (by show b.toNat = 46; omega)
  · rintro rfl; rfl
theorem mates_l0 (s : ByteArray) (hs : s.size ≤ 1000) : ∀ (r : List UInt8) (i : Nat) (op : List Nat) (out : List (Nat × Nat)) (d : Nat) (m : List Int) (k : Nat), s.data.toList.drop i = r → i + r.length = s.size → SInv i op out → op.length ≤ i → m.length = i → MP out m → r.length < k →
    match scanL r i op out d with
    | none => ∃ m', woggleref03_Mates.l0 k s m (castL op) i = some (m', false)
    | some (op', outF, dF) => ∃ m', woggleref03_Mates.l0 k s m (castL op) i = some (m', op'.length == 0) ∧ m'.length = s.size ∧ MP outF m' := by
  intro r
  induction r with
  | nil =>
    intro i op out d m k hr hi I hop hm hM hk
    obtain ⟨k, rfl⟩ : ∃ q, k = q + 1 := ⟨k - 1, by omega⟩
    simp only [List.length_nil] at hi
    simp only [scanL]
    refine ⟨m, ?_, by omega, hM⟩
    simp only [woggleref03_Mates.l0]
    rw [if_neg (by omega)]
    congr 2
    simp only [castL, List.length_map]
    rw [Bool.eq_iff_iff, beq_iff_eq, beq_iff_eq]
    omega
  | cons b r ih =>
    intro i op out d m k hr hi I hop hm hM hk
    obtain ⟨k, rfl⟩ : ∃ q, k = q + 1 := ⟨k - 1, by omega⟩
    simp only [List.length_cons] at hi hk
    have hbx : s.data.toList[i]? = some b := by
      have : (s.data.toList.drop i)[0]? = some b := by rw [hr]; rfl
      rwa [List.getElem?_drop, Nat.add_zero] at this
    have hr' : s.data.toList.drop (i + 1) = r := by
      have : (s.data.toList.drop i).drop 1 = r := by rw [hr]; rfl
      rwa [List.drop_drop] at this
    have hbt := bt_of hbx
    have hcl : (castL op).length = op.length := by simp [castL]
    simp only [scanL]
    by_cases h40 : b = 40
    · rw [if_pos h40]
      have := ih (i + 1) (op ++ [i]) out (max d (op.length + 1)) (m ++ [-1]) k hr' (by omega) I.push (by simp; omega) (by simp; omega) (MP.grow I hm hM) (by omega)
      have e : woggleref03_Mates.l0 (k + 1) s m (castL op) i = woggleref03_Mates.l0 k s (m ++ [-1]) (castL (op ++ [i])) ((i + 1 : Nat) : Int) := by
        simp only [woggleref03_Mates.l0]
        rw [if_pos (by omega), if_pos (by omega)]
        simp only [Option.bind_some]
        rw [if_pos (by omega), hbt, if_pos (b40.2 h40), if_pos (by simp [hcl]; omega), if_pos (by simp [hcl]; omega), wr i (by omega)]
        simp [castL]
      rw [e]
      exact this
    · rw [if_neg h40]
      have n40 : ¬ ((b.toNat : Int) = 40) := fun q => h40 (b40.1 q)
      by_cases h41 : b = 41
      · rw [if_pos h41]
        by_cases h0 : op = []
        · subst h0
          refine ⟨[], ?_⟩
          simp only [woggleref03_Mates.l0]
          rw [if_pos (by omega), if_pos (by omega)]
          simp only [Option.bind_some]
          rw [if_pos (by omega), hbt, if_neg n40, if_pos (b41.2 h41), if_pos (by rfl)]
        · have hpos : 0 < op.length := List.length_pos_iff.2 h0
          obtain ⟨a, ha⟩ : ∃ a, op.getLast? = some a := ⟨_, List.getLast?_eq_some_getLast h0⟩
          rw [ha]
          have hai : a < i := I.opl a (by rw [← last_split ha]; simp)
          have hla : op[op.length - 1]? = some a := by rw [← List.getLast?_eq_getElem?]; exact ha
          have hw : wrap64 (((castL op).length : Int) - 1) = ((op.length - 1 : Nat) : Int) := by rw [hcl]; unfold wrap64; omega
          have hrd : rd (castL op) ((op.length - 1 : Nat) : Int) = (a : Int) := rd_of (by simp [castL, hla])
          have := ih (i + 1) op.dropLast (out ++ [(a, i)]) d (((m ++ [-1]).set a (i : Int)).set i (a : Int)) k hr' (by omega) (I.pop ha) (by simp; omega) (by simp; omega) (MP.pair I hai hm hM) (by omega)
          have e : woggleref03_Mates.l0 (k + 1) s m (castL op) i = woggleref03_Mates.l0 k s (((m ++ [-1]).set a (i : Int)).set i (a : Int)) (castL op.dropLast) ((i + 1 : Nat) : Int) := by
            simp only [woggleref03_Mates.l0]
            rw [if_pos (by omega), if_pos (by omega)]
            simp only [Option.bind_some]
            rw [if_pos (by omega), hbt, if_neg n40, if_pos (b41.2 h41), if_neg (by rw [hcl]; omega), hw, if_pos (by omega), if_pos (by rw [hcl]; omega), if_pos (by rw [hcl]; omega), hrd, if_pos (by simp [hcl]; omega), if_pos (by omega), if_pos (by simp; omega), if_pos (by simp; omega), wr i (by omega)]
            simp only [Int.toNat_natCast, List.nil_append]
            congr 1
            rw [List.dropLast_eq_take]
            simp [castL, List.map_take]
          rw [e]
          exact this
      · rw [if_neg h41]
        have n41 : ¬ ((b.toNat : Int) = 41) := fun q => h41 (b41.1 q)
        by_cases h46 : b = 46
        · rw [if_pos h46]
          have := ih (i + 1) op out d (m ++ [-1]) k hr' (by omega) I.point (by omega) (by simp; omega) (MP.grow I hm hM) (by omega)
          have e : woggleref03_Mates.l0 (k + 1) s m (castL op) i = woggleref03_Mates.l0 k s (m ++ [-1]) (castL op) ((i + 1 : Nat) : Int) := by
            simp only [woggleref03_Mates.l0]
            rw [if_pos (by omega), if_pos (by omega)]
            simp only [Option.bind_some]
            rw [if_pos (by omega), hbt, if_neg n40, if_neg n41, if_pos (b46.2 h46), wr i (by omega)]
          rw [e]
          exact this
        · rw [if_neg h46]
          have n46 : ¬ ((b.toNat : Int) = 46) := fun q => h46 (b46.1 q)
          refine ⟨[], ?_⟩
          simp only [woggleref03_Mates.l0]
          rw [if_pos (by omega), if_pos (by omega)]
          simp only [Option.bind_some]
          rw [if_pos (by omega), hbt, if_neg n40, if_neg n41, if_neg n46]
/-! ### the law's list of pairs -/
def wantP (m : List Int) (i : Nat) : List (Int × Int) := ((List.range i).filter fun (k : Nat) => decide ((k : Int) < rd m (k : Int))).map fun (k : Nat) => ((k : Int), rd m (k : Int))
theorem want_sorted {m : List Int} {outF : List (Nat × Nat)} {n : Nat} (hm : m.length = n) (hM : MP outF m) (hF : SInv n [] outF) : wantP m n = sortP (outF.map castP) := by
  have nd : (comps outF).Nodup := by simpa using hF.nd
  have hfst : (outF.map (·.1)).Nodup := by
    clear hM hF hm
    induction outF with
    | nil => simp
    | cons p l ih =>
      have hc : comps (p :: l) = p.1 :: p.2 :: comps l := by simp [comps]
      rw [hc, List.nodup_cons, List.nodup_cons] at nd
      rw [List.map_cons, List.nodup_cons]
      refine ⟨fun q => ?_, ih nd.2.2⟩
      obtain ⟨x, hx, e⟩ := List.mem_map.1 q
      exact nd.1 (List.mem_cons_of_mem _ (mem_comps.2 ⟨x, hx, .inl e.symm⟩))
  have hpw : (wantP m n).Pairwise fun x y => x.1 < y.1 := by
    unfold wantP
    rw [List.pairwise_map]
    refine List.Pairwise.filter _ ?_
    refine List.pairwise_lt_range.imp ?_
    intro a b h
    simp only
    omega
  refine sortP_unique (apartP_of _ hfst) ?_ (hpw.imp fun {a b} h => by omega)
  have hnd1 : (wantP m n).Nodup := hpw.imp fun {a b} h e => by rw [e] at h; omega
  have hnd2 : (outF.map castP).Nodup := by
    have := apartP_of _ hfst
    generalize outF.map castP = l at this
    induction l with
    | nil => simp
    | cons p l ih =>
      simp only [apartP, Bool.and_eq_true, List.all_eq_true, bne_iff_ne] at this
      rw [List.nodup_cons]
      exact ⟨fun q => this.1 p q rfl, ih this.2⟩
  refine (List.perm_ext_iff_of_nodup hnd1 hnd2).2 fun x => ?_
  constructor
  · intro hx
    unfold wantP at hx
    obtain ⟨k, hk, rfl⟩ := List.mem_map.1 hx
    obtain ⟨hk1, hk2⟩ := List.mem_filter.1 hk
    rw [List.mem_range] at hk1
    simp only [decide_eq_true_eq] at hk2
    rcases hM k (by omega) with ⟨j, q1, q2⟩ | ⟨a, q1, q2⟩ | ⟨q1, q2⟩
    · rw [rd_of q2]
      exact List.mem_map.2 ⟨_, q1, rfl⟩
    · rw [rd_of q2] at hk2
      have := hF.lt _ q1
      simp only at this
      omega
    · rw [rd_of q2] at hk2
      omega
  · intro hx
    obtain ⟨⟨a, j⟩, hp, rfl⟩ := List.mem_map.1 hx
    have hlt := hF.lt _ hp
    simp only at hlt
    have han : a < n := hF.outl a (mem_comps.2 ⟨_, hp, .inl rfl⟩)
    unfold wantP
    -- what stands at a
    have hav : m[a]? = some (j : Int) := by
      rcases hM a (by omega) with ⟨j', q1, q2⟩ | ⟨a', q1, q2⟩ | ⟨q1, q2⟩
      · have : (a, j') = (a, j) := by
          have h1 := apartP_inj (apartP_of _ hfst) (castP (a, j')) (List.mem_map.2 ⟨_, q1, rfl⟩) (castP (a, j)) (List.mem_map.2 ⟨_, hp, rfl⟩) rfl
          simp only [castP, Prod.mk.injEq] at h1
          have : j' = j := by omega
          rw [this]
        cases this
        exact q2
      · exfalso
        have hlt2 := hF.lt _ q1
        obtain ⟨l1, l2, e⟩ := List.append_of_mem hp
        rw [e] at nd q1
        have hc : comps (l1 ++ (a, j) :: l2) = comps l1 ++ (a :: j :: comps l2) := by simp [comps]
        rw [hc, List.perm_middle.nodup_iff, List.nodup_cons] at nd
        rcases List.mem_append.1 q1 with q | q
        · exact nd.1 (List.mem_append_left _ (mem_comps.2 ⟨_, q, .inr rfl⟩))
        · rcases List.mem_cons.1 q with q | q
          · cases q; simp at hlt2
          · exact nd.1 (List.mem_append_right _ (List.mem_cons_of_mem _ (mem_comps.2 ⟨_, q, .inr rfl⟩)))
      · exact (q1 (mem_comps.2 ⟨_, hp, .inl rfl⟩)).elim
    refine List.mem_map.2 ⟨a, List.mem_filter.2 ⟨List.mem_range.2 han, ?_⟩, ?_⟩
    · rw [rd_of hav]
      simp only [decide_eq_true_eq]
      omega
    · rw [rd_of hav]
      rfl
end Go.Proofs.YtfcgofffalmdfaaDoor.Pure
