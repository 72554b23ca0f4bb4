/- The rows of NewsRounds, NewsCentres and NewsValids in one world. No condition. -/
import Derived.Test.YtpbighinamljbaaJF
import Derived.Test.YtpbighinamljbaaJE
import Derived.OpenShut
import Derived.Deep.SlicePairs
import Derived.Test.YtpbighinamljbaaRows
import Derived.ProofKit
import Derived.LaidMore
import Derived.Lay
import Derived.SizedLaws
import Derived.Carry
set_option linter.unusedSectionVars false
set_option linter.unusedVariables false
set_option linter.unusedSimpArgs false
namespace Go.Proofs.Ytpbighinamljbaa.PA
open Go Go.Eng Go.Proofs
theorem membS (n m : Nat) : memb (n + 1) m = memb n m ++ if m.testBit n = true then [n] else [] := by
  unfold memb
  rw [List.range_succ, List.filter_append]
  congr 1
  rw [List.filter_cons, List.filter_nil]
theorem memb_len (n m : Nat) : (memb n m).length ≤ n := by
  unfold memb
  exact Nat.le_trans (List.length_filter_le ..) (by simp)
theorem memb_all {m i : Nat} (h : m >>> i = 0) (hi : i ≤ 10) : memb i m = memb 10 m := by
  have hz : ∀ j, i ≤ j → m.testBit j = false := fun j hj => by
    rw [Nat.testBit_lt_two_pow]
    rw [Nat.shiftRight_eq_div_pow] at h
    have h1 : m < 2 ^ i := by
      rcases Nat.lt_or_ge m (2 ^ i) with q | q
      · exact q
      · have := Nat.div_pos q (Nat.two_pow_pos i)
        omega
    exact Nat.lt_of_lt_of_le h1 (Nat.pow_le_pow_right (n := 2) (by omega) hj)
  have : ∀ d, i + d ≤ 10 → memb (i + d) m = memb i m := by
    intro d
    induction d with
    | zero => intro _; rfl
    | succ d ih =>
      intro hd
      rw [← Nat.add_assoc, membS, ih (by omega), hz _ (by omega)]
      simp
  have := this (10 - i) (by omega)
  rw [← this, show i + (10 - i) = 10 by omega]
def MemR (H0 : AHeap) (m : Nat) (v : AV) (H' : AHeap) : Prop := RowE 1 H' v (memb 10 m).length ((memb 10 m).map nA) ∧ (∀ j, v.own = some j → H0.next ≤ j) ∧ Kp H0 H'
theorem WKO.appendN {cf : CF} {n d1 d2 a : Nat} {H0 H : AHeap} {K : KL0} {x y : XO} {r : List XOper} {R : KL0 → AHeap → Prop} {L : AV} {p : List Nat} {m : Nat} {z0 : AV} (hR : RowE 1 H L m (p.map nA)) (hm : p.length = m) (hx : evK K x = some (nA a)) (hy : evK ((d1, .sl n 0 1 1) :: K) y = some L) (hl : m < 2000) (hn : n < H.next) (hn0 : H0.next ≤ n) (hf : L.own ≠ some n) (ho : ∀ j, L.own = some j → H0.next ≤ j) (hk : Kp H0 H)
    (k : ∀ L' H1, RowE 1 H1 L' (p ++ [a]).length ((p ++ [a]).map nA) → (∀ j, L'.own = some j → H0.next ≤ j) → Kp H0 H1 → H.next ≤ H1.next → (∀ j, j < H.next → j ≠ n → L.own ≠ some j → H1.get j = H.get j) → (∀ j, L'.own = some j → L.own = some j ∨ H.next ≤ j) → WKO cf r (n + 1 + 1) ((d2, L') :: (d1, .sl n 0 1 1) :: K) H1 R) :
    WKO cf (⟨some d1, .bslice [z0] [(0, 1, x)] 1, none⟩ :: ⟨some d2, .app 1 8 y (.t d1), none⟩ :: r) n K H R := by
  refine WKO.append1E (new := [nA a]) hR hy ?_ (by simp [allSm, XOp.opnds, hx]) (by omega) (by omega) (by omega) rfl rfl hn hf fun L' H1 r1 r2 r3 r4 => k L' H1 ?_ (fun j hj => ?_) ⟨Nat.le_trans hk.1 r2, fun j hj => ?_⟩ r2 r3 r4
  · simp [evParts, hx, fillA, nA, AV.cells]
  · rw [List.length_append, List.map_append, hm]; exact .inl r1
  · have := hk.1
    rcases r4 j hj with h | h
    · exact ho j h
    · omega
  · have := hk.1
    rw [r3 j (by omega) (by omega) (fun w => by have := ho j w; omega)]
    exact hk.2 j hj
theorem x40 {cf : CF} {fuel m : Nat} {H0 : AHeap} (hm : m < 1024) (hf : 20 < fuel) : ∃ u H', xfunc cf fuel L40 [nA m] H0 = some (u, H') ∧ MemR H0 m u H' := by
  refine xfunc_ofK rfl (by show 1 ≤ 22; omega) ?_
  have hF0 := hf0 H0
  unfold L40
  dsimp only
  repeat' (first | refine WK.seq ?_ | refine WK.block ?_ | (apply WK.reg; (· exact lnn)) | (apply WKO.bsO; (· rfl); (· rfl); (· assumption); (· rfl); (· exact nxx); (· exact nxx); (· exact nxx); intro _ _ _) | refine WKO.nil ?_ | ((first | apply WKO.op); (· first | exact k_mv rfl); (· rfl)) | refine pN ?_ | fail)
  rename_i H1 hF1 n1
  have h1 := hF1.lt _ (.head _)
  have h2 := hF1.le
  refine WK.loop (α := Nat × AV) (fun p => [(0, nA m), (3, p.2), (4, nA p.1)]) (fun p H => p.1 ≤ 10 ∧ RowE 1 H p.2 (memb p.1 m).length ((memb p.1 m).map nA) ∧ (∀ j, p.2.own = some j → H0.next ≤ j) ∧ Kp H0 H) (fun p => 11 - p.1) (0, .sl (H0.bump 1).next 0 0 0) (.cons rfl <| .cons rfl <| .cons rfl <| .nil _)
    ⟨by omega, .inr ⟨rfl, rfl, _, rfl, by simp only [next_bump] at *; omega, hF1.obj _ (.head _)⟩, fun j hj => by
      have := Option.some.inj hj
      simp only [next_bump] at this
      omega, hF1.kp.up rfl (by simp only [next_bump]; omega)⟩ (by dsimp only; omega) ?_
  clear h1 h2
  rintro ⟨i, V⟩ H ⟨a1, a2, a3, a4⟩
  dsimp only at a1 a2 a3 a4 ⊢
  have hsh : m >>> i < 1024 := Nat.lt_of_le_of_lt (by rw [Nat.shiftRight_eq_div_pow]; exact Nat.div_le_self _ _) hm
  have h10 : ¬ m >>> i > 0 → memb i m = memb 10 m := fun h => memb_all (Nat.eq_zero_of_not_pos h) a1
  have hi10 : m >>> i > 0 → i < 10 := fun h => by
    rcases Nat.lt_or_ge i 10 with q | q
    · exact q
    · exfalso
      rw [Nat.shiftRight_eq_div_pow] at h
      have : m < 2 ^ i := Nat.lt_of_lt_of_le hm ((Nat.pow_le_pow_right (n := 2) (by omega) q : 2 ^ 10 ≤ 2 ^ i))
      rw [Nat.div_eq_of_lt this] at h
      omega
  have hs := membS i m
  have hml := memb_len i m
  have hown := fun j (q : V.own = some j) => a2.own_lt q
  have h4 := a4.1
  repeat' (first | refine WK.seq ?_ | refine WK.skip ?_ | refine WK.ret ?_ | refine WK.exit ?_ | refine WK.block ?_ | (apply WK.reg; (· exact lnn)) | refine WKO.nil ?_ | ((first | apply WKO.op); (· first | exact k_mv rfl | exact k_shrN rfl rfl (by omega) | exact k_andB rfl rfl (by omega) | exact k_bitN rfl rfl | exact opA); (· rfl)) | refine pN ?_ | refine pX ?_ | refine bN ?_ | refine bX ?_ | (apply WK.condD; (· rfl); all_goals intro _) | (apply WK.condB; (· rfl); all_goals intro _) | fail)
  · rename_i hp hb
    rw [bt_eq] at hb
    rw [if_pos hb] at hs
    refine WKO.appendN (H0 := H0) (p := memb i m) (a := i) (a2.frame (by simp only [next_bump]; omega) (fun _ _ => rfl)) rfl rfl rfl (by omega) (by simp only [next_bump]; omega) (by simp only [next_bump]; omega) (fun q => by have := hown _ q; simp only [next_bump] at this; omega) a3 (a4.up rfl (by simp only [next_bump]; omega)) ?_
    intro L' H2 r1 r2 r3 _ _ _
    repeat' (first | (apply WK.reg; (· exact lnn)) | refine WKO.nil ?_ | ((first | apply WKO.op); (· first | exact k_mv rfl | exact opA); (· rfl)) | refine pN ?_ | refine bN ?_ | fail)
    refine ⟨(i + 1, L'), (.cons rfl <| .cons rfl <| .cons rfl <| .nil _), ⟨by have := hi10 hp; dsimp only; omega, ?_, r2, r3.up rfl (by simp only [next_bump]; omega)⟩, by dsimp only; omega⟩
    dsimp only
    rw [hs]
    exact r1.frame (by simp only [next_bump]; omega) (fun _ _ => rfl)
  · rename_i hp hb
    rw [bt_eq] at hb
    rw [if_neg (by rw [hb]; decide), List.append_nil] at hs
    refine ⟨(i + 1, V), (.cons rfl <| .cons rfl <| .cons rfl <| .nil _), ⟨by have := hi10 hp; dsimp only; omega, ?_, a3, a4.up rfl (by simp only [next_bump]; omega)⟩, by dsimp only; omega⟩
    dsimp only
    rw [hs]
    exact a2.frame (by simp only [next_bump]; omega) (fun _ _ => rfl)
  · rename_i hp
    rw [h10 hp] at a2
    exact ⟨nofun, _, rfl, a2.frame (by simp only [next_bump]; omega) (fun _ _ => rfl), a3, a4.up rfl (by simp only [next_bump]; omega)⟩
theorem x73 {cf : CF} {fuel m : Nat} {H0 : AHeap} (h40 : ∀ H, ∃ u H', cf 40 [nA m] H = some (u, H') ∧ MemR H m u H') : ∃ u H', xfunc cf fuel L73 [nA m] H0 = some (u, H') ∧ u = nA (cnt m) ∧ Kp H0 H' := by
  refine xfunc_ofK rfl (by show 1 ≤ 6; omega) ?_
  unfold L73
  dsimp only
  repeat' (first | refine WK.seq ?_ | (apply WK.reg; (· exact lnn)) | (refine WKO.callV rfl rfl rfl (h40 _) ?_; rintro V H1 ⟨r1, r2, r3⟩) | refine WKO.nil ?_ | ((first | apply WKO.op); (· first | exact k_mv rfl); (· rfl)) | refine pN ?_ | fail)
  have hlen := (RdR.of r1).len
  repeat' (first | refine WK.ret ?_ | refine WKO.nil ?_ | ((first | apply WKO.op); (· first | exact k_mv rfl | exact k_lenL rfl hlen); (· rfl)) | refine pN ?_ | fail)
  have hk : Kp H0 H1 := (Kp.bump 1).trans ((Kp.bump 4).trans r3)
  exact ⟨nofun, _, rfl, rfl, hk⟩
section
variable {k : Nat}
theorem g_40 {m : Nat} (hm : m < 1024) (H : AHeap) : ∃ u H', cfG (k + 1) 40 [nA m] H = some (u, H') ∧ MemR H m u H' := cfG_run rfl rfl (x40 hm (by omega))
theorem g_73 {m : Nat} (hm : m < 1024) (H : AHeap) : ∃ u H', cfG (k + 2) 73 [nA m] H = some (u, H') ∧ u = nA (cnt m) ∧ Kp H H' := cfG_run rfl rfl (x73 fun H => g_40 hm H)
end
end Go.Proofs.Ytpbighinamljbaa.PA
namespace Go.Proofs.Ytpbighinamljbaa.PA
open Go Go.Eng Go.Proofs
theorem inn_half {a b : Nat} (h : Inn a b) : Inn (a / 2) (b / 2) := fun i hi => by
  rw [← Nat.testBit_succ] at hi ⊢
  exact h _ hi
theorem inn_odd {a b : Nat} (h : Inn a b) (ha : a % 2 = 1) : b % 2 = 1 := by
  have h0 : a.testBit 0 = true := by rw [Nat.testBit_zero]; exact decide_eq_true ha
  have := h 0 h0
  rw [Nat.testBit_zero] at this
  exact of_decide_eq_true this
theorem and_half (a b : Nat) : (a &&& b) / 2 = (a / 2) &&& (b / 2) := by
  apply Nat.eq_of_testBit_eq
  intro i
  rw [← Nat.testBit_succ, Nat.testBit_and, Nat.testBit_and, Nat.testBit_succ, Nat.testBit_succ]
theorem and_odd {a b : Nat} (ha : a % 2 = 1) (hb : b % 2 = 1) : (a &&& b) % 2 = 1 := by
  have : (a &&& b).testBit 0 = true := by rw [Nat.testBit_and, Nat.testBit_zero, Nat.testBit_zero, ha, hb]; rfl
  rw [Nat.testBit_zero] at this
  exact of_decide_eq_true this
theorem sub_next : ∀ (f t S : Nat), Inn S f → Inn t f → S < t → S ≤ (t - 1) &&& f := by
  intro f t
  induction t using Nat.strongRecOn generalizing f with
  | ind t ih =>
    intro S h1 h2 h3
    have hA := Nat.div_add_mod ((t - 1) &&& f) 2
    rw [and_half] at hA
    by_cases e : t % 2 = 1
    · have h4 : (t - 1) / 2 &&& f / 2 = t / 2 := by
        have : (t - 1) / 2 = t / 2 := by omega
        rw [this, Nat.and_comm]
        apply Nat.eq_of_testBit_eq
        intro i
        rw [Nat.testBit_and]
        cases q : (t / 2).testBit i with
        | false => simp
        | true => rw [inn_half h2 i q]; rfl
      rw [h4] at hA
      omega
    · have h5 := ih (t / 2) (by omega) (f / 2) (S / 2) (inn_half h1) (inn_half h2) (by omega)
      have h6 : (t - 1) / 2 = t / 2 - 1 := by omega
      rw [h6] at hA
      have h7 : S % 2 = 1 → ((t - 1) &&& f) % 2 = 1 := fun q => and_odd (by omega) (inn_odd h1 q)
      omega
theorem and_ne {a b : Nat} : a &&& b ≠ 0 ↔ ∃ i, a.testBit i = true ∧ b.testBit i = true := by
  constructor
  · intro h
    refine Classical.byContradiction fun w => h (Nat.eq_of_testBit_eq fun i => ?_)
    rw [Nat.testBit_and, Nat.zero_testBit]
    cases p : a.testBit i with
    | false => rfl
    | true =>
      cases q : b.testBit i with
      | false => rfl
      | true => exact absurd ⟨i, p, q⟩ w
  · rintro ⟨i, h1, h2⟩ h
    have : (a &&& b).testBit i = true := by rw [Nat.testBit_and, h1, h2]; rfl
    rw [h, Nat.zero_testBit] at this
    cases this
theorem and_inn (a b : Nat) : Inn (a &&& b) b := fun i h => by
  rw [Nat.testBit_and, Bool.and_eq_true] at h
  exact h.2
structure AftI (N : List Nat) (A fr cur best : Nat) (cs : List Nat) : Prop where
  inn : Inn cur fr
  s : ∀ x ∈ cs, ∃ S, x = A ||| S ∧ Inn S fr ∧ (∃ f, Mch N A S f) ∧ cnt S = best
  m : ∀ S, Inn S fr → cur < S ∨ S = 0 → (∃ f, Mch N A S f) → cnt S ≤ best ∧ (cnt S = best → A ||| S ∈ cs)
  ne : cs ≠ []
theorem aft_next {N : List Nat} {A fr cur best : Nat} {cs : List Nat} (h : AftI N A fr cur best cs) (hb : ¬ ∃ f, Mch N A cur f ∧ best ≤ cnt cur) : AftI N A fr ((cur - 1) &&& fr) best cs :=
  ⟨and_inn _ _, h.s, fun S s1 s2 s3 => by
    by_cases e : S = cur
    · obtain ⟨f, hf⟩ := s3
      subst e
      have : ¬ best ≤ cnt S := fun q => hb ⟨f, hf, q⟩
      exact ⟨by omega, by omega⟩
    · refine h.m S s1 ?_ s3
      rcases s2 with s2 | s2
      · left
        rcases Nat.lt_or_ge cur S with q | q
        · exact q
        · have := sub_next fr cur S s1 h.inn (by omega)
          omega
      · exact .inr s2, h.ne⟩
theorem aft_eq {N : List Nat} {A fr cur best : Nat} {cs : List Nat} (h : AftI N A fr cur best cs) {f : Nat → Nat} (hf : Mch N A cur f) (hb : cnt cur = best) : AftI N A fr ((cur - 1) &&& fr) best (cs ++ [A ||| cur]) :=
  ⟨and_inn _ _, fun x hx => by
    rcases List.mem_append.1 hx with hx | hx
    · exact h.s x hx
    · have : x = A ||| cur := by simpa using hx
      exact ⟨cur, this, h.inn, ⟨f, hf⟩, hb⟩, fun S s1 s2 s3 => by
    by_cases e : S = cur
    · subst e
      exact ⟨by omega, fun _ => by simp⟩
    · have := h.m S s1 (by
        rcases s2 with s2 | s2
        · left
          rcases Nat.lt_or_ge cur S with q | q
          · exact q
          · have := sub_next fr cur S s1 h.inn (by omega)
            omega
        · exact .inr s2) s3
      exact ⟨this.1, fun q => List.mem_append.2 (.inl (this.2 q))⟩, by simp⟩
theorem aft_gt {N : List Nat} {A fr cur best : Nat} {cs : List Nat} (h : AftI N A fr cur best cs) {f : Nat → Nat} (hf : Mch N A cur f) (hb : best < cnt cur) : AftI N A fr ((cur - 1) &&& fr) (cnt cur) [A ||| cur] :=
  ⟨and_inn _ _, fun x hx => by
    have : x = A ||| cur := by simpa using hx
    exact ⟨cur, this, h.inn, ⟨f, hf⟩, rfl⟩, fun S s1 s2 s3 => by
    by_cases e : S = cur
    · subst e
      exact ⟨Nat.le_refl _, fun _ => by simp⟩
    · have := h.m S s1 (by
        rcases s2 with s2 | s2
        · left
          rcases Nat.lt_or_ge cur S with q | q
          · exact q
          · have := sub_next fr cur S s1 h.inn (by omega)
            omega
        · exact .inr s2) s3
      exact ⟨by omega, fun q => by omega⟩, by simp⟩
theorem aft_begin {N : List Nat} {A fr : Nat} : AftI N A fr fr 0 [A] :=
  ⟨Inn.refl _, fun x hx => by
    have : x = A := by simpa using hx
    exact ⟨0, by rw [this, Nat.or_zero], fun i hi => by simp at hi, ⟨fun _ => 0, fun w hw => by simp at hw, fun w _ hw => by simp at hw⟩, by decide⟩, fun S s1 s2 s3 => by
    rcases s2 with s2 | s2
    · exfalso
      have h1 : Inn S fr → S ≤ fr := fun h => by
        have : S = S &&& fr := by
          apply Nat.eq_of_testBit_eq
          intro i
          rw [Nat.testBit_and]
          cases q : S.testBit i with
          | false => rfl
          | true => rw [h i q]; rfl
        rw [this]
        exact Nat.and_le_right
      have := h1 s1
      omega
    · subst s2
      exact ⟨by decide, fun _ => by simp⟩, by simp⟩
theorem aft_end {N : List Nat} {A fr best : Nat} {cs : List Nat} (hf : Frs N A fr) (h : AftI N A fr 0 best cs) : AftR N A cs :=
  ⟨h.ne, fr, best, hf, h.s, fun S s1 s3 => h.m S s1 (by omega) s3⟩
end Go.Proofs.Ytpbighinamljbaa.PA
namespace Go.Proofs.Ytpbighinamljbaa.PA
open Go Go.Eng Go.Proofs
def OutR (H : AHeap) (v : AV) (cs : List Nat) : Prop := Row 1 H v cs.length (cs.map nA) ∨ ∃ i a, v = .sl i 0 1 1 ∧ cs = [a] ∧ H.get i = some (.cells [nA a] none) ∧ i < H.next
theorem OutR.rd {H : AHeap} {v : AV} {cs : List Nat} (h : OutR H v cs) : RdR 1 H v cs.length (cs.map nA) := by
  rcases h with h | ⟨i, a, rfl, rfl, h1, h2⟩
  · exact RdR.of (.inl h)
  · exact ⟨rfl, .inr (.inr ⟨i, 1, _, _, rfl, h2, h1, rfl, by simp⟩)⟩
theorem OutR.frame {H H' : AHeap} {v : AV} {cs : List Nat} (h : OutR H v cs) (hn : H.next ≤ H'.next) (hg : ∀ i, v.own = some i → H'.get i = H.get i) : OutR H' v cs := by
  rcases h with h | ⟨i, a, rfl, rfl, h1, h2⟩
  · exact .inl (h.frame hn hg)
  · exact .inr ⟨i, a, rfl, rfl, (hg i rfl).trans h1, by omega⟩
theorem OutR.own_lt {H : AHeap} {v : AV} {cs : List Nat} (h : OutR H v cs) {i : Nat} (hi : v.own = some i) : i < H.next := by
  rcases h with h | ⟨i, a, rfl, rfl, h1, h2⟩
  · exact h.own_lt hi
  · cases hi; exact h2
theorem OutR.app {H : AHeap} {v : AV} {cs : List Nat} {j a : Nat} (h : OutR H v cs) (hl : cs.length < 5000) (hj : H.get j = some (.cells [nA a] none)) :
    ∃ v' H', appA H 1 8 v (.sl j 0 1 1) = .eff v' H' ∧ OutR H' v' (cs ++ [a]) ∧ H.next ≤ H'.next ∧ (∀ k, k < H.next → v.own ≠ some k → H'.get k = H.get k) ∧ (∀ i, v'.own = some i → v.own = some i ∨ H.next ≤ i) := by
  have hs : srcA H 1 1 (.sl j 0 1 1) = some [nA a] := by simp [srcA, hj]
  rcases h with h | ⟨i, b, rfl, rfl, h1, h2⟩
  · obtain ⟨v', H', q1, q2, q3, q4, q5⟩ := h.app (bytes := 8) (n := 1) (y := .sl j 0 1 1) (new := [nA a]) (by omega) (by omega) (by omega) (by omega) rfl hs rfl rfl
    refine ⟨v', H', q1, .inl ?_, q3, q4, q5⟩
    rw [List.length_append, List.map_append]
    exact q2
  · have hc : Clp 1 H (.sl i 0 1 1) 1 [nA b] := ⟨by omega, .inr ⟨i, [nA b], none, rfl, h1, rfl, by simp⟩⟩
    refine ⟨_, _, hc.app (by omega) hj rfl rfl, .inl ?_, Nat.le_succ _, fun k hk _ => by rw [AHeap.get_add, if_neg (by omega)], fun i hi => ?_⟩
    · exact Row.one (z := 1) (by rw [AHeap.get_add, if_pos rfl]; rfl) (Nat.lt_succ_self _) rfl
    · have : H.next = i := by simpa [AV.own] using hi
      omega
def CenA (N : List Nat) (cs : List Nat) (best : Nat) : Prop :=
  ∃ T : Nat → Nat, (∀ s, s < N.length → IsT N s (T s)) ∧ cs = (List.range N.length).filter (fun s => T s == best) ∧ (∀ s, s < N.length → best ≤ T s) ∧ ∃ s, s < N.length ∧ T s = best
def CenR (H0 : AHeap) (n : Int) (l : ZPrs) (v : AV) (H' : AHeap) : Prop :=
  (cgZ n l = false ∧ v = .tup [.nils, nA 0, nA 1] ∧ Kp H0 H') ∨ (cgZ n l = true ∧ ∃ C cs best, v = .tup [C, nA best, nA 0] ∧ CenA (NZ n l) cs best ∧ OutR H' C cs ∧ (∀ i, C.own = some i → H0.next ≤ i) ∧ Kp H0 H')
theorem read_cases {H0 H' : AHeap} {n : Int} {l : ZPrs} {v : AV} (h : ReadR H0 n l v H') :
    (cgZ n l = false ∧ (∃ p, v = .tup [p, .bool false]) ∧ Kp H0 H') ∨ (cgZ n l = true ∧ ∃ G M, v = .tup [.ptr G 0, .bool true] ∧ GrH H' G M (NZ n l).length (NZ n l) ∧ Kp H0 H' ∧ NOk (NZ n l) ∧ n = (NZ n l).length) := by
  rcases h with ⟨hg, rfl, hk, hn⟩ | ⟨hg, m, q, G, M, rfl, m1, m2, hz, hql, hqE, rfl, T, hF⟩
  · exact .inl ⟨by simp [cgZ, hg], ⟨_, rfl⟩, hn, hk⟩
  · have hq := nE_of hz
    have hN : NZ (m : Int) l = nearN m q := by rw [NZ, hq]; rfl
    have hcs := conS_near m1 m2 hqE
    have hl : (NZ (m : Int) l).length = m := by rw [hN, nearN_len]
    have hb : conS (nearN m q) = cgZ (m : Int) l := by rw [cgZ, hg, hN, hcs, Bool.true_and]
    rw [hb]
    cases hc : cgZ (m : Int) l with
    | false => exact .inl ⟨rfl, ⟨_, rfl⟩, hF.kp⟩
    | true =>
      refine .inr ⟨rfl, G, M, rfl, ?_, hF.kp, (cg_ok hc).1, by rw [hl]⟩
      rw [hl, hN]
      exact ⟨hF.obj _ (.head _), hF.obj _ (.tail _ (.head _)), Nat.lt_of_lt_of_le (hF.lt _ (.head _)) hF.le, Nat.lt_of_lt_of_le (hF.lt _ (.tail _ (.head _))) hF.le⟩
theorem filter_succ (p : Nat → Bool) (n : Nat) : (List.range (n + 1)).filter p = (List.range n).filter p ++ if p n = true then [n] else [] := by
  rw [List.range_succ, List.filter_append]
  congr 1
  rw [List.filter_cons, List.filter_nil]
set_option maxHeartbeats 1000000 in
theorem x18 {kk fuel : Nat} {H0 : AHeap} {n : Int} {l : ZPrs} {X : AV} (hX : RdR 2 H0 X l.length (zc l)) (hcl : Go.Eng.Clean H0) (hfu : 20 < fuel)
    (h46 : ∀ H, RdR 2 H X l.length (zc l) → ∃ v H', cfG kk 46 [.int .i64 n, X] H = some (v, H') ∧ ReadR H n l v H')
    (h47 : ∀ H G M s N, GrH H G M N.length N → NOk N → s < N.length → Go.Eng.Clean H → ∃ u H', cfG kk 47 [.ptr G 0, nA s] H = some (u, H') ∧ SchR H N s u H') :
    ∃ u H', xfunc (cfG kk) fuel L18 [.int .i64 n, X] H0 = some (u, H') ∧ CenR H0 n l u H' := by
  refine xfunc_ofK rfl (by show 2 ≤ 48; omega) ?_
  have hcc := cfG_clean kk
  unfold L18
  dsimp only
  have hk0 : Kp H0 ((H0.bump 3).bump 8) := (Kp.bump _).trans (Kp.bump _)
  repeat' (first | refine WK.seqC (by assumption) ?_ | intro (_ : CleanTo _ _) | (apply WK.reg; (· exact lnn)) | (refine WKO.callV rfl rfl rfl (h46 _ (hX.kp (by apply Kp.eqm; (· rfl); (· simp only [next_bump]; omega)))) ?_; rintro v1 H1 hv1) | refine WKO.nil ?_ | ((first | apply WKO.op); (· first | exact k_mv rfl); (· rfl)) | refine pN ?_ | fail)
  rename_i c1
  rcases read_cases hv1 with ⟨hb, ⟨p, rfl⟩, hk⟩ | ⟨hb, G, M, rfl, hg, hk, hN, hn⟩
  · repeat' (first | refine WK.seqC (by assumption) ?_ | intro (_ : CleanTo _ _) | refine WK.ret ?_ | (apply WK.reg; (· exact lnn)) | refine WKO.nil ?_ | ((first | apply WKO.op); (· first | exact k_mv rfl | exact opA); (· rfl)) | refine pN ?_ | refine pR ?_ | (apply WK.condT; (· rfl); (· exact dcd)) | fail)
    exact ⟨nofun, _, rfl, .inl ⟨hb, rfl, (hk0.trans hk).up rfl (by simp only [next_bump]; omega)⟩⟩
  · have hTex : ∀ s, ∃ k, s < (NZ n l).length → k + 1 ≤ (NZ n l).length ∧ IsT (NZ n l) s k := fun s => by
      by_cases h : s < (NZ n l).length
      · obtain ⟨k, h1, h2⟩ := isT_ex hN.sym hN.l10 hN.lt hN.con h
        exact ⟨k, fun _ => ⟨h1, h2⟩⟩
      · exact ⟨0, fun q => absurd q h⟩
    obtain ⟨T, hT⟩ := Classical.axiomOfChoice hTex
    generalize hNN : NZ n l = N at *
    subst hn
    have hl10 := hN.l10
    repeat' (first | refine WK.seqC (by assumption) ?_ | intro (_ : CleanTo _ _) | refine WK.skip ?_ | refine WK.block ?_ | (apply WK.reg; (· exact lnn)) | refine WKO.nil ?_ | ((first | apply WKO.op); (· first | exact k_mv rfl | exact opA); (· rfl)) | refine pN ?_ | (apply WK.condF; (· rfl); (· exact dcd)) | fail)
    rename_i c2 _ _ _ _ _
    have hC1 : Go.Eng.Clean H1 := c2.1 (c1.1 hcl)
    refine WK.loop (α := Nat × Nat × List Nat × AV) (fun p => [(0, nA N.length), (7, .ptr G 0), (9, p.2.2.2), (10, nA p.2.1), (22, nA N.length), (23, nA p.1)])
      (fun p H => p.1 ≤ N.length ∧ p.2.2.1 = (List.range p.1).filter (fun j => T j == p.2.1) ∧ (∀ j, j < p.1 → p.2.1 ≤ T j) ∧ (p.1 = 0 → p.2.1 = N.length) ∧ (0 < p.1 → ∃ j, j < p.1 ∧ T j = p.2.1) ∧ p.2.1 ≤ N.length ∧ OutR H p.2.2.2 p.2.2.1 ∧ (∀ i, p.2.2.2.own = some i → H1.next ≤ i) ∧ Kp H1 H ∧ Go.Eng.Clean H)
      (fun p => N.length - p.1) (0, N.length, [], .nils) (.cons rfl <| .cons rfl <| .cons rfl <| .cons rfl <| .cons rfl <| .cons rfl <| .nil _) ⟨Nat.zero_le _, rfl, fun j hj => absurd hj (Nat.not_lt_zero _), fun _ => rfl, fun h => absurd h (Nat.lt_irrefl _), Nat.le_refl _, .inl (Row.nil 1 _), nofun, Kp.eqm rfl (by simp only [next_bump]; omega), clean_eqm hC1 rfl (by simp only [next_bump]; omega)⟩ (by dsimp only; omega) ?_
    rintro ⟨s, best, cs, out⟩ H ⟨a1, a2, a3, a4, a5, a6, a7, a8, a9, a10⟩
    dsimp only at a1 a2 a3 a4 a5 a6 a7 a8 a9 a10 ⊢
    have h01 : Kp H0 H1 := hk0.trans hk
    have h9n := a9.1
    have h1n := h01.1
    by_cases hs : s < N.length
    · refine WK.cl hcc ?_
      obtain ⟨hTs, hIs⟩ := hT s hs
      have hfs := filter_succ (fun j => T j == best) s
      repeat' (first | refine WK.seqC (by assumption) ?_ | intro (_ : CleanTo _ _) | refine WK.skip ?_ | refine WK.block ?_ | (apply WK.reg; (· exact lnn)) | refine WKO.nil ?_ | ((first | apply WKO.op); (· first | exact k_mv rfl | exact opA); (· rfl)) | refine pN ?_ | (apply WK.condT; (· rfl); (· exact dcd)) | fail)
      refine WKO.callV rfl rfl rfl (h47 _ G M s N (hg.up ?_) hN hs (clean_eqm a10 ?_ ?_)) ?_
      · exact a9.trans (Kp.eqm rfl (by simp only [next_bump]; omega))
      · rfl
      · simp only [next_bump]; omega
      rintro u H3 ⟨k, ls, r1, r2, r3, r4, r5, r6⟩
      have hkT : ls.length = T s := by rw [r2]; exact r1.uniq hIs
      have hk3 : Kp H H3 := Kp.trans (Kp.eqm (H' := (((H.bump 1).bump 2).bump 5)) rfl (by simp only [next_bump]; omega)) r6
      have hO3 : OutR H3 out cs := a7.frame hk3.1 (fun i q => hk3.2 i (a7.own_lt q))
      have hk13 := a9.trans hk3
      have h3n := hk3.1
      have hlen : lenN u = some (T s) := by rw [r3.len, hkT]
      repeat' (first | refine WK.seqC (by assumption) ?_ | intro (_ : CleanTo _ _) | refine WK.skip ?_ | refine WK.block ?_ | (apply WK.reg; (· exact lnn)) | refine WKO.nil ?_ | ((first | apply WKO.op); (· first | exact k_mv rfl | exact k_lenL rfl hlen | exact opA); (· rfl)) | refine pN ?_ | refine bN ?_ | (apply WK.condD; (· rfl); all_goals intro _) | fail)
      · rename_i hlt
        obtain ⟨H4, hH4⟩ : ∃ H4, ((H3.bump 4).bump 5).set ((H3.bump 4).next + 1 + 1) (some (.cells [nA s] none)) = H4 := ⟨_, rfl⟩
        have hn4 : H4.next = H3.next + 9 := by rw [← hH4]; rfl
        have hN4 : H4.get ((H3.bump 4).next + 1 + 1) = some (.cells [nA s] none) := by rw [← hH4, AHeap.get_set, if_pos rfl]
        have hg4 : ∀ k, k < H3.next → H4.get k = H3.get k := fun k hk => by
          rw [← hH4, AHeap.get_set, if_neg (by simp only [next_bump]; omega)]
          rfl
        refine WKO.op (k_bs1 rfl rfl) rfl ?_
        rw [hH4]
        repeat' (first | intro (_ : CleanTo _ _) | (apply WK.reg; (· exact lnn)) | refine WKO.nil ?_ | ((first | apply WKO.op); (· first | exact k_mv rfl | exact opA); (· rfl)) | refine pN ?_ | refine bN ?_ | fail)
        rename_i c9
        refine ⟨(s + 1, T s, [s], .sl ((H3.bump 4).next + 1 + 1) 0 1 1), (.cons rfl <| .cons rfl <| .cons rfl <| .cons rfl <| .cons rfl <| .cons rfl <| .nil _), ⟨hs, ?_, fun j hj => ?_, fun q => absurd q (by dsimp only; omega), fun _ => ⟨s, by dsimp only; omega, rfl⟩, by dsimp only; omega, .inr ⟨_, s, rfl, rfl, hN4, by simp only [next_bump]; omega⟩, fun i hi => ?_, ⟨by simp only [next_bump]; omega, fun j hj => (hg4 j (by omega)).trans (hk13.2 j hj)⟩, c9.1 a10⟩, by dsimp only; omega⟩
        · dsimp only
          rw [filter_succ, if_pos (by simp)]
          have : (List.range s).filter (fun j => T j == T s) = [] := by
            rw [List.filter_eq_nil_iff]
            intro j hj hjT
            have h1 := a3 j (List.mem_range.1 hj)
            have h2 : T j = T s := by simpa using hjT
            omega
          rw [this]
          rfl
        · dsimp only at hj ⊢
          by_cases e : j < s
          · have := a3 j e; omega
          · obtain rfl : j = s := by omega
            exact Nat.le_refl _
        · have : (H3.bump 4).next + 1 + 1 = i := by simpa [AV.own] using hi
          simp only [next_bump] at this
          omega
      · rename_i hlt _ heq
        obtain ⟨H4, hH4⟩ : ∃ H4, (((H3.bump 4).bump 4).bump 5).set (((H3.bump 4).bump 4).next + 1 + 1) (some (.cells [nA s] none)) = H4 := ⟨_, rfl⟩
        have hn4 : H4.next = H3.next + 13 := by rw [← hH4]; rfl
        have hN4 : H4.get (((H3.bump 4).bump 4).next + 1 + 1) = some (.cells [nA s] none) := by rw [← hH4, AHeap.get_set, if_pos rfl]
        have hg4 : ∀ k, k < H3.next → H4.get k = H3.get k := fun k hk => by
          rw [← hH4, AHeap.get_set, if_neg (by simp only [next_bump]; omega)]
          rfl
        have hcl : cs.length < 5000 := by
          rw [a2]
          exact Nat.lt_of_le_of_lt (List.length_filter_le ..) (by simp; omega)
        have hO4 : OutR H4 out cs := hO3.frame (by omega) (fun i q => hg4 i (hO3.own_lt q))
        obtain ⟨v', H5, e5, O5, hn5, hg5, ho5⟩ := hO4.app hcl hN4
        refine WKO.op (k_bs1 rfl rfl) rfl ?_
        rw [hH4]
        refine WKO.op (k_app rfl rfl e5) rfl ?_
        repeat' (first | intro (_ : CleanTo _ _) | (apply WK.reg; (· exact lnn)) | refine WKO.nil ?_ | ((first | apply WKO.op); (· first | exact k_mv rfl | exact opA); (· rfl)) | refine pN ?_ | refine bN ?_ | fail)
        rename_i c9
        refine ⟨(s + 1, best, cs ++ [s], v'), (.cons rfl <| .cons rfl <| .cons rfl <| .cons rfl <| .cons rfl <| .cons rfl <| .nil _), ⟨hs, ?_, fun j hj => ?_, fun q => absurd q (by dsimp only; omega), fun _ => ⟨s, by dsimp only; omega, heq⟩, a6, O5.frame (by simp only [next_bump]; omega) (fun _ _ => rfl), fun i hi => ?_, ⟨by simp only [next_bump]; omega, fun j hj => ?_⟩, c9.1 a10⟩, by dsimp only; omega⟩
        · dsimp only
          rw [filter_succ, if_pos (by simpa using heq), ← a2]
        · dsimp only at hj ⊢
          by_cases e : j < s
          · exact a3 j e
          · obtain rfl : j = s := by omega
            omega
        · rcases ho5 i hi with h | h
          · exact a8 i h
          · omega
        · show H5.get j = _
          rw [hg5 j (by omega) (fun q => by have := a8 j q; omega), hg4 j (by omega)]
          exact hk13.2 j hj
      · rename_i hlt _ heq _ c9
        refine ⟨(s + 1, best, cs, out), (.cons rfl <| .cons rfl <| .cons rfl <| .cons rfl <| .cons rfl <| .cons rfl <| .nil _), ⟨hs, ?_, fun j hj => ?_, fun q => absurd q (by dsimp only; omega), fun _ => ?_, a6, hO3.frame (by simp only [next_bump]; omega) (fun _ _ => rfl), a8, hk13.trans (Kp.eqm rfl (by simp only [next_bump]; omega)), c9.1 a10⟩, by dsimp only; omega⟩
        · dsimp only
          rw [filter_succ, if_neg (by simpa using heq), List.append_nil, ← a2]
        · dsimp only at hj ⊢
          by_cases e : j < s
          · exact a3 j e
          · obtain rfl : j = s := by omega
            omega
        · rcases Nat.eq_zero_or_pos s with e | e
          · have := a4 e
            omega
          · obtain ⟨j, h1, h2⟩ := a5 e
            exact ⟨j, by dsimp only; omega, h2⟩
    · repeat' (first | refine WK.seqC (by assumption) ?_ | intro (_ : CleanTo _ _) | refine WK.ret ?_ | refine WK.exit ?_ | (apply WK.reg; (· exact lnn)) | refine WKO.nil ?_ | ((first | apply WKO.op); (· first | exact k_mv rfl | exact opA); (· rfl)) | refine pN ?_ | refine pX ?_ | refine bX ?_ | (apply WK.condF; (· rfl); (· exact dcd)) | fail)
      have hsN : s = N.length := by omega
      have hcen : CenA N cs best := ⟨T, fun j hj => (hT j hj).2, by rw [a2, hsN], fun j hj => a3 j (by omega), by
        obtain ⟨j, h1, h2⟩ := a5 (by have := hN.l1; omega)
        exact ⟨j, by omega, h2⟩⟩
      exact ⟨nofun, _, rfl, .inr ⟨hb, out, cs, best, rfl, by rw [hNN]; exact hcen, a7.frame (by simp only [next_bump]; omega) (fun _ _ => rfl), fun i hi => Nat.le_trans h1n (a8 i hi), (h01.trans a9).trans (Kp.eqm rfl (by simp only [next_bump]; omega))⟩⟩
section
variable {k : Nat} {H : AHeap} {n : Int} {l : ZPrs} {X : AV}
theorem g_46 {k : Nat} {l : ZPrs} {X : AV} (hX : RdR 2 H X l.length (zc l)) : ∃ u H', cfG (k + 1) 46 [.int .i64 n, X] H = some (u, H') ∧ ReadR H n l u H' :=
  cfG_run rfl rfl (x46 hX (by omega) (fun H m i h1 h2 => g_64 h1 h2) (fun H m h => g_67 h))
theorem g_18 (hX : RdR 2 H X l.length (zc l)) (hcl : Go.Eng.Clean H) : ∃ u H', cfG (k + 15) 18 [.int .i64 n, X] H = some (u, H') ∧ CenR H n l u H' :=
  cfG_run rfl rfl (x18 hX hcl (by omega) (fun H h => g_46 h) g_47')
end
end Go.Proofs.Ytpbighinamljbaa.PA
namespace Go.Proofs.Ytpbighinamljbaa.PA
open Go Go.Eng Go.Proofs
structure Ren (n : Nat) (σ τ : Nat → Nat) : Prop where
  s : ∀ i, i < n → σ i < n
  t : ∀ i, i < n → τ i < n
  ts : ∀ i, i < n → τ (σ i) = i
  st : ∀ i, i < n → σ (τ i) = i
theorem Ren.symm {n : Nat} {σ τ : Nat → Nat} (h : Ren n σ τ) : Ren n τ σ := ⟨h.t, h.s, h.st, h.ts⟩
structure RenG (n : Nat) (σ τ : Nat → Nat) (N N' : List Nat) : Prop where
  r : Ren n σ τ
  l : N.length = n
  l' : N'.length = n
  b : ∀ m ∈ N, m < 2 ^ n
  b' : ∀ m ∈ N', m < 2 ^ n
  e : ∀ i j, i < n → j < n → (N.getD i 0).testBit j = (N'.getD (σ i) 0).testBit (σ j)
theorem RenG.symm {n : Nat} {σ τ : Nat → Nat} {N N' : List Nat} (h : RenG n σ τ N N') : RenG n τ σ N' N :=
  ⟨h.r.symm, h.l', h.l, h.b', h.b, fun i j hi hj => by rw [h.e _ _ (h.r.t i hi) (h.r.t j hj), h.r.st i hi, h.r.st j hj]⟩
end Go.Proofs.Ytpbighinamljbaa.PA
namespace Go.Proofs.Ytpbighinamljbaa.PA
open Go Go.Eng Go.Proofs
theorem xop_ldE {ev : XO → Option AV} {H0 H' : AHeap} {n z len p : Nat} {x : XO} {X v : AV} {cs : List AV} (hx : ev x = some (adE X p)) (hE : RdR z H0 X len cs) (hF : ∀ i, X.own = some i → H'.get i = H0.get i) (h : cs[p]? = some v) : xop ev H' n (.load none x) = .v v := by
  have hp : p < len * z := by
    obtain ⟨hh, _⟩ := List.getElem?_eq_some_iff.1 h
    rw [hE.1] at hh
    exact hh
  obtain ⟨c, h1, h2⟩ := hE.at (H' := H') hF hp
  have h3 : c[0]? = some v := by
    have : (c.take (len * z - p))[0]? = some v := by rw [h2, List.getElem?_drop, Nat.add_zero, h]
    rw [List.getElem?_take] at this
    split at this
    · exact this
    · cases this
  simp only [xop, hx, Option.bind_some, loadA, h1, h3, AR.ofV]
theorem k_ldY {cf : CF} {H0 H' : AHeap} {n z len p : Nat} {l : KL0} {x : XO} {X v : AV} {cs : List AV} (hx : evK l x = some (adE X p)) (hE : RdR z H0 X len cs) (hF : ∀ i, X.own = some i → H'.get i = H0.get i) (h : cs[p]? = some v) : XV cf l H' n (.load none x) = some (v, H') :=
  k_any (by simp only [xval, xop_ldE hx hE hF h])
end Go.Proofs.Ytpbighinamljbaa.PA
namespace Go.Proofs.Ytpbighinamljbaa.PA
open Go Go.Eng Go.Proofs
set_option maxHeartbeats 2000000 in
theorem x48 {cf : CF} {fuel A : Nat} {H0 : AHeap} {N : List Nat} {Z : AV} (hN2 : ∀ m ∈ N, m < 2 ^ N.length) (hl10 : N.length ≤ 10) (hA : A < 1024) (hZ : RdR 1 H0 Z N.length (N.map nA)) (hfu : 1100 < fuel)
    (h40 : ∀ m H, m < 1024 → ∃ u H', cf 40 [nA m] H = some (u, H') ∧ MemR H m u H')
    (h73 : ∀ m H, m < 1024 → ∃ u H', cf 73 [nA m] H = some (u, H') ∧ u = nA (cnt m) ∧ Kp H H')
    (h74 : ∀ H y l, RdR 1 H Z N.length (N.map nA) → cellsA H 1 y = some (l.length, l.map nA) → l.length ≤ 10 → (∀ w ∈ l, w < N.length) → cf 74 [Z, nA A, y] H = some (.bool (mtN N A l), H)) :
    ∃ u H', xfunc cf fuel L48 [Z, nA A] H0 = some (u, H') ∧ ∃ cs, OutR H' u cs ∧ AftR N A cs ∧ cs.length ≤ 1025 ∧ (∀ j, u.own = some j → H0.next ≤ j) ∧ Kp H0 H' := by
  refine xfunc_ofK rfl (by show 2 ≤ 68; omega) ?_
  have hp10 := pow_le10 hl10
  have hN : ∀ m ∈ N, m < 1024 := fun m hm => Nat.lt_of_lt_of_le (hN2 m hm) hp10
  unfold L48
  dsimp only
  repeat' (first | refine WK.stop2 ?_ | refine WK.seq ?_ | (apply WK.reg; (· exact lnn)) | refine WKO.nil ?_ | ((first | apply WKO.op); (· first | exact k_mv rfl); (· rfl)) | refine pN ?_ | fail)
  refine Stop.mk (WK.cut (α := Nat) (fun fr => [(0, Z), (1, nA A), (5, nA fr)]) (fun fr H => Frs N A fr ∧ Kp H0 H) ?_ ?_)
  · repeat' (first | refine WK.seq ?_ | refine WK.block ?_ | (apply WK.reg; (· exact lnn)) | refine WKO.nil ?_ | ((first | apply WKO.op); (· first | exact k_mv rfl); (· rfl)) | refine pN ?_ | fail)
    refine WK.loop (α := Nat × Nat) (fun p => [(0, Z), (1, nA A), (5, nA p.2), (6, nA p.1)]) (fun p H => p.1 ≤ N.length ∧ p.2 < 2 ^ N.length ∧ (∀ i, p.2.testBit i = true ↔ i < p.1 ∧ A.testBit i = false ∧ ∃ u, A.testBit u = true ∧ (N.getD i 0).testBit u = true) ∧ Kp H0 H) (fun p => N.length - p.1) (0, 0) (.cons rfl <| .cons rfl <| .cons rfl <| .cons rfl <| .nil _) ⟨Nat.zero_le _, Nat.two_pow_pos _, fun i => by simp, Kp.eqm rfl (by simp only [next_bump]; omega)⟩ (by dsimp only; omega) ?_
    rintro ⟨v, fr⟩ H ⟨a1, a2, a3, a4⟩
    dsimp only at a1 a2 a3 a4 ⊢
    have hZH := hZ.kp a4
    have hlen := hZ.len
    by_cases hv : v < N.length
    · have gz : (N.map nA)[v * 1]? = some (nA (N.getD v 0)) := by rw [Nat.mul_one]; exact map_at (by omega)
      have hgv := getD_lt10 hN v
      have hpv := pow10 (b := v) (by omega)
      have hsA : A >>> v < 1048576 := Nat.lt_of_le_of_lt (by rw [Nat.shiftRight_eq_div_pow]; exact Nat.div_le_self _ _) (lt20 hA)
      repeat' (first | refine WK.seq ?_ | refine WK.skip ?_ | refine WK.block ?_ | (apply WK.reg; (· exact lnn)) | refine WKO.nil ?_ | ((first | apply WKO.op | ((first | apply WKO.gop); (· rfl); (· exact dcd))); (· first | exact k_mv rfl | exact k_lenL rfl hlen | exact k_shrN rfl rfl (by omega) | exact k_andB rfl rfl (by omega) | exact k_bitZ rfl rfl | exact k_iaE rfl rfl hZH hv | (apply k_ldY; (· rfl); (· exact hZH); (· exact fun _ _ => rfl); (· exact gz)) | exact k_andN rfl rfl (by omega) (by omega) | exact k_shl1 rfl rfl (by omega) | exact k_orN rfl rfl (by omega) (by omega) | exact opA); (· rfl)) | ((first | apply WKO.gnoT); (· rfl); (· exact dcd)) | ((first | apply WKO.gspB); (· rfl); all_goals ((fail_if_success (refine known ?_ ?_; (· assumption))); intro _)) | refine pN ?_ | refine bN ?_ | (apply WK.condT; (· rfl); (· exact dcd)) | (apply WK.condF; (· rfl); (· exact dcd)) | (apply WK.condD; (· rfl); all_goals intro _) | fail)
      · rename_i hb hne
        have hb : A.testBit v = false := by rw [bt_eq] at hb; simpa using hb
        refine ⟨(v + 1, fr ||| 2 ^ v), (.cons rfl <| .cons rfl <| .cons rfl <| .cons rfl <| .nil _), ⟨hv, Nat.or_lt_two_pow a2 (Nat.pow_lt_pow_right (by omega) hv), fun i => ?_, a4.up rfl (by simp only [next_bump]; omega)⟩, by dsimp only; omega⟩
        dsimp only
        rw [Nat.testBit_or, Nat.testBit_two_pow, Bool.or_eq_true, a3, decide_eq_true_iff]
        obtain ⟨u, u1, u2⟩ := and_ne.1 hne
        constructor
        · rintro (⟨q1, q2⟩ | rfl)
          · exact ⟨by omega, q2⟩
          · exact ⟨by omega, hb, u, u2, u1⟩
        · rintro ⟨q1, q2⟩
          by_cases e : v = i
          · exact .inr e
          · exact .inl ⟨by omega, q2⟩
      · rename_i hb hne
        refine ⟨(v + 1, fr), (.cons rfl <| .cons rfl <| .cons rfl <| .cons rfl <| .nil _), ⟨hv, a2, fun i => ?_, a4.up rfl (by simp only [next_bump]; omega)⟩, by dsimp only; omega⟩
        dsimp only
        rw [a3]
        constructor
        · rintro ⟨q1, q2⟩; exact ⟨by omega, q2⟩
        · rintro ⟨q1, q2, u, u1, u2⟩
          refine ⟨?_, q2, u, u1, u2⟩
          by_cases e : i = v
          · subst e; exact absurd (and_ne.2 ⟨u, u2, u1⟩) hne
          · omega
      · rename_i hb
        have hb : A.testBit v = true := by rw [bt_eq] at hb; simpa using hb
        refine ⟨(v + 1, fr), (.cons rfl <| .cons rfl <| .cons rfl <| .cons rfl <| .nil _), ⟨hv, a2, fun i => ?_, a4.up rfl (by simp only [next_bump]; omega)⟩, by dsimp only; omega⟩
        dsimp only
        rw [a3]
        constructor
        · rintro ⟨q1, q2⟩; exact ⟨by omega, q2⟩
        · rintro ⟨q1, q2, q3⟩
          refine ⟨?_, q2, q3⟩
          by_cases e : i = v
          · subst e; rw [hb] at q2; cases q2
          · omega
    · repeat' (first | refine WK.seq ?_ | refine WK.exit ?_ | (apply WK.reg; (· exact lnn)) | refine WKO.nil ?_ | ((first | apply WKO.op); (· first | exact k_mv rfl | exact k_lenL rfl hlen | exact opA); (· rfl)) | refine pN ?_ | refine pX ?_ | refine bX ?_ | (apply WK.condF; (· rfl); (· exact dcd)) | fail)
      have hvl : v = N.length := by omega
      subst hvl
      exact ⟨fr, (.cons rfl <| .cons rfl <| .cons rfl <| .nil _), fun i => a3 i, a4.up rfl (by simp only [next_bump]; omega)⟩
  · rintro fr H ⟨a1, a2⟩
    have hfr := frs_lt a1
    have hfr10 : fr < 1024 := by omega
    repeat' (first | refine WK.seq ?_ | (apply WK.reg; (· exact lnn)) | ((first | apply WKO.op); (· first | exact k_mv rfl); (· rfl)) | fail)
    obtain ⟨H1, hH1⟩ : ∃ H1, (H.bump 4).set (H.next + 1) (some (.cells [nA A] none)) = H1 := ⟨_, rfl⟩
    have hn1 : H1.next = H.next + 4 := by rw [← hH1]; rfl
    have hN1 : H1.get (H.next + 1) = some (.cells [nA A] none) := by rw [← hH1, AHeap.get_set, if_pos rfl]
    have h2n := a2.1
    have hk1 : Kp H0 H1 := ⟨by omega, fun j hj => by rw [← hH1, AHeap.get_set, if_neg (by omega)]; exact a2.2 j hj⟩
    refine WKO.op (k_bs1 rfl rfl) rfl ?_
    rw [hH1]
    repeat' (first | refine WK.seq ?_ | refine WK.block ?_ | (apply WK.reg; (· exact lnn)) | refine WKO.nil ?_ | ((first | apply WKO.op); (· first | exact k_mv rfl); (· rfl)) | refine pN ?_ | fail)
    refine WK.loop (α := Nat × Nat × List Nat × AV) (fun p => [(0, Z), (1, nA A), (5, nA fr), (7, nA p.2.1), (8, p.2.2.2), (9, nA p.1)]) (fun p H => AftI N A fr p.1 p.2.1 p.2.2.1 ∧ p.2.2.1.length + p.1 ≤ 1025 ∧ OutR H p.2.2.2 p.2.2.1 ∧ (∀ j, p.2.2.2.own = some j → H0.next ≤ j) ∧ Kp H0 H) (fun p => p.1) (fr, 0, [A], .sl (H.next + 1) 0 1 1) (.cons rfl <| .cons rfl <| .cons rfl <| .cons rfl <| .cons rfl <| .cons rfl <| .nil _)
      ⟨aft_begin, by simp; omega, .inr ⟨_, A, rfl, rfl, hN1, by simp only [next_bump]; omega⟩, fun j hj => by have := Option.some.inj hj; omega, hk1.up rfl (by simp only [next_bump]; omega)⟩ (by dsimp only; omega) ?_
    rintro ⟨cur, best, cs, V⟩ H2 ⟨b1, b2, b3, b4, b5⟩
    dsimp only at b1 b2 b3 b4 b5 ⊢
    by_cases hc : cur > 0
    · have hcur : cur < 1024 := Nat.lt_of_le_of_lt (by
        have : cur = cur &&& fr := by
          apply Nat.eq_of_testBit_eq
          intro i
          rw [Nat.testBit_and]
          cases q : cur.testBit i with
          | false => rfl
          | true => rw [b1.inn i q]; rfl
        rw [this]
        exact Nat.and_le_right) hfr10
      have hmw : ∀ w ∈ memb 10 cur, w < N.length := fun w hw => bit_lt hfr (b1.inn w (memb_mem.1 hw).2)
      have hml := memb_len 10 cur
      have hmt := mtN_iff hN2 (A := A) hcur
      have hlt : (cur - 1) &&& fr < cur := Nat.lt_of_le_of_lt Nat.and_le_left (by omega)
      have hor := or10 hA hcur
      have b5n := b5.1
      repeat' (first | refine WK.seq ?_ | refine WK.skip ?_ | refine WK.exit ?_ | refine WK.block ?_ | (apply WK.reg; (· exact lnn)) | (refine WKO.callV rfl rfl rfl (h73 cur _ hcur) ?_; rintro _ H3 ⟨rfl, hk3⟩) | refine WKO.nil ?_ | ((first | apply WKO.op | ((first | apply WKO.gop); (· rfl); (· exact dcd))); (· first | exact k_mv rfl | exact k_andN rfl rfl (by omega) (by omega) | exact opA); (· rfl)) | ((first | apply WKO.gnoF); (· rfl); (· exact dcd)) | ((first | apply WKO.gsp); (· rfl); all_goals ((fail_if_success (refine known ?_ ?_; (· assumption))); intro _)) | ((first | apply WKO.gspB); (· rfl); all_goals ((fail_if_success (refine known ?_ ?_; (· assumption))); intro _)) | refine pN ?_ | refine pX ?_ | refine bX ?_ | (apply WK.condT; (· rfl); (· exact dcd)) | fail)
      · rename_i hlt2
        have hlt2 : cnt cur < best := by simpa using hlt2
        have hk23 : Kp H2 H3 := ((Kp.bump 2).trans (Kp.bump 3)).trans hk3
        have h3n := hk23.1
        refine ⟨((cur - 1) &&& fr, best, cs, V), (.cons rfl <| .cons rfl <| .cons rfl <| .cons rfl <| .cons rfl <| .cons rfl <| .nil _), ⟨aft_next b1 (fun ⟨f, _, q⟩ => Nat.lt_irrefl _ (Nat.lt_of_lt_of_le hlt2 q)), by dsimp only; omega, b3.frame (by simp only [next_bump]; omega) (fun i q => hk23.2 i (b3.own_lt q)), b4, b5.trans (hk23.up rfl (by simp only [next_bump]; omega))⟩, hlt⟩
      · rename_i q1 q2
        exact absurd (of_decide_eq_true q2) q1
      · have hk23 : Kp H2 H3 := ((Kp.bump 2).trans (Kp.bump 3)).trans hk3
        have h3n := hk23.1
        rename_i hge _
        refine WKO.gcallV rfl dcd rfl rfl rfl (h40 cur _ hcur) ?_
        rintro y H4 ⟨r1, r2, r3⟩
        have hk24 : Kp H2 H4 := (hk23.trans (Kp.bump _)).trans r3
        have h4n := hk24.1
        have hO4 : OutR H4 V cs := b3.frame h4n (fun i q => hk24.2 i (b3.own_lt q))
        cases hmtc : mtN N A (memb 10 cur) with
        | false =>
          repeat' (first | refine WK.exit ?_ | (apply WK.reg; (· exact lnn)) | refine WKO.nil ?_ | ((first | apply WKO.op | ((first | apply WKO.gop); (· rfl); (· exact dcd))); (· first | exact k_mv rfl | exact k_call rfl rfl (h74 _ _ (memb 10 cur) (hZ.kp (b5.trans hk24)) (cellsA_rd (RdR.of r1)) hml hmw) | exact k_andN rfl rfl (by omega) (by omega) | exact opA); (· rfl)) | refine pN ?_ | refine pX ?_ | refine bX ?_ | (apply WK.condT; (· rfl); (· exact dcd)) | fail)
          all_goals (try (rename_i q; rw [hmtc] at q; cases q))
          refine ⟨((cur - 1) &&& fr, best, cs, V), (.cons rfl <| .cons rfl <| .cons rfl <| .cons rfl <| .cons rfl <| .cons rfl <| .nil _), ⟨aft_next b1 (fun ⟨f, q, _⟩ => ?_), by dsimp only; omega, hO4.frame (by simp only [next_bump]; omega) (fun _ _ => rfl), b4, b5.trans (hk24.up rfl (by simp only [next_bump]; omega))⟩, hlt⟩
          have := hmt.2 ⟨f, q⟩
          rw [hmtc] at this
          cases this
        | true =>
          obtain ⟨f, hf⟩ := hmt.1 hmtc
          repeat' (first | refine WK.seq ?_ | refine WK.skip ?_ | (apply WK.reg; (· exact lnn)) | refine WKO.nil ?_ | ((first | apply WKO.op | ((first | apply WKO.gop); (· rfl); (· exact dcd))); (· first | exact k_mv rfl | exact k_call rfl rfl (h74 _ _ (memb 10 cur) (hZ.kp (b5.trans hk24)) (cellsA_rd (RdR.of r1)) hml hmw) | exact k_orN rfl rfl (by omega) (by omega) | exact opA); (· rfl)) | refine pN ?_ | (apply WK.condF; (· rfl); (· exact dcd)) | (apply WK.condD; (· rfl); all_goals intro _) | fail)
          · obtain ⟨H5, hH5⟩ : ∃ H5, (((H4.bump 3).bump 3).bump 7).set (((H4.bump 3).bump 3).next + 1 + 1 + 1 + 1) (some (.cells [nA (A ||| cur)] none)) = H5 := ⟨_, rfl⟩
            have hn5 : H5.next = H4.next + 13 := by rw [← hH5]; rfl
            have hN5 : H5.get (((H4.bump 3).bump 3).next + 1 + 1 + 1 + 1) = some (.cells [nA (A ||| cur)] none) := by rw [← hH5, AHeap.get_set, if_pos rfl]
            have hg5 : ∀ k, k < H4.next → H5.get k = H4.get k := fun k hk => by
              rw [← hH5, AHeap.get_set, if_neg (by simp only [next_bump]; omega)]
              rfl
            obtain ⟨v', H6, e6, O6, hn6, hg6, ho6⟩ := (show OutR H5 .nils [] from .inl (Row.nil 1 _)).app (a := A ||| cur) (by decide) hN5
            refine WKO.op (k_bs1 rfl rfl) rfl ?_
            rw [hH5]
            refine WKO.op (k_app rfl rfl e6) rfl ?_
            repeat' (first | (apply WK.reg; (· exact lnn)) | refine WKO.nil ?_ | ((first | apply WKO.op); (· first | exact k_mv rfl | exact k_andN rfl rfl (by omega) (by omega) | exact opA); (· rfl)) | refine pN ?_ | refine bN ?_ | fail)
            rename_i hgt
            refine ⟨((cur - 1) &&& fr, cnt cur, [A ||| cur], v'), (.cons rfl <| .cons rfl <| .cons rfl <| .cons rfl <| .cons rfl <| .cons rfl <| .nil _), ⟨aft_gt b1 hf hgt, by simp; omega, O6.frame (by simp only [next_bump]; omega) (fun _ _ => rfl), fun j hj => ?_, b5.trans (hk24.trans ⟨by simp only [next_bump]; omega, fun j hj => ?_⟩)⟩, hlt⟩
            · rcases ho6 j hj with h | h
              · cases h
              · omega
            · exact (hg6 j (by omega) (by simp [AV.own])).trans (hg5 j hj)
          · rename_i hng _
            have heq : cnt cur = best := by omega
            obtain ⟨H5, hH5⟩ : ∃ H5, ((H4.bump 3).bump 7).set ((H4.bump 3).next + 1 + 1 + 1 + 1) (some (.cells [nA (A ||| cur)] none)) = H5 := ⟨_, rfl⟩
            have hn5 : H5.next = H4.next + 10 := by rw [← hH5]; rfl
            have hN5 : H5.get ((H4.bump 3).next + 1 + 1 + 1 + 1) = some (.cells [nA (A ||| cur)] none) := by rw [← hH5, AHeap.get_set, if_pos rfl]
            have hg5 : ∀ k, k < H4.next → H5.get k = H4.get k := fun k hk => by
              rw [← hH5, AHeap.get_set, if_neg (by simp only [next_bump]; omega)]
              rfl
            have hO5 : OutR H5 V cs := hO4.frame (by omega) (fun i q => hg5 i (hO4.own_lt q))
            obtain ⟨v', H6, e6, O6, hn6, hg6, ho6⟩ := hO5.app (a := A ||| cur) (by omega) hN5
            refine WKO.op (k_bs1 rfl rfl) rfl ?_
            rw [hH5]
            refine WKO.op (k_app rfl rfl e6) rfl ?_
            repeat' (first | (apply WK.reg; (· exact lnn)) | refine WKO.nil ?_ | ((first | apply WKO.op); (· first | exact k_mv rfl | exact k_andN rfl rfl (by omega) (by omega) | exact opA); (· rfl)) | refine pN ?_ | refine bN ?_ | fail)
            refine ⟨((cur - 1) &&& fr, best, cs ++ [A ||| cur], v'), (.cons rfl <| .cons rfl <| .cons rfl <| .cons rfl <| .cons rfl <| .cons rfl <| .nil _), ⟨aft_eq b1 hf heq, by simp only [List.length_append, List.length_cons, List.length_nil]; omega, O6.frame (by simp only [next_bump]; omega) (fun _ _ => rfl), fun j hj => ?_, ⟨by simp only [next_bump]; omega, fun j hj => ?_⟩⟩, hlt⟩
            · rcases ho6 j hj with h | h
              · exact b4 j h
              · omega
            · exact (hg6 j (by omega) (fun q => absurd (b4 j q) (by omega))).trans ((hg5 j (by omega)).trans ((b5.trans hk24).2 j hj))
    · repeat' (first | refine WK.seq ?_ | refine WK.ret ?_ | refine WK.exit ?_ | (apply WK.reg; (· exact lnn)) | refine WKO.nil ?_ | ((first | apply WKO.op); (· first | exact k_mv rfl | exact opA); (· rfl)) | refine pN ?_ | refine pX ?_ | refine bX ?_ | (apply WK.condF; (· rfl); (· exact dcd)) | fail)
      have h0 : cur = 0 := by omega
      subst h0
      exact ⟨nofun, _, rfl, cs, b3.frame (by simp only [next_bump]; omega) (fun _ _ => rfl), aft_end a1 b1, by omega, b4, b5.up rfl (by simp only [next_bump]; omega)⟩
end Go.Proofs.Ytpbighinamljbaa.PA
namespace Go.Proofs.Ytpbighinamljbaa.PA
open Go Go.Eng Go.Proofs
structure RndI (N : List Nat) (s k : Nat) (L : List Nat) : Prop where
  nd : L.Nodup
  r : ∀ x ∈ L, Rcs N k (2 ^ s) x
  c : ∀ B, Rcs N k (2 ^ s) B → ∃ x ∈ L, Inn B x
structure RndJ (N : List Nat) (s k : Nat) (L : List Nat) (i : Nat) (M : List Nat) : Prop where
  nd : M.Nodup
  r : ∀ x ∈ M, Rcs N (k + 1) (2 ^ s) x
  c : ∀ j x, j < i → L[j]? = some x → ∀ B, St1 N x B → ∃ y ∈ M, Inn B y
theorem rnd_begin {N : List Nat} {s : Nat} : RndI N s 0 [2 ^ s] :=
  ⟨by simp, fun x hx => by
    have : x = 2 ^ s := by simpa using hx
    exact this.symm, fun B hB => ⟨2 ^ s, by simp, by
    have : 2 ^ s = B := hB
    rw [this]; exact Inn.refl _⟩⟩
theorem rnd_lt {N : List Nat} {s k x : Nat} (hN : NOk N) (hs : s < N.length) (h : Rcs N k (2 ^ s) x) : x < 2 ^ N.length := Rcs.lt hN.lt (Nat.pow_lt_pow_right (by omega) hs) h
theorem rnd_full {N : List Nat} {s k : Nat} {L : List Nat} (hN : NOk N) (hs : s < N.length) (h : RndI N s k L) (hr : Rcs N k (2 ^ s) (2 ^ N.length - 1)) : 2 ^ N.length - 1 ∈ L := by
  obtain ⟨x, hx, hi⟩ := h.c _ hr
  have := Inn.eq hi (inn_full (rnd_lt hN hs (h.r x hx)))
  rwa [this]
theorem rndJ_nil {N : List Nat} {s k : Nat} {L : List Nat} : RndJ N s k L 0 [] := ⟨by simp, by simp, fun j x hj => absurd hj (Nat.not_lt_zero _)⟩
theorem rndJ_step {N : List Nat} {s k i x : Nat} {L M M' cs : List Nat} (hN : NOk N) (h : RndJ N s k L i M) (hx : L[i]? = some x) (hA : AftR N x cs) (hd : M'.Nodup) (hs : ∀ x ∈ M', Rcs N (k + 1) (2 ^ s) x) (h1 : ∀ y ∈ M, y ∈ M') (h2 : ∀ y ∈ cs, y ∈ M') : RndJ N s k L (i + 1) M' :=
  ⟨hd, hs, fun j y hj hy B hB => by
    by_cases e : j < i
    · obtain ⟨z, z1, z2⟩ := h.c j y e hy B hB
      exact ⟨z, h1 z z1, z2⟩
    · obtain rfl : j = i := by omega
      rw [hx] at hy
      cases hy
      obtain ⟨z, z1, z2⟩ := aft_cp hN.sym hN.lt hN.l10 hA hB
      exact ⟨z, h2 z z1, z2⟩⟩
theorem rnd_next {N : List Nat} {s k : Nat} {L M : List Nat} (hI : RndI N s k L) (h : RndJ N s k L L.length M) : RndI N s (k + 1) M :=
  ⟨h.nd, h.r, fun B ⟨C, c1, c2⟩ => by
    obtain ⟨x, hx, hi⟩ := hI.c C c1
    obtain ⟨j, hj, e⟩ := List.mem_iff_getElem.1 hx
    obtain ⟨y, y1, y2⟩ := h.c j x hj (by rw [List.getElem?_eq_getElem hj, e]) _ (c2.mono hi)
    exact ⟨y, y1, (Inn.orr _ _).trans y2⟩⟩
def OutL (H : AHeap) (v : AV) (cs : List Nat) : Prop := OutR H v cs ∨ (cs = [] ∧ ∃ i, v = .sl i 0 0 0 ∧ i < H.next ∧ H.get i = some (.cells [] none))
theorem OutL.rd {H : AHeap} {v : AV} {cs : List Nat} (h : OutL H v cs) : RdR 1 H v cs.length (cs.map nA) := by
  rcases h with h | ⟨rfl, h⟩
  · exact h.rd
  · exact RdR.of (.inr ⟨rfl, rfl, h⟩)
theorem OutL.frame {H H' : AHeap} {v : AV} {cs : List Nat} (h : OutL H v cs) (hn : H.next ≤ H'.next) (hg : ∀ i, v.own = some i → H'.get i = H.get i) : OutL H' v cs := by
  rcases h with h | ⟨rfl, i, rfl, h1, h2⟩
  · exact .inl (h.frame hn hg)
  · exact .inr ⟨rfl, i, rfl, by omega, (hg i rfl).trans h2⟩
theorem OutL.own_lt {H : AHeap} {v : AV} {cs : List Nat} (h : OutL H v cs) {i : Nat} (hi : v.own = some i) : i < H.next := by
  rcases h with h | ⟨rfl, i, rfl, h1, h2⟩
  · exact h.own_lt hi
  · cases hi; exact h1
theorem OutL.app {H : AHeap} {v : AV} {cs : List Nat} {j a : Nat} (h : OutL H v cs) (hl : cs.length < 5000) (hj : H.get j = some (.cells [nA a] none)) :
    ∃ v' H', appA H 1 8 v (.sl j 0 1 1) = .eff v' H' ∧ OutL H' v' (cs ++ [a]) ∧ H.next ≤ H'.next ∧ (∀ k, k < H.next → v.own ≠ some k → H'.get k = H.get k) ∧ (∀ i, v'.own = some i → v.own = some i ∨ H.next ≤ i) := by
  rcases h with h | ⟨rfl, h⟩
  · obtain ⟨v', H', q1, q2, q3⟩ := h.app hl hj
    exact ⟨v', H', q1, .inl q2, q3⟩
  · have hs : srcA H 1 1 (.sl j 0 1 1) = some [nA a] := by simp [srcA, hj]
    obtain ⟨v', H', q1, q2, q3⟩ := (show RowE 1 H v 0 [] from .inr ⟨rfl, rfl, h⟩).app (bytes := 8) (n := 1) (y := .sl j 0 1 1) (new := [nA a]) (by omega) (by omega) (by omega) (by omega) rfl hs rfl rfl
    exact ⟨v', H', q1, .inl (.inl q2), q3⟩
end Go.Proofs.Ytpbighinamljbaa.PA
namespace Go.Proofs.Ytpbighinamljbaa.PA
open Go Go.Eng Go.Proofs
theorem len_le1024 {N : List Nat} (hN : NOk N) {L : List Nat} (hd : L.Nodup) (h : ∀ x ∈ L, x < 2 ^ N.length) : L.length ≤ 1024 := by
  have := nodup_le (m := List.range 1024) hd (fun x hx => List.mem_range.2 (Nat.lt_of_lt_of_le (h x hx) (pow_le10 hN.l10)))
  rwa [List.length_range] at this
set_option maxHeartbeats 2000000 in
theorem x20 {cf : CF} {fuel s T : Nat} {H0 : AHeap} {N : List Nat} {Z : AV} (hN : NOk N) (hs : s < N.length) (hT : IsT N s T) (hT10 : T < 10) (hZ : RdR 1 H0 Z N.length (N.map nA)) (hfu : 1500 < fuel)
    (h48 : ∀ A H, A < 2 ^ N.length → RdR 1 H Z N.length (N.map nA) → ∃ u H', cf 48 [Z, nA A] H = some (u, H') ∧ ∃ cs, OutR H' u cs ∧ AftR N A cs ∧ cs.length ≤ 1025 ∧ (∀ j, u.own = some j → H.next ≤ j) ∧ Kp H H') :
    ∃ u H', xfunc cf fuel L20 [Z, nA s] H0 = some (u, H') ∧ u = nA T ∧ Kp H0 H' := by
  refine xfunc_ofK rfl (by show 2 ≤ 75; omega) ?_
  have hl10 := hN.l10
  have hp10 := pow_le10 hl10
  have hsp : 2 ^ s < 2 ^ N.length := Nat.pow_lt_pow_right (by omega) hs
  have h1p := Nat.one_le_two_pow (n := N.length)
  unfold L20
  dsimp only
  repeat' (first | refine WK.seq ?_ | (apply WK.reg; (· exact lnn)) | refine WKO.nil ?_ | ((first | apply WKO.op); (· first | exact k_mv rfl | exact k_shl1 rfl rfl (by omega)); (· rfl)) | refine pN ?_ | fail)
  obtain ⟨H1, hH1⟩ : ∃ H1, ((H0.bump 1).bump 4).set ((H0.bump 1).next + 1 + 1) (some (.cells [nA (2 ^ s)] none)) = H1 := ⟨_, rfl⟩
  have hn1 : H1.next = H0.next + 5 := by rw [← hH1]; rfl
  have hg1 : H1.get ((H0.bump 1).next + 1 + 1) = some (.cells [nA (2 ^ s)] none) := by rw [← hH1, AHeap.get_set, if_pos rfl]
  have hk1 : Kp H0 H1 := ⟨by omega, fun j hj => by rw [← hH1, AHeap.get_set, if_neg (by simp only [next_bump]; omega)]; rfl⟩
  refine WKO.op (k_bs1 rfl rfl) rfl ?_
  rw [hH1]
  repeat' (first | refine WK.seq ?_ | refine WK.block ?_ | (apply WK.reg; (· exact lnn)) | refine WKO.nil ?_ | ((first | apply WKO.op); (· first | exact k_mv rfl); (· rfl)) | refine pN ?_ | fail)
  refine WK.loop (α := Nat × List Nat × AV) (fun p => [(0, Z), (5, p.2.2), (6, nA p.1)]) (fun p H => RndI N s p.1 p.2.1 ∧ p.1 ≤ T ∧ OutL H p.2.2 p.2.1 ∧ Kp H0 H) (fun p => T + 1 - p.1) (0, [2 ^ s], .sl ((H0.bump 1).next + 1 + 1) 0 1 1) (.cons rfl <| .cons rfl <| .cons rfl <| .nil _)
    ⟨rnd_begin, Nat.zero_le _, .inl (.inr ⟨_, _, rfl, rfl, hg1, by simp only [next_bump]; omega⟩), hk1.up rfl (by simp only [next_bump]; omega)⟩ (by omega) ?_
  rintro ⟨r, L, V⟩ H ⟨a1, a2, a3, a4⟩
  dsimp only at a1 a2 a3 a4 ⊢
  have hLl := len_le1024 hN a1.nd (fun x hx => rnd_lt hN hs (a1.r x hx))
  have h4n := a4.1
  repeat' (first | refine WK.seq ?_ | refine WK.block ?_ | (apply WK.reg; (· exact lnn)) | fail)
  obtain ⟨H2, hH2⟩ : ∃ H2, (H.bump 2).set H.next (some (.cells [] none)) = H2 := ⟨_, rfl⟩
  have hn2 : H2.next = H.next + 2 := by rw [← hH2]; rfl
  have hg2 : H2.get H.next = some (.cells [] none) := by rw [← hH2, AHeap.get_set, if_pos rfl]
  have hk2 : Kp H H2 := ⟨by omega, fun j hj => by rw [← hH2, AHeap.get_set, if_neg (by omega)]; rfl⟩
  refine WKO.op k_bs0 rfl ?_
  rw [hH2]
  repeat' (first | refine WK.seq ?_ | refine WK.block ?_ | (apply WK.reg; (· exact lnn)) | refine WKO.nil ?_ | ((first | apply WKO.op); (· first | exact k_mv rfl); (· rfl)) | refine pN ?_ | fail)
  refine WK.loop (α := Nat × List Nat × AV) (fun p => [(0, Z), (5, V), (6, nA r), (7, p.2.2), (8, nA p.1)]) (fun p H' => RndJ N s r L p.1 p.2.1 ∧ p.1 ≤ L.length ∧ (∀ j, j < p.1 → L[j]? ≠ some (2 ^ N.length - 1)) ∧ OutL H' p.2.2 p.2.1 ∧ (∀ j, p.2.2.own = some j → H.next ≤ j) ∧ Kp H H') (fun p => L.length - p.1) (0, [], .sl H.next 0 0 0) (.cons rfl <| .cons rfl <| .cons rfl <| .cons rfl <| .cons rfl <| .nil _)
    ⟨rndJ_nil, Nat.zero_le _, fun j hj => absurd hj (Nat.not_lt_zero _), .inr ⟨rfl, _, rfl, by simp only [next_bump]; omega, hg2⟩, fun j hj => Nat.le_of_eq (Option.some.inj hj), hk2.up rfl (by simp only [next_bump]; omega)⟩ (by dsimp only; omega) ?_
  rintro ⟨i, M, W⟩ H' ⟨b1, b2, b3, b4, b5, b6⟩
  dsimp only at b1 b2 b3 b4 b5 b6 ⊢
  have hVH : OutL H' V L := a3.frame b6.1 (fun j q => b6.2 j (a3.own_lt q))
  have hVr := hVH.rd
  have hVl := hVr.len
  have hZH := hZ.kp (a4.trans b6)
  have hZl := hZH.len
  by_cases hi : i < L.length
  · have hgi : (L.map nA)[i * 1]? = some (nA (L.getD i 0)) := by rw [Nat.mul_one]; exact map_at hi
    repeat' (first | refine WK.seq ?_ | refine WK.skip ?_ | refine WK.ret ?_ | refine WK.block ?_ | (apply WK.reg; (· exact lnn)) | (apply WK.regC; (· rfl); (· exact lnn); (· decide)) | refine WKC.nil ?_ | refine WKO.nil ?_ | ((first | apply WKC.op | apply WKO.op); (· first | exact k_mv rfl | exact k_lenL rfl hVl | exact k_iaE rfl rfl hVr hi | (apply k_ldY; (· rfl); (· exact hVr); (· exact fun _ _ => rfl); (· exact hgi)) | exact k_lenL rfl hZl | exact k_shl1 rfl rfl (by omega) | exact k_subN rfl rfl (by omega) (by omega) | exact opA); (· rfl)) | refine pN ?_ | refine pR ?_ | refine bR ?_ | (apply WK.condT; (· rfl); (· exact dcd)) | (apply WK.condD; (· rfl); all_goals intro _) | fail)
    · rename_i hf
      have hm : 2 ^ N.length - 1 ∈ L := by
        rw [← hf, List.getD_eq_getElem?_getD, List.getElem?_eq_getElem hi]
        exact List.getElem_mem hi
      have : T = r := by
        have := hT.le (a1.r _ hm)
        omega
      subst this
      exact ⟨nofun, _, rfl, rfl, (a4.trans b6).up rfl (by simp only [next_bump]; omega)⟩
    · rename_i hf
      have hxm : L.getD i 0 ∈ L := by
        rw [List.getD_eq_getElem?_getD, List.getElem?_eq_getElem hi]
        exact List.getElem_mem hi
      have hxe : L[i]? = some (L.getD i 0) := by rw [List.getD_eq_getElem?_getD, List.getElem?_eq_getElem hi]; rfl
      generalize hx : L.getD i 0 = x at *
      have hxR := a1.r x hxm
      have hx2 := rnd_lt hN hs hxR
      refine WKO.callV rfl rfl rfl (h48 x _ hx2 (hZH.kp (Kp.eqm rfl (by simp only [next_bump]; omega)))) ?_
      rintro C H3 ⟨cs, c1, c2, c3, c4, c5⟩
      have hk3 : Kp H' H3 := ((Kp.bump 4).trans ((Kp.bump 9).trans (Kp.bump 7))).trans c5
      have h3n := hk3.1
      have hcs := aft_sound hN.sym c2
      have hMO : OutL H3 W M := b4.frame h3n (fun j q => hk3.2 j (b4.own_lt q))
      repeat' (first | refine WK.seq ?_ | refine WK.block ?_ | (apply WK.reg; (· exact lnn)) | refine WKO.nil ?_ | ((first | apply WKO.op); (· first | exact k_mv rfl); (· rfl)) | refine pN ?_ | fail)
      refine WK.loop (α := Nat × List Nat × AV) (fun p => [(0, Z), (5, V), (6, nA r), (7, p.2.2), (8, nA i), (9, C), (10, nA p.1)]) (fun p H' => p.1 ≤ cs.length ∧ p.2.1.Nodup ∧ (∀ y ∈ p.2.1, Rcs N (r + 1) (2 ^ s) y) ∧ (∀ y ∈ M, y ∈ p.2.1) ∧ (∀ j y, j < p.1 → cs[j]? = some y → y ∈ p.2.1) ∧ OutL H' p.2.2 p.2.1 ∧ (∀ j, p.2.2.own = some j → H.next ≤ j ∧ C.own ≠ some j) ∧ Kp H H' ∧ OutR H' C cs) (fun p => cs.length - p.1) (0, M, W) (.cons rfl <| .cons rfl <| .cons rfl <| .cons rfl <| .cons rfl <| .cons rfl <| .cons rfl <| .nil _)
        ⟨Nat.zero_le _, b1.nd, b1.r, fun y hy => hy, fun j y hj => absurd hj (Nat.not_lt_zero _), hMO.frame (by simp only [next_bump]; omega) (fun _ _ => rfl), fun j hj => ⟨b5 j hj, fun q => ?_⟩, (b6.trans hk3).up rfl (by simp only [next_bump]; omega), c1.frame (by simp only [next_bump]; omega) (fun _ _ => rfl)⟩ (by dsimp only; omega) ?_
      · have q1 := c4 j q
        have q2 := b4.own_lt hj
        simp only [next_bump] at q1
        omega
      rintro ⟨p, Q, U⟩ H4 ⟨d1, d2, d3, d4, d5, d6, d7, d8, d9⟩
      dsimp only at d1 d2 d3 d4 d5 d6 d7 d8 d9 ⊢
      have hCr := d9.rd
      have hCl := hCr.len
      have hQr := d6.rd
      have hQl := hQr.len
      have hQle := len_le1024 hN d2 (fun x hx => rnd_lt hN hs (d3 x hx))
      by_cases hp : p < cs.length
      · have hgp : (cs.map nA)[p * 1]? = some (nA (cs.getD p 0)) := by rw [Nat.mul_one]; exact map_at hp
        have hcm : cs.getD p 0 ∈ cs := by
          rw [List.getD_eq_getElem?_getD, List.getElem?_eq_getElem hp]
          exact List.getElem_mem hp
        have hce : cs[p]? = some (cs.getD p 0) := by rw [List.getD_eq_getElem?_getD, List.getElem?_eq_getElem hp]; rfl
        generalize hcc : cs.getD p 0 = c at *
        have hcR : Rcs N (r + 1) (2 ^ s) c := ⟨x, hxR, hcs c hcm⟩
        repeat' (first | refine WK.seq ?_ | refine WK.skip ?_ | refine WK.block ?_ | (apply WK.reg; (· exact lnn)) | refine WKO.nil ?_ | ((first | apply WKO.op); (· first | exact k_mv rfl | exact k_lenL rfl hCl | exact opA); (· rfl)) | refine pN ?_ | (apply WK.condT; (· rfl); (· exact dcd)) | fail)
        refine WK.loop (α := Nat × Bool) (fun q => [(0, Z), (5, V), (6, nA r), (7, U), (8, nA i), (9, C), (10, nA p), (11, .bool q.2), (12, nA q.1)]) (fun q H' => q.1 ≤ Q.length ∧ (q.2 = true ↔ c ∈ Q.take q.1) ∧ H'.m = H4.m ∧ H4.next ≤ H'.next) (fun q => Q.length - q.1) (0, false) (.cons rfl <| .cons rfl <| .cons rfl <| .cons rfl <| .cons rfl <| .cons rfl <| .cons rfl <| .cons rfl <| .cons rfl <| .nil _)
          ⟨Nat.zero_le _, by simp, rfl, by simp only [next_bump]; omega⟩ (by dsimp only; omega) ?_
        rintro ⟨k, hb⟩ H5 ⟨e1, e2, e3, e4⟩
        dsimp only at e1 e2 e3 e4 ⊢
        have hQ5 := hQr.kp (Kp.eqm e3 e4)
        have hC5 := hCr.kp (Kp.eqm e3 e4)
        have hU5 : OutL H5 U Q := d6.frame e4 (fun j _ => (show H5.m.get j = _ by rw [e3]; rfl))
        have hC55 : OutR H5 C cs := d9.frame e4 (fun j _ => (show H5.m.get j = _ by rw [e3]; rfl))
        have hk5 := d8.trans (Kp.eqm e3 e4)
        have h5n := hk5.1
        by_cases hk : k < Q.length
        · have hgk : (Q.map nA)[k * 1]? = some (nA (Q.getD k 0)) := by rw [Nat.mul_one]; exact map_at hk
          have htk : Q.take (k + 1) = Q.take k ++ [Q.getD k 0] := by
            rw [List.take_add_one, List.getD_eq_getElem?_getD, List.getElem?_eq_getElem hk]
            rfl
          cases hb with
          | true =>
            repeat' (first | refine WK.seq ?_ | refine WK.skip ?_ | refine WK.block ?_ | (apply WK.reg; (· exact lnn)) | (apply WK.regC; (· rfl); (· exact lnn); (· decide)) | refine WKC.nil ?_ | refine WKO.nil ?_ | ((first | apply WKC.op | apply WKO.op); (· first | exact k_mv rfl | exact k_lenL rfl hQl | exact opA); (· rfl)) | ((first | apply WKC.gnoF); (· rfl); (· exact dcd)) | refine pN ?_ | refine bN ?_ | (apply WK.condT; (· rfl); (· exact dcd)) | fail)
            refine ⟨(k + 1, true), (.cons rfl <| .cons rfl <| .cons rfl <| .cons rfl <| .cons rfl <| .cons rfl <| .cons rfl <| .cons rfl <| .cons rfl <| .nil _), ⟨hk, ?_, e3, by simp only [next_bump]; omega⟩, by dsimp only; omega⟩
            rw [htk, List.mem_append]
            exact iff_of_true rfl (.inl (e2.1 rfl))
          | false =>
            repeat' (first | refine WK.seq ?_ | refine WK.skip ?_ | refine WK.block ?_ | (apply WK.reg; (· exact lnn)) | (apply WK.regC; (· rfl); (· exact lnn); (· decide)) | refine WKC.nil ?_ | refine WKO.nil ?_ | ((first | apply WKC.op | apply WKO.op | ((first | apply WKC.gop); (· rfl); (· exact dcd))); (· first | exact k_mv rfl | exact k_lenL rfl hQl | exact k_iaE rfl rfl hQ5 hk | (apply k_ldY; (· rfl); (· exact hQ5); (· exact fun _ _ => rfl); (· exact hgk)) | exact k_iaE rfl rfl hC5 hp | (apply k_ldY; (· rfl); (· exact hC5); (· exact fun _ _ => rfl); (· exact hgp)) | exact opA); (· rfl)) | refine pN ?_ | refine bN ?_ | (apply WK.condT; (· rfl); (· exact dcd)) | fail)
            refine ⟨(k + 1, decide (Q.getD k 0 = c)), (.cons rfl <| .cons rfl <| .cons rfl <| .cons rfl <| .cons rfl <| .cons rfl <| .cons rfl <| .cons rfl <| .cons rfl <| .nil _), ⟨hk, ?_, e3, by simp only [next_bump]; omega⟩, by dsimp only; omega⟩
            rw [htk, List.mem_append, decide_eq_true_iff]
            constructor
            · intro q; exact .inr (by rw [q]; exact .head _)
            · rintro (q | q)
              · cases e2.2 q
              · exact (List.mem_singleton.1 q).symm
        · obtain rfl : k = Q.length := by omega
          rw [List.take_length] at e2
          cases hb with
          | true =>
            repeat' (first | refine WK.seq ?_ | refine WK.skip ?_ | refine WK.exit ?_ | (apply WK.reg; (· exact lnn)) | refine WKO.nil ?_ | ((first | apply WKO.op); (· first | exact k_mv rfl | exact k_lenL rfl hQl | exact opA); (· rfl)) | refine pN ?_ | refine pX ?_ | refine bN ?_ | refine bX ?_ | (apply WK.condF; (· rfl); (· exact dcd)) | fail)
            refine ⟨(p + 1, Q, U), (.cons rfl <| .cons rfl <| .cons rfl <| .cons rfl <| .cons rfl <| .cons rfl <| .cons rfl <| .nil _), ⟨hp, d2, d3, d4, fun j y hj hy => ?_, hU5.frame (by simp only [next_bump]; omega) (fun _ _ => rfl), d7, hk5.up rfl (by simp only [next_bump]; omega), hC55.frame (by simp only [next_bump]; omega) (fun _ _ => rfl)⟩, by dsimp only; omega⟩
            by_cases e : j < p
            · exact d5 j y e hy
            · obtain rfl : j = p := by dsimp only at hj; omega
              rw [hce] at hy
              cases hy
              exact e2.1 rfl
          | false =>
            have hnm : c ∉ Q := fun q => by cases e2.2 q
            repeat' (first | refine WK.seq ?_ | refine WK.exit ?_ | (apply WK.reg; (· exact lnn)) | refine WKO.nil ?_ | ((first | apply WKO.op); (· first | exact k_mv rfl | exact k_lenL rfl hQl | exact k_iaE rfl rfl hC5 hp | (apply k_ldY; (· rfl); (· exact hC5); (· exact fun _ _ => rfl); (· exact hgp)) | exact opA); (· rfl)) | refine pN ?_ | refine pX ?_ | refine bX ?_ | (apply WK.condT; (· rfl); (· exact dcd)) | (apply WK.condF; (· rfl); (· exact dcd)) | fail)
            obtain ⟨H6, hH6⟩ : ∃ H6, (((H5.bump 4).bump 2).bump 8).set (((H5.bump 4).bump 2).next + 1 + 1 + 1 + 1 + 1) (some (.cells [nA c] none)) = H6 := ⟨_, rfl⟩
            have hn6 : H6.next = H5.next + 14 := by rw [← hH6]; rfl
            have hN6 : H6.get (((H5.bump 4).bump 2).next + 1 + 1 + 1 + 1 + 1) = some (.cells [nA c] none) := by rw [← hH6, AHeap.get_set, if_pos rfl]
            have hg6 : ∀ k, k < H5.next → H6.get k = H5.get k := fun k hk => by
              rw [← hH6, AHeap.get_set, if_neg (by simp only [next_bump]; omega)]
              rfl
            have hU6 : OutL H6 U Q := hU5.frame (by omega) (fun i q => hg6 i (hU5.own_lt q))
            obtain ⟨v', H7, e7, O7, hn7, hg7, ho7⟩ := hU6.app (a := c) (by omega) hN6
            refine WKO.op (k_bs1 rfl rfl) rfl ?_
            rw [hH6]
            refine WKO.op (k_app rfl rfl e7) rfl ?_
            repeat' (first | (apply WK.reg; (· exact lnn)) | refine WKO.nil ?_ | ((first | apply WKO.op); (· first | exact k_mv rfl | exact opA); (· rfl)) | refine pN ?_ | refine bN ?_ | fail)
            refine ⟨(p + 1, Q ++ [c], v'), (.cons rfl <| .cons rfl <| .cons rfl <| .cons rfl <| .cons rfl <| .cons rfl <| .cons rfl <| .nil _), ⟨hp, ?_, fun y hy => ?_, fun y hy => List.mem_append.2 (.inl (d4 y hy)), fun j y hj hy => ?_, O7.frame (by simp only [next_bump]; omega) (fun _ _ => rfl), fun j hj => ?_, ⟨by simp only [next_bump]; omega, fun j hj => ?_⟩, hC55.frame (by simp only [next_bump]; omega) (fun j q => ?_)⟩, by dsimp only; omega⟩
            · exact List.nodup_append.2 ⟨d2, by simp, fun a ha b hb' => by
                rw [List.mem_singleton.1 hb']
                rintro rfl
                exact hnm ha⟩
            · rcases List.mem_append.1 hy with q | q
              · exact d3 y q
              · rw [List.mem_singleton.1 q]
                exact hcR
            · by_cases e : j < p
              · exact List.mem_append.2 (.inl (d5 j y e hy))
              · obtain rfl : j = p := by dsimp only at hj; omega
                rw [hce] at hy
                cases hy
                exact List.mem_append.2 (.inr (.head _))
            · rcases ho7 j hj with q | q
              · exact d7 j q
              · refine ⟨by omega, fun q2 => ?_⟩
                have := d9.own_lt q2
                omega
            · have q1 : U.own ≠ some j := fun q => by have := (d7 j q).1; omega
              exact (hg7 j (by omega) q1).trans ((hg6 j (by omega)).trans (hk5.2 j hj))
            · have q1 : U.own ≠ some j := fun q2 => (d7 j q2).2 q
              have q3 := hC55.own_lt q
              exact (hg7 j (by omega) q1).trans (hg6 j q3)
      · repeat' (first | refine WK.seq ?_ | refine WK.exit ?_ | (apply WK.reg; (· exact lnn)) | refine WKO.nil ?_ | ((first | apply WKO.op); (· first | exact k_mv rfl | exact k_lenL rfl hCl | exact opA); (· rfl)) | refine pN ?_ | refine pX ?_ | refine bN ?_ | refine bX ?_ | (apply WK.condF; (· rfl); (· exact dcd)) | fail)
        obtain rfl : p = cs.length := by omega
        refine ⟨(i + 1, Q, U), (.cons rfl <| .cons rfl <| .cons rfl <| .cons rfl <| .cons rfl <| .nil _), ⟨rndJ_step hN b1 hxe c2 d2 d3 d4 (fun y hy => ?_), hi, fun j hj => ?_, d6.frame (by simp only [next_bump]; omega) (fun _ _ => rfl), fun j hj => (d7 j hj).1, d8.up rfl (by simp only [next_bump]; omega)⟩, by dsimp only; omega⟩
        · obtain ⟨j, hj, e⟩ := List.mem_iff_getElem.1 hy
          exact d5 j y hj (by rw [List.getElem?_eq_getElem hj, e])
        · by_cases e : j < i
          · exact b3 j e
          · obtain rfl : j = i := by dsimp only at hj; omega
            rw [hxe]
            exact fun q => hf (Option.some.inj q)
  · repeat' (first | refine WK.seq ?_ | refine WK.exit ?_ | (apply WK.reg; (· exact lnn)) | refine WKO.nil ?_ | ((first | apply WKO.op); (· first | exact k_mv rfl | exact k_lenL rfl hVl | exact opA); (· rfl)) | refine pN ?_ | refine pX ?_ | refine bN ?_ | refine bX ?_ | (apply WK.condF; (· rfl); (· exact dcd)) | fail)
    obtain rfl : i = L.length := by omega
    have hrT : r < T := by
      rcases Nat.lt_or_ge r T with q | q
      · exact q
      · have hr := hT.1.le q
        obtain ⟨j, hj, e⟩ := List.mem_iff_getElem.1 (rnd_full hN hs a1 hr)
        exact absurd (by rw [List.getElem?_eq_getElem hj, e]) (b3 j hj)
    exact ⟨(r + 1, M, W), (.cons rfl <| .cons rfl <| .cons rfl <| .nil _), ⟨rnd_next a1 b1, hrT, b4.frame (by simp only [next_bump]; omega) (fun _ _ => rfl), a4.trans (b6.up rfl (by simp only [next_bump]; omega))⟩, by dsimp only; omega⟩
section
variable {k : Nat} {H : AHeap} {N : List Nat} {Z : AV}
theorem g_48 {A : Nat} (hN : NOk N) (ho : okN N = true) (hA : A < 2 ^ N.length) (hZ : RdR 1 H Z N.length (N.map nA)) : ∃ u H', cfG (k + 5) 48 [Z, nA A] H = some (u, H') ∧ ∃ cs, OutR H' u cs ∧ AftR N A cs ∧ cs.length ≤ 1025 ∧ (∀ j, u.own = some j → H.next ≤ j) ∧ Kp H H' :=
  cfG_run rfl rfl (x48 hN.lt hN.l10 (Nat.lt_of_lt_of_le hA (pow_le10 hN.l10)) hZ (by omega) (fun m H h => g_40 (k := k + 3) h H) (fun m H h => g_73 (k := k + 2) h H)
    (fun H y l h1 h2 h3 h4 => g_74 (setsA_rd h1 ho) h2 (Nat.lt_of_lt_of_le hA (pow_le10 hN.l10)) h3 h4))
theorem g_20 {s T : Nat} (hN : NOk N) (ho : okN N = true) (hs : s < N.length) (hT : IsT N s T) (hT10 : T < 10) (hZ : RdR 1 H Z N.length (N.map nA)) : ∃ u H', cfG (k + 6) 20 [Z, nA s] H = some (u, H') ∧ u = nA T ∧ Kp H H' :=
  cfG_run rfl rfl (x20 hN hs hT hT10 hZ (by omega) (fun A H h1 h2 => g_48 (k := k) hN ho h1 h2))
end
end Go.Proofs.Ytpbighinamljbaa.PA
namespace Go.Proofs.Ytpbighinamljbaa.PA
open Go Go.Eng Go.Proofs
set_option maxHeartbeats 2000000 in
theorem x10 {k fuel : Nat} {H0 : AHeap} {n s : Int} {l0 : ZPrs} (hcl : Go.Eng.Clean H0) (hfu : 100 < fuel) :
    ∃ u H', xfunc (cfG (k + 15)) fuel L10 [.agg [.int .i64 n, .imm (zc l0) l0.length false], .int .i64 s] H0 = some (u, H') ∧ u = .bool true ∧ True := by
  refine xfunc_ofK rfl (by show 2 ≤ 99; omega) ?_
  have hcc := cfG_clean (k + 15)
  have hF0 := hf0 H0
  generalize hl : l0.take (min l0.length 61) = l
  have hll : l.length ≤ 61 := by rw [← hl, List.length_take]; omega
  unfold L10
  dsimp only
  repeat' (first | refine WK.seqC (by assumption) ?_ | intro (_ : CleanTo _ _) | (apply WK.reg; (· exact lnn)) | (apply WKO.boxO; (· rfl); (· assumption); (· rfl); (· exact nxx); (· exact nxx); (· exact nxx); intro _ _ _) | refine WKO.nil ?_ | ((first | apply WKO.op); (· first | exact k_mv rfl | (apply k_ldA; (· rfl); (· assumption); (· rfl); (· exact mmb); (· first | rfl))); (· rfl)) | refine pN ?_ | fail)
  rename_i Ha hFa na c1
  have hCa : Go.Eng.Clean Ha := c1.1 hcl
  refine WKO.callV rfl rfl rfl (g_16 (kk := k + 13) (clean_eqm hCa rfl (by simp only [next_bump]; omega))) ?_
  rintro _ H1 ⟨L, rfl, hR, ho, hk1⟩
  rw [hl] at hR ⊢
  have hX := RdR.of hR
  repeat' (first | refine WK.seqC (by assumption) ?_ | intro (_ : CleanTo _ _) | (apply WK.reg; (· exact lnn)) | refine WKO.nil ?_ | ((first | apply WKO.op); (· first | exact k_mv rfl | exact opA); (· rfl)) | refine pN ?_ | fail)
  rename_i c2
  have hC1 : Go.Eng.Clean H1 := c2.1 hCa
  have hX1 : RdR 2 (H1.bump 9) L l.length (zc l) := hX.kp (Kp.bump 9)
  refine WKO.callV rfl rfl rfl (g_23 (k := k) (s := s) hX1 (clean_eqm hC1 rfl (by simp only [next_bump]; omega))) ?_
  rintro v2 H2 ⟨hr2, hk2⟩
  have hX2 := hX1.kp hk2
  have hX3 : RdR 2 (H2.bump 9) L l.length (zc l) := hX2.kp (Kp.bump 9)
  cases hcn : cnZ n l s with
  | false =>
    have e2 : v2 = .tup [nA 0, nA 1] := by
      rcases hr2 with ⟨_, q⟩ | ⟨q, _⟩
      · exact q
      · rw [hcn] at q; cases q
    subst e2
    repeat' (first | refine WK.seqC (by assumption) ?_ | intro (_ : CleanTo _ _) | (apply WK.reg; (· exact lnn)) | refine WKO.nil ?_ | ((first | apply WKO.op); (· first | exact k_mv rfl | exact opA); (· rfl)) | refine pN ?_ | fail)
    rename_i c3
    have hC2 : Go.Eng.Clean H2 := c3.1 hC1
    refine WKO.callV rfl rfl rfl (g_35 (k := k) (s := s) hX3 (clean_eqm hC2 rfl (by simp only [next_bump]; omega))) ?_
    rintro v3 H3 h3
    have e3 : v3 = .tup [.nils, nA 1] := by
      rcases h3 with ⟨_, q, _⟩ | ⟨q, _⟩
      · exact q
      · rw [hcn] at q; cases q
    subst e3
    have hlen : lenN AV.nils = some 0 := rfl
    repeat' (first | refine WK.seqC (by assumption) ?_ | intro (_ : CleanTo _ _) | refine WK.skip ?_ | refine WK.ret ?_ | (apply WK.reg; (· exact lnn)) | refine WKO.nil ?_ | ((first | apply WKO.op | ((first | apply WKO.gop); (· rfl); (· exact dcd))); (· first | exact k_mv rfl | exact k_lenL rfl hlen | exact k_call rfl rfl g_17 | exact opA); (· rfl)) | ((first | apply WKO.gnoF); (· rfl); (· exact dcd)) | ((first | apply WKO.gsp); (· rfl); all_goals ((fail_if_success (refine known ?_ ?_; (· assumption))); intro _)) | ((first | apply WKO.gspB); (· rfl); all_goals ((fail_if_success (refine known ?_ ?_; (· assumption))); intro _)) | refine pN ?_ | refine pR ?_ | (apply WK.condT; (· rfl); (· exact dcd)) | (apply WK.condD; (· rfl); all_goals intro _) | fail)
    · exact ⟨nofun, _, rfl, rfl, trivial⟩
    · exact ⟨nofun, _, rfl, rfl, trivial⟩
    · exact ⟨nofun, _, rfl, rfl, trivial⟩
    · rename_i _ q1 q2 _ q3 _
      exfalso
      have q2' : ¬ s < 0 := q2
      have : cnZ n l s = true := by
        rw [cnZ, Bool.and_eq_true, decide_eq_true_iff]
        exact ⟨by simpa using q1, by omega, by omega⟩
      rw [hcn] at this
      cases this
  | true =>
    obtain ⟨hcg, hsn⟩ : cgZ n l = true ∧ 0 ≤ s ∧ s < n := by simpa [cnZ] using hcn
    obtain ⟨hN, hnN⟩ := cg_ok hcg
    have hgr : grZ n l = true := by rw [cgZ, Bool.and_eq_true] at hcg; exact hcg.1
    obtain ⟨m, rfl, m1, m2, _, hq, hz, hNZ⟩ := gr_of hgr
    obtain ⟨t, rfl⟩ : ∃ t : Nat, s = t := ⟨s.toNat, by omega⟩
    have ht : t < m := by omega
    rw [hNZ] at hN hnN
    obtain ⟨T, hT, rfl⟩ : ∃ T, IsT (NZ (m : Int) l) (t : Int).toNat T ∧ v2 = .tup [nA T, nA 0] := by
      rcases hr2 with ⟨q, _⟩ | ⟨_, q⟩
      · rw [hcn] at q; cases q
      · exact q
    rw [hNZ] at hT
    have hT : IsT (nearN m (l.map nE)) t T := hT
    have hNl : (nearN m (l.map nE)).length = m := nearN_len _ _
    have hT10 : T < 10 := by
      obtain ⟨T', q1, q2⟩ := isT_ex hN.sym hN.l10 hN.lt hN.con (s := t) (by omega)
      have := q2.uniq hT
      omega
    repeat' (first | refine WK.seqC (by assumption) ?_ | intro (_ : CleanTo _ _) | (apply WK.reg; (· exact lnn)) | refine WKO.nil ?_ | ((first | apply WKO.op); (· first | exact k_mv rfl | exact opA); (· rfl)) | refine pN ?_ | fail)
    rename_i c3
    have hC2 : Go.Eng.Clean H2 := c3.1 hC1
    refine WKO.callV rfl rfl rfl (g_35 (k := k) (s := (t : Int)) hX3 (clean_eqm hC2 rfl (by simp only [next_bump]; omega))) ?_
    rintro v3 H3 h3
    obtain ⟨U, hU, rfl⟩ : ∃ u, SchR (H2.bump 9) (NZ (m : Int) l) (t : Int).toNat u H3 ∧ v3 = .tup [u, nA 0] := by
      rcases h3 with ⟨q, _⟩ | ⟨_, q⟩
      · rw [hcn] at q; cases q
      · exact q
    obtain ⟨j, ls, j1, j2, j3, j4, j5, hk3⟩ := hU
    rw [hNZ] at j1 j4 j5
    have hjT : ls.length = T := by rw [j2]; exact (show IsT (nearN m (l.map nE)) t j from j1).uniq hT
    have hX4 := hX3.kp hk3
    repeat' (first | refine WK.seqC (by assumption) ?_ | intro (_ : CleanTo _ _) | refine WK.skip ?_ | (apply WK.reg; (· exact lnn)) | refine WKO.nil ?_ | ((first | apply WKO.op | ((first | apply WKO.gop); (· rfl); (· exact dcd))); (· first | exact k_mv rfl | exact opA); (· rfl)) | refine pN ?_ | (apply WK.condF; (· rfl); (· exact dcd)) | fail)
    generalize hNN : nearN m (l.map nE) = N at *
    subst hNl
    have hl10 := hN.l10
    have hXq : ∀ {H' : AHeap}, H'.m = H3.m → H3.next ≤ H'.next → RdR 2 H' L (l.map nE).length (prsC (l.map nE)) := fun q1 q2 => by
      rw [List.length_map, ← hz]; exact hX4.kp (Kp.eqm q1 q2)
    refine WKO.callV rfl rfl rfl (g_19 (k := k + 14) hl10 hq (hXq (by rfl) (by simp only [next_bump]; omega)) (by rw [List.length_map]; omega)) ?_
    rintro _ H5 ⟨i, rfl, i1, i2, i3, i4⟩
    rw [hNN] at i3
    have hNR : RdR 1 H5 (.sl i 0 N.length N.length) N.length (N.map nA) := near_rd rfl i2 i3
    have hok : okN N = true := by rw [← hNN]; exact nearN_ok hl10 hq
    have hk5 : Kp H3 H5 := ((Kp.bump 11).trans (Kp.bump 4)).trans ⟨by omega, i4⟩
    have hY5 : RdRR H5 U (ls.map zP) := (j3.kr hk5.kr).rd
    have hlsm : (ls.map zP).length = T := by rw [List.length_map, hjT]
    have hll5 : ∀ l' ∈ ls.map zP, l'.length ≤ 1000 := fun l' hl' => by
      obtain ⟨l1, h1, rfl⟩ := List.mem_map.1 hl'
      have := (j5 l1 h1).1
      rw [zP_len]; omega
    repeat' (first | refine WK.seqC (by assumption) ?_ | intro (_ : CleanTo _ _) | (apply WK.reg; (· exact lnn)) | refine WKO.nil ?_ | ((first | apply WKO.op); (· first | exact k_mv rfl); (· rfl)) | refine pN ?_ | fail)
    refine WKO.callV rfl rfl rfl (g_20 (k := k + 9) hN hok ht hT hT10 (hNR.kp (Kp.eqm rfl (by simp only [next_bump]; omega)))) ?_
    rintro _ H6 ⟨rfl, hk6⟩
    have hk56 : Kp H5 H6 := (Kp.bump _).trans hk6
    repeat' (first | ((first | apply WKO.op | ((first | apply WKO.gop); (· rfl); (· exact dcd))); (· first | exact k_mv rfl | exact opA); (· rfl)) | ((first | apply WKO.gnoT); (· rfl); (· exact dcd)) | ((first | apply WKO.gnu); (· rfl)) | ((first | apply WKO.gsp); (· rfl); all_goals ((fail_if_success (refine known ?_ ?_; (· assumption))); intro _)) | ((first | apply WKO.gspB); (· rfl); all_goals ((fail_if_success (refine known ?_ ?_; (· assumption))); intro _)) | fail)
    rotate_left
    · rename_i q; exact absurd q (by decide)
    · rename_i q; exact absurd rfl q
    have ho : outLL (N.length : Int) (ls.map zP) = false := by
      cases w : outLL (N.length : Int) (ls.map zP) with
      | false => rfl
      | true =>
        obtain ⟨l', hl', w⟩ := List.any_eq_true.1 w
        obtain ⟨l0, hl0, rfl⟩ := List.mem_map.1 hl'
        obtain ⟨p, hp, w⟩ := List.any_eq_true.1 w
        obtain ⟨c, hc, rfl⟩ := List.mem_map.1 hp
        have := (j5 l0 hl0).2 c hc
        simp only [outZ, Bool.or_eq_true, decide_eq_true_eq] at w
        omega
    have hva : vAns N N.length t (ls.map zP) = true := by
      have : (ls.map zP).map (·.map nE) = ls := by
        rw [List.map_map]
        conv => rhs; rw [← List.map_id ls]
        exact List.map_congr_left fun l0 _ => zP_nE l0
      rw [vAns, this, show 2 ^ t = 2 ^ (t : Int).toNat from rfl, j4]
      exact decide_eq_true rfl
    have hY6 : ∀ {H' : AHeap}, H'.m = H6.m → H6.next ≤ H'.next → RdRR H' U (ls.map zP) := fun q1 q2 => (hY5.kp hk56).kp (Kp.eqm q1 q2)
    refine WKO.gcallV rfl dcd rfl rfl rfl (g_36 (k := k + 14) hN.l1 hl10 (hY6 (by rfl) (by first | exact Nat.le_refl _ | (simp only [next_bump]; omega))) (by omega) hll5) ?_
    rintro _ H7 ⟨rfl, hk7⟩
    rw [ho, hlsm, if_neg (by simp; omega)]
    have hY7 := (hY5.kp hk56).kp hk7
    have hlenU : lenN U = some T := by
      obtain ⟨cs, q, _⟩ := hY7
      rw [q.len, hlsm]
    have hTT : decide (T = T) = true := decide_eq_true rfl
    repeat' (first | ((first | apply WKO.op | ((first | apply WKO.gop); (· rfl); (· exact dcd))); (· first | exact k_mv rfl | exact opA); (· rfl)) | fail)
    all_goals (first | (rename_i q; exact absurd rfl q) | (rename_i q; exact absurd q (by decide)) | skip)
    refine WKO.gcallV rfl dcd rfl rfl rfl (g_37 (k := k + 14) hN.l1 hl10 ht hN.t rfl (hNR.kp (hk56.trans hk7)) hY7 (by omega) hll5 ho) ?_
    rintro _ H8 ⟨rfl, hk8⟩
    rw [hva]
    repeat' (first | intro (_ : CleanTo _ _) | refine WK.ret ?_ | refine WKO.nil ?_ | ((first | apply WKO.op | ((first | apply WKO.gop); (· rfl); (· exact dcd))); (· first | exact k_mv rfl | exact k_lenL rfl hlenU | exact k_call rfl rfl g_17 | exact opA); (· rfl)) | refine pN ?_ | fail)
    all_goals (first | (rename_i q; exact absurd rfl q) | (rename_i q; exact absurd q (by decide)) | skip)
    exact ⟨nofun, _, rfl, rfl, trivial⟩
end Go.Proofs.Ytpbighinamljbaa.PA
namespace Go.Proofs.Ytpbighinamljbaa.PA
open Go Go.Eng Go.Proofs Go.RowKit Go.ChangeShapes Go.Deep
section
variable {H : Type} {enc : TypeId × Value → H} {P : Program} {w : World} {base : Nat} {held : Bool}
end
end Go.Proofs.Ytpbighinamljbaa.PA
namespace Go.Proofs.Ytpbighinamljbaa.PA
open Go Go.Eng Go.Proofs Go.RowKit Go.ChangeShapes Go.Deep
instance : Inhabited (Int × Int) := ⟨(0, 0)⟩
theorem relL_zc {E : Env} {w : World} : ∀ x : ZPrs, AVRelL E w (zc x) (x.flatMap fun p => [Value.int .i64 p.1, Value.int .i64 p.2])
  | [] => by simp [zc, AVRelL]
  | p :: x => by
    have := relL_zc (E := E) (w := w) x
    simp only [zc, List.flatMap_cons, List.cons_append, List.nil_append, AVRelL, AVRel] at this ⊢
    exact ⟨_, _, rfl, rfl, _, _, rfl, rfl, this⟩
theorem zc_vals : ∀ (x : ZPrs) (j : Nat) (u : Value), (x.flatMap fun p => [Value.int .i64 p.1, Value.int .i64 p.2])[j]? = some u →
    ∃ i p, x[i]? = some p ∧ ((j = i * 2 ∧ u = .int .i64 p.1) ∨ (j = i * 2 + 1 ∧ u = .int .i64 p.2))
  | [], j, u, h => by simp at h
  | p :: x, 0, u, h => by simp at h; exact ⟨0, p, rfl, .inl ⟨rfl, h.symm⟩⟩
  | p :: x, 1, u, h => by simp at h; exact ⟨0, p, rfl, .inr ⟨rfl, h.symm⟩⟩
  | p :: x, j + 2, u, h => by
    have h' : (x.flatMap fun p => [Value.int .i64 p.1, Value.int .i64 p.2])[j]? = some u := by simpa using h
    obtain ⟨i, q, h1, h2⟩ := zc_vals x j u h'
    refine ⟨i + 1, q, by simpa using h1, ?_⟩
    rcases h2 with ⟨rfl, h2⟩ | ⟨rfl, h2⟩
    · exact .inl ⟨by omega, h2⟩
    · exact .inr ⟨by omega, h2⟩
section
variable {H : Type} {enc : TypeId × Value → H} {P : Program} {w : World} {base : Nat} {held : Bool}
theorem read_pairs {t te : TypeId} {f0 f1 : Field} {v : Value} {d : DataW H} {ps : List MemPlace} (ht : P.underlying t = some (.slice te)) (hte : P.underlying te = some (.struct #[f0, f1])) (ct : P.cellsOf te = 2) (o0 : f0.offset = 0) (o1 : f1.offset = 1)
    (c0 : P.cellsOf f0.type = 1) (c1 : P.cellsOf f1.type = 1) (u0 : P.underlying f0.type = some (.int .i64)) (u1 : P.underlying f1.type = some (.int .i64))
    {a0 : Option Addr} {len cap : Nat} (hv : v = .slice a0 len cap) (h : DataW.Trod enc P w base (fun _ => true) held t v d ps) :
    ∃ x : ZPrs, AVRel (E0 w) w (.imm (zc x) x.length false) v := by
  subst hv
  obtain ⟨fuel, hf⟩ := h
  have hf' : DataW.trod enc P w base (fun _ => true) held fuel t [.slice a0 len cap] = some (d, ps) := hf
  rcases open_slice_pairs ht hte ct o0 o1 c0 c1 hf' with ⟨h0, _⟩ | ⟨a, len', cap', m, n, V0, V1, D0, D1, P0, P1, h0, hb, hl, hm, hmm, _, hx⟩
  · cases h0
    refine ⟨[], ?_⟩
    simp only [AVRel]
    exact .inl ⟨rfl, rfl, none, 0, rfl, by simp⟩
  · cases h0
    by_cases hz : len = 0
    · subst hz
      refine ⟨[], ?_⟩
      simp only [AVRel]
      exact .inl ⟨rfl, rfl, some a, cap, rfl, by simp⟩
    · have hmc : m = cap := by simpa using hmm
      obtain ⟨f, hfn⟩ := choose_lt (n := len) (p := fun i p => w.cell? (a.add (i * 2)) = some (.int .i64 (p : Int × Int).1) ∧ w.cell? (a.add (i * 2 + 1)) = some (.int .i64 p.2)) (fun i hi => by
        obtain ⟨e0, e1, t0, t1⟩ := hx i (by omega)
        obtain ⟨n0, q0, _, _⟩ := DataW.trod_int u0 t0
        obtain ⟨n1, q1, _, _⟩ := DataW.trod_int u1 t1
        refine ⟨(n0, n1), ?_, ?_⟩
        · rw [e0]; simpa using q0
        · rw [e1]; simpa using q1)
      have hs : a.spot = none := by
        have h0 := (hfn 0 (by omega)).1
        rw [Nat.zero_mul] at h0
        have h0' : w.cell? a = some (.int .i64 (f 0).1) := by simpa [Addr.add] using h0
        unfold World.cell? at h0'
        split at h0'
        · split at h0'
          · cases h0'
          · rename_i q
            simpa using q
        · cases h0'
      obtain ⟨b, s, sp⟩ := a
      simp only at hs
      subst hs
      have hadd : ∀ j, (⟨b, s, none⟩ : Addr).add j = ⟨b, s + j, none⟩ := fun j => by
        unfold Addr.add
        split
        · rename_i q; subst q; rfl
        · rfl
      refine ⟨(List.range len).map f, ?_⟩
      simp only [AVRel, List.length_map, List.length_range]
      refine .inr ⟨b, s, cap, _, rfl, ?_, fun j u hu => ?_, relL_zc _, hl, by simp⟩
      · have h0 := (hfn 0 (by omega)).1
        rw [hadd] at h0
        exact World.block_lt_of_cell? _ _ h0
      · obtain ⟨i, p, h1, h2⟩ := zc_vals _ _ _ hu
        rw [List.getElem?_map, Option.map_eq_some_iff] at h1
        obtain ⟨i', h1, rfl⟩ := h1
        have hi' : i < len := by
          rcases Nat.lt_or_ge i len with q | q
          · exact q
          · rw [List.getElem?_eq_none (by simpa using q)] at h1; cases h1
        rw [List.getElem?_range hi'] at h1
        cases h1
        rcases h2 with ⟨rfl, rfl⟩ | ⟨rfl, rfl⟩
        · rw [← hadd]; exact (hfn i hi').1
        · rw [← hadd]; exact (hfn i hi').2
end
end Go.Proofs.Ytpbighinamljbaa.PA
namespace Go.Proofs.Ytpbighinamljbaa.PA
open Go Go.Eng Go.Proofs Go.RowKit Go.ChangeShapes Go.Deep
section
variable {H : Type} {enc : TypeId × Value → H} {P : Program} {w : World} {base : Nat} {held : Bool}
theorem read_gr {t te : TypeId} {fN fE f0 f1 : Field} {v : Value} {cs : Array Value} {d : DataW H} {ps : List MemPlace} (hs : P.underlying t = some (.struct #[fN, fE])) (hc : P.cellsOf t = 2) (oN : fN.offset = 0) (oE : fE.offset = 1)
    (cN : P.cellsOf fN.type = 1) (cE : P.cellsOf fE.type = 1) (uN : P.underlying fN.type = some (.int .i64)) (ht : P.underlying fE.type = some (.slice te)) (hte : P.underlying te = some (.struct #[f0, f1])) (ct : P.cellsOf te = 2) (o0 : f0.offset = 0) (o1 : f1.offset = 1)
    (c0 : P.cellsOf f0.type = 1) (c1 : P.cellsOf f1.type = 1) (u0 : P.underlying f0.type = some (.int .i64)) (u1 : P.underlying f1.type = some (.int .i64))
    (hv : v = .agg cs) (h : DataW.Trod enc P w base (fun _ => true) held t v d ps) :
    ∃ (n : Int) (x : ZPrs), AVRel (E0 w) w (.agg [.int .i64 n, .imm (zc x) x.length false]) v := by
  subst hv
  obtain ⟨fuel, hf⟩ := h
  have hf' : DataW.trod enc P w base (fun _ => true) held fuel t cs.toList = some (d, ps) := hf
  obtain ⟨xs, m, _, _, hlen, hl, hel⟩ := DataW.trod_struct hs hf'
  rw [hc] at hlen
  have h0 := hel 0 fN rfl
  have h1 := hel 1 fE rfl
  have hl2 : xs.length = 2 := hl
  rw [List.getElem?_eq_getElem (by omega)] at h0 h1
  rw [cN, oN] at h0
  rw [cE, oE] at h1
  match hcs : cs.toList, hlen with
  | [a, b], _ =>
    rw [hcs] at h0 h1
    have h0 : DataW.trod enc P w base (fun _ => true) held m fN.type [a] = some xs[0] := h0
    have h1 : DataW.trod enc P w base (fun _ => true) held m fE.type [b] = some xs[1] := h1
    obtain ⟨n0, e0, _, w0⟩ := DataW.trod_int uN h0
    have e0 : a = .int .i64 n0 := by simpa using e0
    have hb : ∃ a0 len cap, b = .slice a0 len cap := by
      rcases DataW.trod_slice ht h1 with ⟨q, _⟩ | ⟨a0, len, cap, _, _, _, _, q, _⟩
      · exact ⟨none, 0, 0, by simpa using q⟩
      · exact ⟨some a0, len, cap, by simpa using q⟩
    obtain ⟨a0, len, cap, hb⟩ := hb
    obtain ⟨x, hx⟩ := read_pairs (v := b) ht hte ct o0 o1 c0 c1 u0 u1 hb (d := xs[1].1) (ps := xs[1].2) ⟨m, by rw [hb] at h1 ⊢; exact h1⟩
    refine ⟨n0, x, ?_⟩
    simp only [AVRel]
    refine ⟨cs, rfl, ?_⟩
    rw [hcs]
    simp only [AVRelL]
    exact ⟨_, _, rfl, by simp only [AVRel]; exact e0, _, _, rfl, hx, rfl⟩
end
end Go.Proofs.Ytpbighinamljbaa.PA
namespace Go.Proofs.Ytpbighinamljbaa.newsRounds
open Go Go.ChangeShapes Go.WideShapes Go.ChangeAt Go.RowKit Go.Eng
theorem own : ownKnob Try.prog.godebug = none := by kernel_rfl
theorem laidOut : laidOutB Try.prog = true := by kernel_rfl
theorem call (w : World) (n s : Int) (x : PA.ZPrs) (v : Value) (hv : AVRel (E0 w) w (.agg [.int .i64 n, .imm (PA.zc x) x.length false]) v) :
    Calls Try.prog 10 #[v, .int .i64 s] w fun e w' => e = .returned (.bool true) ∧ Below w.heap.size w w' := by
  obtain ⟨u, H', h1, rfl, _⟩ := PA.x10 (k := 0) (fuel := 2000) (H0 := ⟨.e, 0⟩) (n := n) (s := s) (l0 := x) (fun _ _ => rfl) (by omega)
  have h2 : PA.cfG 16 10 [.agg [.int .i64 n, .imm (PA.zc x) x.length false], .int .i64 s] ⟨.e, 0⟩ = some (.bool true, H') := (PA.cfG_step rfl rfl).trans h1
  have h3 := (PA.cfG_ok 16 _ _ _ _ _ h2).2 (E0 w) w [v, .int .i64 s] (rel0 w) (by
    simp only [AVRelL]
    exact ⟨_, _, rfl, hv, _, _, rfl, by simp only [AVRel], rfl⟩)
  refine h3.mono fun e w' ⟨u, E', he, hs, hr⟩ => ?_
  simp only [AVRel] at hr
  subst hr
  exact ⟨he, below0 hs⟩
set_option maxRecDepth 100000 in
theorem lifted (os : Os) (started : os.Started) (H : Type) (enc : TypeId × Value → H) :
    ReturnsInHanded {} Try.checked os 10 .any (Rows.newsRoundsSpec.pre6 enc Try.prog Try.f10 Rows.newsRoundsRow.domain false) (Rows.newsRoundsSpec.post enc Try.prog Try.f10 false true false false) := by
  refine returnsInHanded_of_change (C := Try.checked) own started (by kernel_rfl) Try.func10
    (ChangeSpec.witness6 (enc := enc) (C := Try.checked) false ⟨#[], #[.agg #[.int .i64 0, .slice none 0 0], .int .i64 0], []⟩ 8 (by kernel_rfl) (by kernel_rfl) (by kernel_rfl) (by kernel_rfl)) ?_
  intro W base args ds gs before hval0 hW hcnd _
  have hval : ∀ (j : Nat) t v, Try.f10.params[j]? = some t → args[j]? = some v → Value.okWide Try.prog W .any base t v := hval0
  have hW' := hW
  obtain ⟨p, q, hA0, hV, rfl, hfz, hnd⟩ := hW
  have hA : DataW.TrodAll enc Try.prog W 0 (fun _ => true) true Try.f10.params.toList args.toList ds p := hA0
  rw [Try.params10] at hA hval
  obtain ⟨v0, v1, d0, d1, p0, p1, rfl, rfl, rfl, h0, h1⟩ := trodAll_two hA
  obtain ⟨rfl, rfl⟩ := trodVars_none hV
  obtain ⟨cs, hv0, _⟩ := okWide_struct Try.underlying24 (hval 0 24 v0 rfl rfl)
  obtain ⟨n, x, hrel⟩ := PA.read_gr Try.underlying24 (by kernel_rfl) rfl rfl (by kernel_rfl) (by kernel_rfl) Try.underlying3 Try.underlying22 Try.underlying40 (by kernel_rfl) rfl rfl (by kernel_rfl) (by kernel_rfl) Try.underlying3 Try.underlying3 hv0 h0
  obtain ⟨s, rfl, rfl, rfl, wn⟩ := open_int Try.underlying3 (hval 1 3 v1 rfl rfl) h1
  clear hA0 hval0
  refine (call W n s x v0 hrel).mono fun e W' ⟨he, bel⟩ => ?_
  subst he
  have hlt : ∀ x ∈ p0, x.block < W.heap.size := fun x hx => by simpa using hW'.lt x (by simp [hx])
  exact ⟨_, rfl, _, _, _, [], _, [], hW', trodAll_mk1 (shut_bool Try.underlying4 _), trodAll_mk2 (Below.trod laidOut (by kernel_rfl) (of_decide_eq_true (by kernel_rfl)) h0 bel hlt) (shut_int Try.underlying3 wn), rfl, bel.frame _, fun h => by cases h⟩
end Go.Proofs.Ytpbighinamljbaa.newsRounds
namespace Go.Proofs.Ytpbighinamljbaa
open Go
theorem newsRounds_holds : Rows.NewsRoundsSaid :=
  OpenClaim.holds_of_wide 10 Try.f10 rfl rfl rfl rfl rfl rfl rfl ⟨rfl, rfl, rfl, rfl, rfl⟩ rfl rfl rfl rfl rfl (by kernel_rfl) Try.func10 (by kernel_rfl)
    (of_decide_eq_true (by kernel_rfl)) (by unfold Func.isWrapper; first | (rw [if_pos (by decide +kernel)]; kernel_rfl) | (rw [if_neg (by decide +kernel)]; exact ⟨rfl, rfl⟩))
    (fun os started H enc _ => newsRounds.lifted os started H enc)
#print axioms newsRounds_holds
end Go.Proofs.Ytpbighinamljbaa
namespace Go.Proofs.Ytpbighinamljbaa.PA
open Go Go.Eng Go.Proofs
theorem cen_uniq {N cs cs' : List Nat} {b b' : Nat} (h : CenA N cs b) (h' : CenA N cs' b') : b = b' ∧ cs = cs' := by
  obtain ⟨T, t1, t2, t3, s, t4, t5⟩ := h
  obtain ⟨T', q1, q2, q3, s', q4, q5⟩ := h'
  have hT : ∀ j, j < N.length → T j = T' j := fun j hj => (t1 j hj).uniq (q1 j hj)
  have hb : b = b' := by
    have h1 := t3 s' q4
    have h2 := q3 s t4
    rw [hT s' q4] at h1
    rw [← hT s t4] at h2
    omega
  refine ⟨hb, ?_⟩
  rw [t2, q2, hb]
  exact List.filter_congr fun j hj => by rw [hT j (List.mem_range.1 hj)]
theorem lapp {H3 Hc : AHeap} {V : AV} {ds : List Nat} {A s : Nat} (hO : OutL H3 V ds) (hl : ds.length < 5000) (hm : Hc.m = H3.m) (hn : H3.next ≤ A) (hA : A < Hc.next) :
    ∃ v' H4, appA (Hc.set A (some (.cells [nA s] none))) 1 8 V (.sl A 0 1 1) = .eff v' H4 ∧ OutL H4 v' (ds ++ [s]) ∧ Hc.next ≤ H4.next ∧ (∀ k, k < H3.next → V.own ≠ some k → H4.get k = H3.get k) ∧ (∀ i, v'.own = some i → V.own = some i ∨ H3.next ≤ i) := by
  have hg : ∀ k, k < H3.next → (Hc.set A (some (.cells [nA s] none))).get k = H3.get k := fun k hk => by
    rw [AHeap.get_set, if_neg (by omega)]
    show Hc.m.get k = _
    rw [hm]
    rfl
  have hn' : (Hc.set A (some (.cells [nA s] none))).next = Hc.next := rfl
  obtain ⟨v', H4, q1, q2, q3, q4, q5⟩ := (hO.frame (H' := Hc.set A (some (.cells [nA s] none))) (by omega) (fun i q => hg i (hO.own_lt q))).app (a := s) (j := A) hl (by rw [AHeap.get_set, if_pos rfl])
  refine ⟨v', H4, q1, q2, by omega, fun k hk hV => (q4 k (by omega) hV).trans (hg k hk), fun i hi => ?_⟩
  rcases q5 i hi with h | h
  · exact .inl h
  · exact .inr (by omega)
set_option maxHeartbeats 2000000 in
theorem x3 {k fuel : Nat} {H0 : AHeap} {n : Int} {l0 : ZPrs} (hcl : Go.Eng.Clean H0) (hfu : 100 < fuel) :
    ∃ u H', xfunc (cfG (k + 15)) fuel L3 [.agg [.int .i64 n, .imm (zc l0) l0.length false]] H0 = some (u, H') ∧ u = .bool true ∧ True := by
  refine xfunc_ofK rfl (by show 1 ≤ 91; omega) ?_
  have hcc := cfG_clean (k + 15)
  have hF0 := hf0 H0
  generalize hl : l0.take (min l0.length 61) = l
  have hll : l.length ≤ 61 := by rw [← hl, List.length_take]; omega
  unfold L3
  dsimp only
  repeat' (first | refine WK.seqC (by assumption) ?_ | intro (_ : CleanTo _ _) | (apply WK.reg; (· exact lnn)) | (apply WKO.boxO; (· rfl); (· assumption); (· rfl); (· exact nxx); (· exact nxx); (· exact nxx); intro _ _ _) | refine WKO.nil ?_ | ((first | apply WKO.op); (· first | exact k_mv rfl | (apply k_ldA; (· rfl); (· assumption); (· rfl); (· exact mmb); (· first | rfl))); (· rfl)) | refine pN ?_ | fail)
  rename_i Ha hFa na c1
  have hCa : Go.Eng.Clean Ha := c1.1 hcl
  refine WKO.callV rfl rfl rfl (g_16 (kk := k + 13) (clean_eqm hCa rfl (by simp only [next_bump]; omega))) ?_
  rintro _ H1 ⟨L, rfl, hR, ho, hk1⟩
  rw [hl] at hR ⊢
  have hX := RdR.of hR
  repeat' (first | refine WK.seqC (by assumption) ?_ | intro (_ : CleanTo _ _) | refine WK.skip ?_ | refine WK.ret ?_ | (apply WK.reg; (· exact lnn)) | refine WKO.nil ?_ | ((first | apply WKO.op | ((first | apply WKO.gop); (· rfl); (· exact dcd))); (· first | exact k_mv rfl | exact k_call rfl rfl g_17 | exact opA); (· rfl)) | ((first | apply WKO.gnoT); (· rfl); (· exact dcd)) | ((first | apply WKO.gspB); (· rfl); all_goals ((fail_if_success (refine known ?_ ?_; (· assumption))); intro _)) | refine pN ?_ | refine pR ?_ | (apply WK.condF; (· rfl); (· exact dcd)) | (apply WK.condD; (· rfl); all_goals intro _) | fail)
  · exact ⟨nofun, _, rfl, rfl, trivial⟩
  · rename_i c0 hcg _ hn8 c2
    have hC1 : Go.Eng.Clean H1 := c0.1 hCa
    obtain ⟨hN, hnN⟩ := cg_ok hcg
    have hgr : grZ n l = true := by rw [cgZ, Bool.and_eq_true] at hcg; exact hcg.1
    obtain ⟨m, rfl, m1, m2, _, hq, hz, hNZ⟩ := gr_of hgr
    rw [hNZ] at hN hnN
    have hNl : (nearN m (l.map nE)).length = m := nearN_len _ _
    have hX1 : RdR 2 ((H1.bump 5).bump 10) L l.length (zc l) := hX.kp ((Kp.bump 5).trans (Kp.bump 10))
    refine WKO.callV rfl rfl rfl (g_18 (k := k) hX1 (clean_eqm hC1 rfl (by simp only [next_bump]; omega))) ?_
    rintro v2 H2 h2
    obtain ⟨C, cs, best, rfl, hcen, hCO, hCo, hk2⟩ : ∃ C cs best, v2 = .tup [C, nA best, nA 0] ∧ CenA (NZ (m : Int) l) cs best ∧ OutR H2 C cs ∧ (∀ i, C.own = some i → ((H1.bump 5).bump 10).next ≤ i) ∧ Kp ((H1.bump 5).bump 10) H2 := by
      rcases h2 with ⟨q, _⟩ | ⟨_, q⟩
      · rw [hcg] at q; cases q
      · exact q
    rw [hNZ] at hcen
    have hX2 := hX1.kp hk2
    generalize hNN : nearN m (l.map nE) = N at *
    subst hNl
    have hl10 := hN.l10
    have hXq : ∀ {H' : AHeap}, H'.m = H2.m → H2.next ≤ H'.next → RdR 2 H' L (l.map nE).length (prsC (l.map nE)) := fun q1 q2 => by
      rw [List.length_map, ← hz]; exact hX2.kp (Kp.eqm q1 q2)
    repeat' (first | refine WK.seqC (by assumption) ?_ | intro (_ : CleanTo _ _) | refine WK.skip ?_ | (apply WK.reg; (· exact lnn)) | refine WKO.nil ?_ | ((first | apply WKO.op); (· first | exact k_mv rfl | exact opA); (· rfl)) | refine pN ?_ | (apply WK.condF; (· rfl); (· exact dcd)) | fail)
    refine WKO.callV rfl rfl rfl (g_19 (k := k + 14) hl10 hq (hXq (by rfl) (by simp only [next_bump]; omega)) (by rw [List.length_map]; omega)) ?_
    rintro _ H5 ⟨i, rfl, i1, i2, i3, i4⟩
    rw [hNN] at i3
    have hNR : RdR 1 H5 (.sl i 0 N.length N.length) N.length (N.map nA) := near_rd rfl i2 i3
    have hok : okN N = true := by rw [← hNN]; exact nearN_ok hl10 hq
    have hk5 : Kp H2 H5 := ((Kp.bump 2).trans (Kp.bump 4)).trans ⟨by omega, i4⟩
    have hTex : ∀ s, ∃ k, s < N.length → k + 1 ≤ N.length ∧ IsT N s k := fun s => by
      by_cases h : s < N.length
      · obtain ⟨k, h1, h2⟩ := isT_ex hN.sym hN.l10 hN.lt hN.con h
        exact ⟨k, fun _ => ⟨h1, h2⟩⟩
      · exact ⟨0, fun q => absurd q h⟩
    obtain ⟨T, hT⟩ := Classical.axiomOfChoice hTex
    repeat' (first | refine WK.seqC (by assumption) ?_ | intro (_ : CleanTo _ _) | (apply WK.reg; (· exact lnn)) | refine WKO.nil ?_ | ((first | apply WKO.op); (· first | exact k_mv rfl); (· rfl)) | refine pN ?_ | fail)
    obtain ⟨H6, hH6⟩ : ∃ H6, (H5.bump 3).set H5.next (some (.cells [] none)) = H6 := ⟨_, rfl⟩
    have hn6 : H6.next = H5.next + 3 := by rw [← hH6]; rfl
    have hg6 : H6.get H5.next = some (.cells [] none) := by rw [← hH6, AHeap.get_set, if_pos rfl]
    have hk6 : Kp H5 H6 := ⟨by omega, fun j hj => by rw [← hH6, AHeap.get_set, if_neg (by omega)]; rfl⟩
    refine WKO.op k_bs0 rfl ?_
    rw [hH6]
    repeat' (first | refine WK.seqC (by assumption) ?_ | intro (_ : CleanTo _ _) | refine WK.block ?_ | (apply WK.reg; (· exact lnn)) | refine WKO.nil ?_ | ((first | apply WKO.op); (· first | exact k_mv rfl); (· rfl)) | refine pN ?_ | fail)
    refine WK.loop (α := Nat × Int × List Nat × AV) (fun p => [(3, nA N.length), (6, C), (7, nA best), (8, nA 0), (9, .sl i 0 N.length N.length), (10, p.2.2.2), (11, .int .i64 p.2.1), (12, nA p.1)])
      (fun p H => p.1 ≤ N.length ∧ (p.1 = 0 → p.2.1 = -1) ∧ (0 < p.1 → ∃ b : Nat, p.2.1 = b ∧ p.2.2.1 = (List.range p.1).filter (fun j => T j == b) ∧ (∀ j, j < p.1 → b ≤ T j) ∧ ∃ j, j < p.1 ∧ T j = b) ∧ p.2.2.1.length ≤ p.1 ∧ (p.1 = 0 → p.2.2.1 = []) ∧ OutL H p.2.2.2 p.2.2.1 ∧ (∀ i, p.2.2.2.own = some i → H5.next ≤ i) ∧ Kp H5 H)
      (fun p => N.length - p.1) (0, -1, [], .sl H5.next 0 0 0) (.cons rfl <| .cons rfl <| .cons rfl <| .cons rfl <| .cons rfl <| .cons rfl <| .cons rfl <| .cons rfl <| .nil _) ⟨Nat.zero_le _, fun _ => rfl, fun h => absurd h (Nat.lt_irrefl _), Nat.le_refl _, fun _ => rfl, .inr ⟨rfl, _, rfl, by simp only [next_bump]; omega, hg6⟩, fun j hj => Nat.le_of_eq (Option.some.inj hj), hk6.up rfl (by simp only [next_bump]; omega)⟩ (by dsimp only; omega) ?_
    rintro ⟨s, b, ds, V⟩ H ⟨a1, a2, a3, a4, a5, a6, a7, a8⟩
    dsimp only at a1 a2 a3 a4 a5 a6 a7 a8 ⊢
    have hNH := hNR.kp a8
    have h8n := a8.1
    by_cases hs : s < N.length
    · obtain ⟨hT1, hTs⟩ := hT s hs
      have c20 : ∀ H', Kp H H' → ∃ u H2, cfG (k + 15) 20 [.sl i 0 N.length N.length, nA s] H' = some (u, H2) ∧ u = nA (T s) ∧ Kp H' H2 := fun H' hk => g_20 (k := k + 9) hN hok hs hTs (by omega) (hNH.kp hk)
      have hfs := filter_succ (fun j => T j == T s) s
      by_cases h0 : s = 0
      · have hb := a2 h0
        subst hb
        repeat' (first | refine WK.seq ?_ | refine WK.skip ?_ | refine WK.block ?_ | (apply WK.reg; (· exact lnn)) | (refine WKO.callV rfl rfl rfl (c20 _ (by apply Kp.eqm; (· rfl); (· simp only [next_bump]; omega))) ?_; rintro _ H3 ⟨rfl, hk3⟩) | refine WKO.nil ?_ | ((first | apply WKO.op); (· first | exact k_mv rfl | exact opA); (· rfl)) | ((first | apply WKO.gnoF); (· rfl); (· exact dcd)) | refine pN ?_ | (apply WK.condT; (· rfl); (· exact dcd)) | fail)
        have hk3' : Kp H H3 := ((Kp.bump 3).trans (Kp.bump 4)).trans hk3
        obtain ⟨v', H4, e4, O4, hn4, hg4, ho4⟩ := lapp (s := s) (A := (((H3.bump 7).bump 3).bump 3).next + 1 + 1) (Hc := (((H3.bump 7).bump 3).bump 3).bump 5) (show OutL H3 .nils [] from .inl (.inl (Row.nil 1 _))) (by decide) rfl (by simp only [next_bump]; omega) (by simp only [next_bump]; omega)
        refine WKO.op (k_bs1 rfl rfl) rfl ?_
        refine WKO.op (k_app rfl rfl e4) rfl ?_
        have h3n := hk3'.1
        have h4n := hn4
        simp only [next_bump] at h4n
        repeat' (first | (apply WK.reg; (· exact lnn)) | refine WKO.nil ?_ | ((first | apply WKO.op); (· first | exact k_mv rfl | exact opA); (· rfl)) | refine pN ?_ | refine bN ?_ | fail)
        refine ⟨(s + 1, (T s : Int), [s], v'), (.cons rfl <| .cons rfl <| .cons rfl <| .cons rfl <| .cons rfl <| .cons rfl <| .cons rfl <| .cons rfl <| .nil _), ⟨hs, fun q => absurd q (by dsimp only; omega), fun _ => ⟨T s, rfl, ?_, fun j hj => ?_, s, by dsimp only; omega, rfl⟩, by simp, fun q => absurd q (by dsimp only; omega), O4.frame (by simp only [next_bump]; omega) (fun _ _ => rfl), fun j hj => ?_, ⟨by simp only [next_bump]; omega, fun j hj => ?_⟩⟩, by dsimp only; omega⟩
        · dsimp only
          rw [hfs, if_pos (by simp), h0]
          rfl
        · obtain rfl : j = s := by dsimp only at hj; omega
          exact Nat.le_refl _
        · rcases ho4 j hj with q | q
          · cases q
          · omega
        · exact (hg4 j (by omega) (by simp [AV.own])).trans ((a8.trans hk3').2 j hj)
      · obtain ⟨b, rfl, b1, b2, b3⟩ := a3 (by omega)
        have hfsb := filter_succ (fun j => T j == b) s
        repeat' (first | refine WK.seq ?_ | refine WK.skip ?_ | refine WK.block ?_ | (apply WK.reg; (· exact lnn)) | (refine WKO.callV rfl rfl rfl (c20 _ (by apply Kp.eqm; (· rfl); (· simp only [next_bump]; omega))) ?_; rintro _ H3 ⟨rfl, hk3⟩) | refine WKO.nil ?_ | ((first | apply WKO.op | ((first | apply WKO.gop); (· rfl); (· exact dcd))); (· first | exact k_mv rfl | exact opA); (· rfl)) | refine pN ?_ | refine bN ?_ | (apply WK.condT; (· rfl); (· exact dcd)) | (apply WK.condD; (· rfl); all_goals intro _) | fail)
        · rename_i hlt
          have hk3' : Kp H H3 := ((Kp.bump 3).trans (Kp.bump 4)).trans hk3
          obtain ⟨v', H4, e4, O4, hn4, hg4, ho4⟩ := lapp (s := s) (A := (((H3.bump 7).bump 3).bump 3).next + 1 + 1) (Hc := (((H3.bump 7).bump 3).bump 3).bump 5) (show OutL H3 .nils [] from .inl (.inl (Row.nil 1 _))) (by decide) rfl (by simp only [next_bump]; omega) (by simp only [next_bump]; omega)
          refine WKO.op (k_bs1 rfl rfl) rfl ?_
          refine WKO.op (k_app rfl rfl e4) rfl ?_
          have h3n := hk3'.1
          have h4n := hn4
          simp only [next_bump] at h4n
          repeat' (first | (apply WK.reg; (· exact lnn)) | refine WKO.nil ?_ | ((first | apply WKO.op); (· first | exact k_mv rfl | exact opA); (· rfl)) | refine pN ?_ | refine bN ?_ | fail)
          refine ⟨(s + 1, (T s : Int), [s], v'), (.cons rfl <| .cons rfl <| .cons rfl <| .cons rfl <| .cons rfl <| .cons rfl <| .cons rfl <| .cons rfl <| .nil _), ⟨hs, fun q => absurd q (by dsimp only; omega), fun _ => ⟨T s, rfl, ?_, fun j hj => ?_, s, by dsimp only; omega, rfl⟩, by simp, fun q => absurd q (by dsimp only; omega), O4.frame (by simp only [next_bump]; omega) (fun _ _ => rfl), fun j hj => ?_, ⟨by simp only [next_bump]; omega, fun j hj => ?_⟩⟩, by dsimp only; omega⟩
          · dsimp only
            rw [hfs, if_pos (by simp)]
            have : (List.range s).filter (fun j => T j == T s) = [] := by
              rw [List.filter_eq_nil_iff]
              intro j hj hjT
              have h1 := b2 j (List.mem_range.1 hj)
              have h2 : T j = T s := by simpa using hjT
              omega
            rw [this]
            rfl
          · dsimp only at hj
            by_cases e : j < s
            · have := b2 j e; omega
            · obtain rfl : j = s := by omega
              exact Nat.le_refl _
          · rcases ho4 j hj with q | q
            · cases q
            · omega
          · exact (hg4 j (by omega) (by simp [AV.own])).trans ((a8.trans hk3').2 j hj)
        · rename_i hlt heq
          have hk3' : Kp H H3 := ((Kp.bump 3).trans (Kp.bump 4)).trans hk3
          have hO3 : OutL H3 V ds := a6.frame hk3'.1 (fun j q => hk3'.2 j (a6.own_lt q))
          obtain ⟨v', H4, e4, O4, hn4, hg4, ho4⟩ := lapp (s := s) (A := ((H3.bump 7).bump 3).next + 1 + 1) (Hc := ((H3.bump 7).bump 3).bump 5) hO3 (by omega) rfl (by simp only [next_bump]; omega) (by simp only [next_bump]; omega)
          refine WKO.op (k_bs1 rfl rfl) rfl ?_
          refine WKO.op (k_app rfl rfl e4) rfl ?_
          have h3n := hk3'.1
          have h4n := hn4
          simp only [next_bump] at h4n
          repeat' (first | (apply WK.reg; (· exact lnn)) | refine WKO.nil ?_ | ((first | apply WKO.op); (· first | exact k_mv rfl | exact opA); (· rfl)) | refine pN ?_ | refine bN ?_ | fail)
          refine ⟨(s + 1, (b : Int), ds ++ [s], v'), (.cons rfl <| .cons rfl <| .cons rfl <| .cons rfl <| .cons rfl <| .cons rfl <| .cons rfl <| .cons rfl <| .nil _), ⟨hs, fun q => absurd q (by dsimp only; omega), fun _ => ⟨b, rfl, ?_, fun j hj => ?_, s, by dsimp only; omega, heq⟩, by simp; omega, fun q => absurd q (by dsimp only; omega), O4.frame (by simp only [next_bump]; omega) (fun _ _ => rfl), fun j hj => ?_, ⟨by simp only [next_bump]; omega, fun j hj => ?_⟩⟩, by dsimp only; omega⟩
          · dsimp only
            rw [hfsb, if_pos (by simpa using heq), ← b1]
          · dsimp only at hj
            by_cases e : j < s
            · exact b2 j e
            · obtain rfl : j = s := by omega
              omega
          · rcases ho4 j hj with q | q
            · exact a7 j q
            · omega
          · exact (hg4 j (by omega) (fun q => by have := a7 j q; omega)).trans ((a8.trans hk3').2 j hj)
        · rename_i hlt heq
          have hk3' : Kp H H3 := ((Kp.bump 3).trans (Kp.bump 4)).trans hk3
          have h3n := hk3'.1
          have hO3 : OutL H3 V ds := a6.frame hk3'.1 (fun j q => hk3'.2 j (a6.own_lt q))
          refine ⟨(s + 1, (b : Int), ds, V), (.cons rfl <| .cons rfl <| .cons rfl <| .cons rfl <| .cons rfl <| .cons rfl <| .cons rfl <| .cons rfl <| .nil _), ⟨hs, fun q => absurd q (by dsimp only; omega), fun _ => ⟨b, rfl, ?_, fun j hj => ?_, ?_⟩, by dsimp only; omega, fun q => absurd q (by dsimp only; omega), hO3.frame (by simp only [next_bump]; omega) (fun _ _ => rfl), a7, (a8.trans hk3').trans (Kp.eqm rfl (by simp only [next_bump]; omega))⟩, by dsimp only; omega⟩
          · dsimp only
            rw [hfsb, if_neg (by simpa using heq), List.append_nil, ← b1]
          · dsimp only at hj
            by_cases e : j < s
            · exact b2 j e
            · obtain rfl : j = s := by omega
              omega
          · obtain ⟨j, q1, q2⟩ := b3
            exact ⟨j, by dsimp only; omega, q2⟩
    · have hsN : s = N.length := by omega
      subst hsN
      obtain ⟨b, rfl, b1, b2, b3⟩ := a3 (by omega)
      have hcen' : CenA N ds b := ⟨T, fun j hj => (hT j hj).2, b1, b2, b3⟩
      obtain ⟨rfl, rfl⟩ := cen_uniq hcen hcen'
      have hC5 : OutR H C cs := hCO.frame (hk5.trans a8).1 (fun j q => (hk5.trans a8).2 j (hCO.own_lt q))
      have c21 : ∀ H', H'.m = H.m → H.next ≤ H'.next → cfG (k + 15) 21 [C, V] H' = some (.bool true, H') := fun H' q1 q2 => by
        have e1 := cellsA_rd (hC5.rd.kp (Kp.eqm q1 q2))
        have e2 := cellsA_rd (a6.rd.kp (Kp.eqm q1 q2))
        rw [g_21 e1 e2 (by omega) (by omega), decide_eq_true rfl]
      repeat' (first | refine WK.seqC (by assumption) ?_ | intro (_ : CleanTo _ _) | refine WK.ret ?_ | refine WK.exit ?_ | (apply WK.reg; (· exact lnn)) | refine WKO.nil ?_ | ((first | apply WKO.op | ((first | apply WKO.gop); (· rfl); (· exact dcd))); (· first | exact k_mv rfl | exact k_call rfl rfl (c21 _ (by rfl) (by simp only [next_bump]; omega)) | exact k_call rfl rfl g_17 | exact opA); (· rfl)) | refine pN ?_ | refine pX ?_ | refine bX ?_ | (apply WK.condF; (· rfl); (· exact dcd)) | fail)
      all_goals (first | (rename_i q; exact absurd rfl q) | (rename_i q; exact absurd q (by decide)) | (rename_i q _; exact absurd rfl q) | skip)
      exact ⟨nofun, _, rfl, rfl, trivial⟩
  · rename_i c0 hcg _ c2
    have hC1 : Go.Eng.Clean H1 := c0.1 hCa
    have hX1 : RdR 2 ((H1.bump 5).bump 10) L l.length (zc l) := hX.kp ((Kp.bump 5).trans (Kp.bump 10))
    refine WKO.callV rfl rfl rfl (g_18 (k := k) hX1 (clean_eqm hC1 rfl (by simp only [next_bump]; omega))) ?_
    rintro v2 H2 h2
    have e2 : v2 = .tup [.nils, nA 0, nA 1] := by
      rcases h2 with ⟨_, q, _⟩ | ⟨q, _⟩
      · exact q
      · rw [hcg] at q; cases q
    subst e2
    have hlen : lenN AV.nils = some 0 := rfl
    repeat' (first | refine WK.seqC (by assumption) ?_ | intro (_ : CleanTo _ _) | refine WK.ret ?_ | (apply WK.reg; (· exact lnn)) | refine WKO.nil ?_ | ((first | apply WKO.op | ((first | apply WKO.gop); (· rfl); (· exact dcd))); (· first | exact k_mv rfl | exact k_lenL rfl hlen | exact k_call rfl rfl g_17 | exact opA); (· rfl)) | refine pN ?_ | refine pR ?_ | (apply WK.condT; (· rfl); (· exact dcd)) | fail)
    exact ⟨nofun, _, rfl, rfl, trivial⟩
end Go.Proofs.Ytpbighinamljbaa.PA
namespace Go.Proofs.Ytpbighinamljbaa.newsCentres
open Go Go.ChangeShapes Go.WideShapes Go.ChangeAt Go.RowKit Go.Eng
theorem own : ownKnob Try.prog.godebug = none := by kernel_rfl
theorem laidOut : laidOutB Try.prog = true := by kernel_rfl
theorem call (w : World) (n : Int) (x : PA.ZPrs) (v : Value) (hv : AVRel (E0 w) w (.agg [.int .i64 n, .imm (PA.zc x) x.length false]) v) :
    Calls Try.prog 3 #[v] w fun e w' => e = .returned (.bool true) ∧ Below w.heap.size w w' := by
  obtain ⟨u, H', h1, rfl, _⟩ := PA.x3 (k := 0) (fuel := 2000) (H0 := ⟨.e, 0⟩) (n := n) (l0 := x) (fun _ _ => rfl) (by omega)
  have h2 : PA.cfG 16 3 [.agg [.int .i64 n, .imm (PA.zc x) x.length false]] ⟨.e, 0⟩ = some (.bool true, H') := (PA.cfG_step rfl rfl).trans h1
  have h3 := (PA.cfG_ok 16 _ _ _ _ _ h2).2 (E0 w) w [v] (rel0 w) (by
    simp only [AVRelL]
    exact ⟨_, _, rfl, hv, rfl⟩)
  refine h3.mono fun e w' ⟨u, E', he, hs, hr⟩ => ?_
  simp only [AVRel] at hr
  subst hr
  exact ⟨he, below0 hs⟩
set_option maxRecDepth 100000 in
theorem lifted (os : Os) (started : os.Started) (H : Type) (enc : TypeId × Value → H) :
    ReturnsInHanded {} Try.checked os 3 .any (Rows.newsCentresSpec.pre6 enc Try.prog Try.f3 Rows.newsCentresRow.domain false) (Rows.newsCentresSpec.post enc Try.prog Try.f3 false true false false) := by
  refine returnsInHanded_of_change (C := Try.checked) own started (by kernel_rfl) Try.func3
    (ChangeSpec.witness6 (enc := enc) (C := Try.checked) false ⟨#[], #[.agg #[.int .i64 0, .slice none 0 0]], []⟩ 8 (by kernel_rfl) (by kernel_rfl) (by kernel_rfl) (by kernel_rfl)) ?_
  intro W base args ds gs before hval0 hW hcnd _
  have hval : ∀ (j : Nat) t v, Try.f3.params[j]? = some t → args[j]? = some v → Value.okWide Try.prog W .any base t v := hval0
  have hW' := hW
  obtain ⟨p, q, hA0, hV, rfl, hfz, hnd⟩ := hW
  have hA : DataW.TrodAll enc Try.prog W 0 (fun _ => true) true Try.f3.params.toList args.toList ds p := hA0
  rw [Try.params3] at hA hval
  obtain ⟨v0, d0, rfl, rfl, h0⟩ := trodAll_one hA
  obtain ⟨rfl, rfl⟩ := trodVars_none hV
  obtain ⟨cs, hv0, _⟩ := okWide_struct Try.underlying24 (hval 0 24 v0 rfl rfl)
  obtain ⟨n, x, hrel⟩ := PA.read_gr Try.underlying24 (by kernel_rfl) rfl rfl (by kernel_rfl) (by kernel_rfl) Try.underlying3 Try.underlying22 Try.underlying40 (by kernel_rfl) rfl rfl (by kernel_rfl) (by kernel_rfl) Try.underlying3 Try.underlying3 hv0 h0
  clear hA0 hval0
  refine (call W n x v0 hrel).mono fun e W' ⟨he, bel⟩ => ?_
  subst he
  have hlt : ∀ x ∈ p, x.block < W.heap.size := fun x hx => by simpa using hW'.lt x (by simp [hx])
  exact ⟨_, rfl, _, _, _, [], _, [], hW', trodAll_mk1 (shut_bool Try.underlying4 _), trodAll_mk1 (Below.trod laidOut (by kernel_rfl) (of_decide_eq_true (by kernel_rfl)) h0 bel hlt), rfl, bel.frame _, fun h => by cases h⟩
end Go.Proofs.Ytpbighinamljbaa.newsCentres
namespace Go.Proofs.Ytpbighinamljbaa
open Go
theorem newsCentres_holds : Rows.NewsCentresSaid :=
  OpenClaim.holds_of_wide 3 Try.f3 rfl rfl rfl rfl rfl rfl rfl ⟨rfl, rfl, rfl, rfl, rfl⟩ rfl rfl rfl rfl rfl (by kernel_rfl) Try.func3 (by kernel_rfl)
    (of_decide_eq_true (by kernel_rfl)) (by unfold Func.isWrapper; first | (rw [if_pos (by decide +kernel)]; kernel_rfl) | (rw [if_neg (by decide +kernel)]; exact ⟨rfl, rfl⟩))
    (fun os started H enc _ => newsCentres.lifted os started H enc)
#print axioms newsCentres_holds
end Go.Proofs.Ytpbighinamljbaa
namespace Go.Proofs.Ytpbighinamljbaa.PA
open Go Go.Eng Go.Proofs
def zr (x : ZPrs) : AV := .imm (zc x) x.length false
def cut20 (x : ZPrs) : ZPrs := x.take (min x.length 20)
def MadR (H : AHeap) (V : AV) (ms : List ZPrs) : Prop :=
  ∃ cs, RowE 1 H V ms.length cs ∧ ∀ (i : Nat) (x : ZPrs), ms[i]? = some x → ∃ X, cs[i]? = some X ∧ RowE 2 H X x.length (zc x) ∧ ∀ j, X.own = some j → V.own ≠ some j
theorem MadR.frame {H H' : AHeap} {V : AV} {ms : List ZPrs} (h : MadR H V ms) (hn : H.next ≤ H'.next) (hg : ∀ k, k < H.next → H'.get k = H.get k) : MadR H' V ms := by
  obtain ⟨cs, h1, h2⟩ := h
  exact ⟨cs, h1.frame hn (fun i q => hg i (h1.own_lt q)), fun i x hx => by
    obtain ⟨X, q1, q2, q3⟩ := h2 i x hx
    exact ⟨X, q1, q2.frame hn (fun j q => hg j (q2.own_lt q)), q3⟩⟩
theorem MadR.own_lt {H : AHeap} {V : AV} {ms : List ZPrs} (h : MadR H V ms) {i : Nat} (hi : V.own = some i) : i < H.next := by
  obtain ⟨cs, h1, _⟩ := h
  exact h1.own_lt hi
theorem MadR.rd {H : AHeap} {V : AV} {ms : List ZPrs} (h : MadR H V ms) : RdRR H V ms := by
  obtain ⟨cs, h1, h2⟩ := h
  exact ⟨cs, RdR.of h1, fun i x hx => by
    obtain ⟨X, q1, q2, _⟩ := h2 i x hx
    exact ⟨X, q1, RdR.of q2⟩⟩
theorem rowE_cells {z len : Nat} {H : AHeap} {v : AV} {cs : List AV} (h : RowE z H v len cs) : v.cells = [v] ∧ v.oneCell = true := by
  rcases h with ⟨_, ⟨rfl, rfl⟩ | ⟨i, full, rfl, _⟩⟩ | ⟨_, _, i, rfl, _⟩ <;> exact ⟨rfl, rfl⟩
theorem MadR.app {H Hc : AHeap} {V W : AV} {ms : List ZPrs} {x : ZPrs} {A : Nat} (h : MadR H V ms) (hx : RowE 2 H W x.length (zc x)) (hW : ∀ j, W.own = some j → V.own ≠ some j) (hl : ms.length < 5000) (hg : ∀ k, k < H.next → Hc.get k = H.get k) (hn : H.next ≤ Hc.next) (hA : Hc.get A = some (.cells [W] none)) :
    ∃ v' H4, appA Hc 1 24 V (.sl A 0 1 1) = .eff v' H4 ∧ MadR H4 v' (ms ++ [x]) ∧ Hc.next ≤ H4.next ∧ (∀ k, k < Hc.next → V.own ≠ some k → H4.get k = Hc.get k) ∧ (∀ i, v'.own = some i → V.own = some i ∨ Hc.next ≤ i) := by
  obtain ⟨cs, h1, h2⟩ := h
  obtain ⟨v', H4, q1, q2, q3, q4, q5⟩ := (h1.frame (H' := Hc) hn (fun i q => hg i (h1.own_lt q))).app (bytes := 24) (n := 1) (y := .sl A 0 1 1) (new := [W]) (by omega) (by omega) (by omega) (by omega) rfl (by simp [srcA, hA]) rfl (by simp [(rowE_cells hx).2])
  have hcs : cs.length = ms.length := by have := h1.csl; omega
  refine ⟨v', H4, q1, ⟨cs ++ [W], by rw [List.length_append]; exact .inl q2, fun i y hy => ?_⟩, q3, q4, q5⟩
  have key : ∀ X y, RowE 2 H X y (zc (ms.getD i x)) → (∀ j, X.own = some j → V.own ≠ some j) → RowE 2 H4 X y (zc (ms.getD i x)) ∧ ∀ j, X.own = some j → v'.own ≠ some j := fun X y r1 r2 => by
    refine ⟨r1.frame (by omega) (fun j q => (q4 j (by have := r1.own_lt q; omega) (r2 j q)).trans (hg j (r1.own_lt q))), fun j q p => ?_⟩
    rcases q5 j p with p | p
    · exact r2 j q p
    · have := r1.own_lt q; omega
  by_cases hi : i < ms.length
  · rw [List.getElem?_append_left hi] at hy
    obtain ⟨X, r1, r2, r3⟩ := h2 i y hy
    have e : ms.getD i x = y := by rw [List.getD_eq_getElem?_getD, hy]; rfl
    obtain ⟨k1, k2⟩ := key X y.length (by rw [e]; exact r2) r3
    rw [e] at k1
    exact ⟨X, by rw [List.getElem?_append_left (by omega)]; exact r1, k1, k2⟩
  · rw [List.getElem?_append_right (by omega)] at hy
    have hi' : i = ms.length := by
      have : i - ms.length < 1 := by
        rcases Nat.lt_or_ge (i - ms.length) 1 with q | q
        · exact q
        · rw [List.getElem?_eq_none (by simpa using q)] at hy; cases hy
      omega
    subst hi'
    have e : x = y := by simpa using hy
    subst e
    have e : ms.getD ms.length x = x := by rw [List.getD_eq_getElem?_getD, List.getElem?_eq_none (Nat.le_refl _)]; rfl
    obtain ⟨k1, k2⟩ := key W x.length (by rw [e]; exact hx) hW
    rw [e] at k1
    exact ⟨W, by rw [List.getElem?_append_right (by omega), hcs]; simp, k1, k2⟩
end Go.Proofs.Ytpbighinamljbaa.PA
namespace Go.Proofs.Ytpbighinamljbaa.PA
open Go Go.Eng Go.Proofs
theorem k_eqB {cf : CF} {n : Nat} {H : AHeap} {l : KL0} {x y : XO} {b : Bool} (hx : evK l x = some (.bool b)) (hy : evK l y = some (.bool b)) : XV cf l H n (.eqf false (.mk false [.b]) x y) = some (.bool true, H) := by
  cases b <;> exact k_any (by simp only [xval, xop, hx, hy, Option.bind_some]; rfl)
theorem valid_cases {n s : Int} {l : ZPrs} {ls : List ZPrs} {v : AV} (h : ValidR n l s ls v) :
    (cnZ n l s = false ∧ v = .tup [.bool false, nA 1]) ∨ (cnZ n l s = true ∧ ∀ m t : Nat, n = m → s = t → v = if ls.length > 100 ∨ outLL n ls = true then .tup [.bool false, nA 2] else .tup [.bool (vAns (NZ n l) m t ls), nA 0]) := by
  rcases h with ⟨hg, rfl⟩ | ⟨hg, m, q, rfl, m1, m2, hz, hql, hqE, h⟩
  · exact .inl ⟨by simp [cnZ, cgZ, hg], rfl⟩
  · have hq := nE_of hz
    have hN : NZ (m : Int) l = nearN m q := by rw [NZ, hq]; rfl
    have hcs := conS_near m1 m2 hqE
    have hcg : cgZ (m : Int) l = conS (nearN m q) := by rw [cgZ, hg, hN, hcs, Bool.true_and]
    rcases h with ⟨h, rfl⟩ | ⟨h, t, rfl, ht, rfl⟩
    · exact .inl ⟨by rw [cnZ, hcg]; exact h, rfl⟩
    · refine .inr ⟨?_, fun m' t' e1 e2 => ?_⟩
      · rw [cnZ, hcg, h, Bool.true_and]
        exact decide_eq_true ⟨by omega, by omega⟩
      · obtain rfl : m = m' := by omega
        obtain rfl : t = t' := by omega
        rw [hN]
        rfl
set_option maxHeartbeats 2000000 in
theorem x14 {k fuel : Nat} {H0 : AHeap} {n s : Int} {l0 : ZPrs} {ls0 : List ZPrs} (hcl : Go.Eng.Clean H0) (hfu : 200 < fuel) :
    ∃ u H', xfunc (cfG (k + 15)) fuel L14 [.agg [.int .i64 n, .imm (zc l0) l0.length false], .int .i64 s, .imm (ls0.map zr) ls0.length false] H0 = some (u, H') ∧ u = .bool true ∧ True := by
  refine xfunc_ofK rfl (by show 3 ≤ 97; omega) ?_
  have hcc := cfG_clean (k + 15)
  have hF0 := hf0 H0
  generalize hl : l0.take (min l0.length 61) = l
  have hll : l.length ≤ 61 := by rw [← hl, List.length_take]; omega
  unfold L14
  dsimp only
  repeat' (first | refine WK.seqC (by assumption) ?_ | intro (_ : CleanTo _ _) | (apply WK.reg; (· exact lnn)) | (apply WKO.boxO; (· rfl); (· assumption); (· rfl); (· exact nxx); (· exact nxx); (· exact nxx); intro _ _ _) | refine WKO.nil ?_ | ((first | apply WKO.op); (· first | exact k_mv rfl | (apply k_ldA; (· rfl); (· assumption); (· rfl); (· exact mmb); (· first | rfl))); (· rfl)) | refine pN ?_ | fail)
  rename_i Ha hFa na c1
  have hCa : Go.Eng.Clean Ha := c1.1 hcl
  refine WKO.callV rfl rfl rfl (g_16 (kk := k + 13) (clean_eqm hCa rfl (by simp only [next_bump]; omega))) ?_
  rintro _ H1 ⟨L, rfl, hR, ho, hk1⟩
  rw [hl] at hR ⊢
  have hX := RdR.of hR
  repeat' (first | refine WK.seqC (by assumption) ?_ | intro (_ : CleanTo _ _) | (apply WK.reg; (· exact lnn)) | refine WKO.nil ?_ | ((first | apply WKO.op); (· first | exact k_mv rfl | exact opA); (· rfl)) | refine pN ?_ | fail)
  rename_i c2
  have hC1 : Go.Eng.Clean H1 := c2.1 hCa
  obtain ⟨H2, hH2⟩ : ∃ H2, (H1.bump 2).set H1.next (some (.cells [] none)) = H2 := ⟨_, rfl⟩
  have hn2 : H2.next = H1.next + 2 := by rw [← hH2]; rfl
  have hg2 : H2.get H1.next = some (.cells [] none) := by rw [← hH2, AHeap.get_set, if_pos rfl]
  have hk2 : Kp H1 H2 := ⟨by omega, fun j hj => by rw [← hH2, AHeap.get_set, if_neg (by omega)]; rfl⟩
  refine WKO.op k_bs0 rfl ?_
  rw [hH2]
  have hlnS : lenN (.imm (ls0.map zr) ls0.length false) = some ls0.length := rfl
  repeat' (first | refine WK.stop2 ?_ | intro (_ : CleanTo _ _) | refine WKO.nil ?_ | ((first | apply WKO.op); (· first | exact k_mv rfl); (· rfl)) | refine pN ?_ | fail)
  rename_i c3
  have hC2 : Go.Eng.Clean H2 := c3.1 hC1
  refine Stop.mk (WK.cut (α := AV) (fun V => [(1, .int .i64 s), (7, .int .i64 n), (8, L), (9, .bool (cgZ n l)), (10, V)]) (fun V H => MadR H V ((ls0.take (min ls0.length 101)).map cut20) ∧ Kp H1 H ∧ Go.Eng.Clean H) ?_ ?_)
  rotate_left
  · rintro V H ⟨a1, a2, a3⟩
    generalize hms : (ls0.take (min ls0.length 101)).map cut20 = ms at *
    have hmsl : ms.length ≤ 101 := by rw [← hms, List.length_map, List.length_take]; omega
    have hmsx : ∀ x ∈ ms, x.length ≤ 20 := fun x hx => by
      rw [← hms] at hx
      obtain ⟨y, _, rfl⟩ := List.mem_map.1 hx
      rw [cut20, List.length_take]; omega
    refine WK.cl hcc ?_
    repeat' (first | refine WK.seqC (by assumption) ?_ | (apply WK.reg; (· exact lnn)) | ((first | apply WKO.op); (· first | exact k_mv rfl); (· rfl)) | fail)
    have hX1 : RdR 2 (H.bump 10) L l.length (zc l) := hX.kp (a2.trans (Kp.bump 10))
    have hY1 : RdRR (H.bump 10) V ms := (a1.rd).kp (Kp.bump 10)
    refine WKO.callV rfl rfl rfl (g_42 (k := k + 8) (s := s) hX1 hY1 (by omega) (fun x hx => by have := hmsx x hx; omega)) ?_
    rintro v H3 ⟨hv, hk3⟩
    rcases valid_cases hv with ⟨hcn, rfl⟩ | ⟨hcn, hv⟩
    · repeat' (first | refine WK.seqC (by assumption) ?_ | intro (_ : CleanTo _ _) | refine WK.ret ?_ | (apply WK.reg; (· exact lnn)) | refine WKO.nil ?_ | ((first | apply WKO.op | ((first | apply WKO.gop); (· rfl); (· exact dcd))); (· first | exact k_mv rfl | exact k_call rfl rfl g_17 | exact opA); (· rfl)) | ((first | apply WKO.gnoF); (· rfl); (· exact dcd)) | ((first | apply WKO.gsp); (· rfl); all_goals ((fail_if_success (refine known ?_ ?_; (· assumption))); intro _)) | ((first | apply WKO.gspB); (· rfl); all_goals ((fail_if_success (refine known ?_ ?_; (· assumption))); intro _)) | refine pN ?_ | refine pR ?_ | (apply WK.condT; (· rfl); (· exact dcd)) | (apply WK.condD; (· rfl); all_goals intro _) | fail)
      · exact ⟨nofun, _, rfl, rfl, trivial⟩
      · exact ⟨nofun, _, rfl, rfl, trivial⟩
      · exact ⟨nofun, _, rfl, rfl, trivial⟩
      · rename_i q1 q2 _ q3
        exfalso
        have q2' : ¬ s < 0 := q2
        have : cnZ n l s = true := by
          rw [cnZ, Bool.and_eq_true, decide_eq_true_iff]
          exact ⟨by simpa using q1, by omega, by omega⟩
        rw [hcn] at this
        cases this
    · obtain ⟨hcg, hsn⟩ : cgZ n l = true ∧ 0 ≤ s ∧ s < n := by simpa [cnZ] using hcn
      obtain ⟨hN, hnN⟩ := cg_ok hcg
      have hgr : grZ n l = true := by rw [cgZ, Bool.and_eq_true] at hcg; exact hcg.1
      obtain ⟨m, rfl, m1, m2, _, hq, hz, hNZ⟩ := gr_of hgr
      obtain ⟨t, rfl⟩ : ∃ t : Nat, s = t := ⟨s.toNat, by omega⟩
      have ht : t < m := by omega
      have hv := hv m t rfl rfl
      rw [hNZ] at hN hnN hv
      have hNl : (nearN m (l.map nE)).length = m := nearN_len _ _
      generalize hNN : nearN m (l.map nE) = N at *
      subst hNl
      have hl10 := hN.l10
      have hY3 := hY1.kp hk3
      have hX3 := hX1.kp hk3
      by_cases hbad : ms.length > 100 ∨ outLL (N.length : Int) ms = true
      · rw [if_pos hbad] at hv
        subst hv
        have c36 : ∀ H', H'.m = H3.m → H3.next ≤ H'.next → ∃ u H2, cfG (k + 15) 36 [nA N.length, V] H' = some (u, H2) ∧ u = nA 2 := fun H' q1 q2 => by
          obtain ⟨u, H2, r1, r2, r3⟩ := g_36 (k := k + 14) hN.l1 hl10 (hY3.kp (Kp.eqm q1 q2)) (by omega) (fun x hx => by have := hmsx x hx; omega)
          rw [if_pos hbad.symm] at r2
          exact ⟨u, H2, r1, r2⟩
        repeat' (first | refine WK.seqC (by assumption) ?_ | intro (_ : CleanTo _ _) | refine WK.ret ?_ | (apply WK.reg; (· exact lnn)) | (refine WKO.callV rfl rfl rfl (c36 _ (by rfl) (by simp only [next_bump]; omega)) ?_; rintro _ H5 rfl) | refine WKO.nil ?_ | ((first | apply WKO.op | ((first | apply WKO.gop); (· rfl); (· exact dcd))); (· first | exact k_mv rfl | exact k_call rfl rfl g_17 | exact opA); (· rfl)) | refine pN ?_ | refine pR ?_ | (apply WK.condT; (· rfl); (· exact dcd)) | (apply WK.condF; (· rfl); (· exact dcd)) | fail)
        exact ⟨nofun, _, rfl, rfl, trivial⟩
      · rw [if_neg hbad] at hv
        subst hv
        have c36 : ∀ H', H'.m = H3.m → H3.next ≤ H'.next → ∃ u H2, cfG (k + 15) 36 [nA N.length, V] H' = some (u, H2) ∧ u = nA 0 ∧ Kp H' H2 := fun H' q1 q2 => by
          obtain ⟨u, H2, r1, r2, r3⟩ := g_36 (k := k + 14) hN.l1 hl10 (hY3.kp (Kp.eqm q1 q2)) (by omega) (fun x hx => by have := hmsx x hx; omega)
          rw [if_neg (fun q => hbad q.symm)] at r2
          exact ⟨u, H2, r1, r2, r3⟩
        repeat' (first | refine WK.seqC (by assumption) ?_ | intro (_ : CleanTo _ _) | refine WK.skip ?_ | (apply WK.reg; (· exact lnn)) | (refine WKO.callV rfl rfl rfl (c36 _ (by rfl) (by simp only [next_bump]; omega)) ?_; rintro _ H5 ⟨rfl, hk5⟩) | refine WKO.nil ?_ | ((first | apply WKO.op | ((first | apply WKO.gop); (· rfl); (· exact dcd))); (· first | exact k_mv rfl | exact opA); (· rfl)) | refine pN ?_ | (apply WK.condF; (· rfl); (· exact dcd)) | fail)
        have hX5 : RdR 2 H5 L l.length (zc l) := hX3.kp (((Kp.bump 1).trans ((Kp.bump 11).trans (Kp.bump 4))).trans hk5)
        have hY5 : RdRR H5 V ms := hY3.kp (((Kp.bump 1).trans ((Kp.bump 11).trans (Kp.bump 4))).trans hk5)
        have hXq : ∀ {H' : AHeap}, H'.m = H5.m → H5.next ≤ H'.next → RdR 2 H' L (l.map nE).length (prsC (l.map nE)) := fun q1 q2 => by
          rw [List.length_map, ← hz]; exact hX5.kp (Kp.eqm q1 q2)
        refine WKO.callV rfl rfl rfl (g_19 (k := k + 14) hl10 hq (hXq (by rfl) (by simp only [next_bump]; omega)) (by rw [List.length_map]; omega)) ?_
        rintro _ H6 ⟨i, rfl, i1, i2, i3, i4⟩
        rw [hNN] at i3
        have hNR : RdR 1 H6 (.sl i 0 N.length N.length) N.length (N.map nA) := near_rd rfl i2 i3
        have hk6 : ∀ j, j < H5.next → H6.get j = H5.get j := fun j hj => (i4 j (by simp only [next_bump]; omega)).trans rfl
        have hn6 : H5.next ≤ H6.next := by simp only [next_bump] at i1; omega
        have hY6 : RdRR H6 V ms := hY5.kp ⟨hn6, hk6⟩
        have ho : outLL (N.length : Int) ms = false := by
          cases w : outLL (N.length : Int) ms with
          | false => rfl
          | true => exact absurd (.inr w) hbad
        repeat' (first | ((first | apply WKO.op); (· first | exact k_mv rfl); (· rfl)) | fail)
        refine WKO.callV rfl rfl rfl (g_37 (k := k + 14) hN.l1 hl10 ht hN.t rfl hNR hY6 (by omega) (fun x hx => by have := hmsx x hx; omega) ho) ?_
        rintro _ H7 ⟨rfl, hk7⟩
        repeat' (first | intro (_ : CleanTo _ _) | refine WK.ret ?_ | refine WKO.nil ?_ | ((first | apply WKO.op | ((first | apply WKO.gop); (· rfl); (· exact dcd))); (· first | exact k_mv rfl | exact k_eqB rfl rfl | exact k_call rfl rfl g_17 | exact opA); (· rfl)) | refine pN ?_ | fail)
        all_goals (first | (rename_i q; exact absurd rfl q) | (rename_i q; exact absurd q (by decide)) | (rename_i q _; exact absurd rfl q) | skip)
        exact ⟨nofun, _, rfl, rfl, trivial⟩
  repeat' (first | refine WK.seq ?_ | refine WK.block ?_ | (apply WK.reg; (· exact lnn)) | refine WKO.nil ?_ | ((first | apply WKO.op); (· first | exact k_mv rfl); (· rfl)) | refine pN ?_ | fail)
  refine WK.loop (α := Nat × AV) (fun p => [(1, .int .i64 s), (2, .imm (ls0.map zr) ls0.length false), (7, .int .i64 n), (8, L), (9, .bool (cgZ n l)), (10, p.2), (11, nA p.1)])
    (fun p H => p.1 ≤ ls0.length ∧ p.1 ≤ 101 ∧ MadR H p.2 ((ls0.take p.1).map cut20) ∧ (∀ j, p.2.own = some j → H1.next ≤ j) ∧ Kp H1 H ∧ Go.Eng.Clean H) (fun p => 102 - p.1) (0, .sl H1.next 0 0 0) (.cons rfl <| .cons rfl <| .cons rfl <| .cons rfl <| .cons rfl <| .cons rfl <| .cons rfl <| .nil _)
    ⟨Nat.zero_le _, Nat.zero_le _, ⟨[], .inr ⟨rfl, rfl, _, rfl, by simp only [next_bump]; omega, hg2⟩, fun i x hx => by cases hx⟩, fun j hj => by
      have : H1.next = j := by simpa [AV.own] using hj
      omega, hk2.up rfl (by simp only [next_bump]; omega), clean_eqm hC2 rfl (by simp only [next_bump]; omega)⟩ (by dsimp only; omega) ?_
  rintro ⟨i, V⟩ H ⟨a1, a2, a3, a4, a5, a6⟩
  dsimp only at a1 a2 a3 a4 a5 a6 ⊢
  have a5n := a5.1
  by_cases hi : i < ls0.length ∧ i ≤ 100
  · obtain ⟨hi, hi2⟩ := hi
    obtain ⟨x, hx⟩ : ∃ x, ls0[i]? = some x := ⟨_, List.getElem?_eq_getElem hi⟩
    have gx : (ls0.map zr)[i]? = some (zr x) := by rw [List.getElem?_map, hx]; rfl
    obtain ⟨m, hm⟩ : ∃ m, min x.length 20 = m := ⟨_, rfl⟩
    have hml : m ≤ x.length := by omega
    obtain ⟨Y, y1, y2, y3⟩ := front_imm hml
    have hxl : (cut20 x).length = m := by rw [cut20, hm, List.length_take]; omega
    have hlx : lenN (zr x) = some x.length := rfl
    refine WK.cl hcc ?_
    repeat' (first | refine WK.seqC (by assumption) ?_ | intro (_ : CleanTo _ _) | refine WK.skip ?_ | refine WK.block ?_ | (apply WK.reg; (· exact lnn)) | refine WKO.nil ?_ | ((first | apply WKO.op | ((first | apply WKO.gop); (· rfl); (· exact dcd))); (· first | exact k_mv rfl | exact k_lenL rfl hlnS | exact opA); (· rfl)) | refine pN ?_ | (apply WK.condT; (· rfl); (· exact dcd)) | fail)
    have hLS : ∀ H', RdR 1 H' (.imm (ls0.map zr) ls0.length false) ls0.length (ls0.map zr) := fun _ => RdR.imm (by simp)
    have gx1 : (ls0.map zr)[i * 1]? = some (zr x) := by rw [Nat.mul_one]; exact gx
    refine WK.regT (k := 17) rfl ?_
    generalize hB : AHeap.bump _ 8 = HB
    have hBm : HB.m = H.m := by rw [← hB]; rfl
    have hBn : HB.next = H.next + 8 := by rw [← hB]; rfl
    clear hB
    have hBg : ∀ k, (HB.bump 17).get k = H.get k := fun k => (show HB.m.get k = _ by rw [hBm]; rfl)
    repeat' (first | ((first | apply WKT.op); (· first | exact k_mv rfl); (· rfl)) | fail)
    obtain ⟨H3, hH3⟩ : ∃ H3, (HB.bump 17).set (HB.next + 1) (some (.cells [] none)) = H3 := ⟨_, rfl⟩
    have hn3 : H3.next = HB.next + 17 := by rw [← hH3]; rfl
    have hg3 : ∀ k, k ≠ HB.next + 1 → H3.get k = H.get k := fun k hk => by rw [← hH3, AHeap.get_set, if_neg hk, hBg]
    have hN3 : H3.get (HB.next + 1) = some (.cells [] none) := by rw [← hH3, AHeap.get_set, if_pos rfl]
    refine WKT.op (v := .sl (HB.next + 1) 0 0 0) (H1 := H3) (by rw [← hH3]; exact k_bs0) rfl ?_
    have hE3 : RowE 2 H3 (.sl (HB.next + 1) 0 0 0) 0 [] := .inr ⟨rfl, rfl, HB.next + 1, rfl, by omega, hN3⟩
    obtain ⟨W, H4, e4, R4, hn4, hg4, ho4⟩ := hE3.app0 (bytes := 16) (n := m) (y := Y) (new := zc (x.take m)) (by omega) (by omega) (by omega) y2 (y3 _) (by rw [zc_len, List.length_take]; omega) (zc_oneG _)
    have R4' : RowE 2 H4 W (cut20 x).length (zc (cut20 x)) := by
      rw [hxl]
      rw [Nat.zero_add, List.nil_append] at R4
      rw [cut20, hm]
      exact R4
    have o4 : ∀ j, W.own = some j → j = HB.next + 1 ∨ H3.next ≤ j := fun j q => by
      rcases ho4 j q with q | q
      · exact .inl (Option.some.inj q).symm
      · exact .inr q
    have h4g : ∀ j, j < H3.next → j ≠ HB.next + 1 → H4.get j = H3.get j := fun j q1 q2 => hg4 j q1 (fun q => q2 (Option.some.inj q).symm)
    repeat' (first | ((first | apply WKT.op); (· first | exact k_mv rfl | exact k_iaE rfl rfl (hLS H) hi | (apply k_ldY; (· rfl); (· exact hLS H); (· exact nofun); (· exact gx1)) | exact k_lenL rfl hlx | exact k_mnC rfl); (· rfl)) | fail)
    rw [hm]
    refine WKT.op (v := Y) (k_any (op_cut rfl (y1 _ _ rfl))) rfl ?_
    refine WKT.op (v := W) (H1 := H4) (k_app rfl rfl e4) rfl ?_
    have hVo := fun j (q : V.own = some j) => a3.own_lt q
    obtain ⟨H5, hH5⟩ : ∃ H5, H4.set (HB.next + 14) (some (.cells [W] none)) = H5 := ⟨_, rfl⟩
    have hg5 : ∀ k, k ≠ HB.next + 14 → H5.get k = H4.get k := fun k hk => by rw [← hH5, AHeap.get_set, if_neg hk]
    have hn5 : H5.next = H4.next := by rw [← hH5]; rfl
    have hN5 : H5.get (HB.next + 14) = some (.cells [W] none) := by rw [← hH5, AHeap.get_set, if_pos rfl]
    refine WKT.op (v := .sl (HB.next + 14) 0 1 1) (H1 := H5) (by rw [← hH5]; exact k_bs1 rfl (rowE_cells R4').1) rfl ?_
    have h5 : MadR H5 V ((ls0.take i).map cut20) := a3.frame (by omega) (fun k hk => (hg5 k (by omega)).trans ((h4g k (by omega) (by omega)).trans (hg3 k (by omega))))
    have R5 : RowE 2 H5 W (cut20 x).length (zc (cut20 x)) := R4'.frame (by omega) (fun j q => hg5 j (by rcases o4 j q with q | q <;> omega))
    obtain ⟨V', H6, e6, M6, hn6, hg6, ho6⟩ := h5.app (x := cut20 x) R5 (fun j q p => by have := hVo j p; rcases o4 j q with q | q <;> omega) (by rw [List.length_map, List.length_take]; omega) (fun _ _ => rfl) (Nat.le_refl _) hN5
    refine WKT.op (v := V') (H1 := H6) (k_app rfl rfl e6) rfl ?_
    repeat' (first | refine WKT.nil ?_ | ((first | apply WKT.op); (· first | exact k_mv rfl); (· rfl)) | fail)
    refine ⟨?_, ?_, (_, H6), rfl, ?_⟩
    · intro q hq
      have hq' : q = (5, [], [1, 14]) ∨ q = (9, [], [1, 14]) := by simpa using hq
      rcases hq' with rfl | rfl
      · refine ⟨_, _, _, _, zr x, rfl, rfl, rfl, xop_ldE rfl (hLS H) nofun gx1, fun j hj => ?_⟩
        have hj' : j = 5 := by simpa using hj
        subst hj'
        exact ⟨_, rfl, xop_ldE rfl (hLS H) nofun gx1⟩
      · refine ⟨_, _, _, _, zr x, rfl, rfl, rfl, xop_ldE rfl (hLS H) nofun gx1, fun j hj => ?_⟩
        have hj' : j = 9 := by simpa using hj
        subst hj'
        exact ⟨_, rfl, xop_ldE rfl (hLS H) nofun gx1⟩
    · intro j hj
      have hj' : j = 1 ∨ j = 14 := by simpa using hj
      rcases hj' with rfl | rfl
      · refine ⟨_, rfl, rfl, fun i hi => ?_⟩
        have hi' : i = 0 ∨ i = 1 := by omega
        rcases hi' with rfl | rfl <;> exact ⟨_, rfl, (hBg _).trans (a6 _ (by omega))⟩
      · refine ⟨_, rfl, rfl, fun i hi => ?_⟩
        have hi' : i = 0 ∨ i = 1 ∨ i = 2 ∨ i = 3 ∨ i = 4 ∨ i = 5 ∨ i = 6 ∨ i = 7 ∨ i = 8 ∨ i = 9 ∨ i = 10 ∨ i = 11 ∨ i = 12 ∨ i = 13 ∨ i = 14 := by omega
        rcases hi' with rfl | rfl | rfl | rfl | rfl | rfl | rfl | rfl | rfl | rfl | rfl | rfl | rfl | rfl | rfl <;>
          exact ⟨_, rfl, by first | exact (hBg _).trans (a6 _ (by omega)) | exact (hg3 _ (by omega)).trans (a6 _ (by omega)) | exact (h4g _ (by omega) (by omega)).trans ((hg3 _ (by omega)).trans (a6 _ (by omega)))⟩
    · dsimp only
      repeat' (first | intro (_ : CleanTo _ _) | (apply WK.reg; (· exact lnn)) | refine WKO.nil ?_ | ((first | apply WKO.op); (· first | exact k_mv rfl | exact opA); (· rfl)) | refine pN ?_ | refine bN ?_ | fail)
      rename_i c9
      refine ⟨(i + 1, V'), (.cons rfl <| .cons rfl <| .cons rfl <| .cons rfl <| .cons rfl <| .cons rfl <| .cons rfl <| .nil _), ⟨hi, by dsimp only; omega, ?_, fun j hj => ?_, ⟨by simp only [next_bump]; omega, fun j hj => ?_⟩, c9.1 a6⟩, by dsimp only; omega⟩
      · dsimp only
        rw [List.take_add_one, hx, List.map_append]
        exact M6.frame (by simp only [next_bump]; omega) (fun _ _ => rfl)
      · rcases ho6 j hj with h | h
        · exact a4 j h
        · omega
      · show H6.get j = _
        rw [hg6 j (by omega) (fun q => by have := a4 j q; omega), hg5 j (by omega), h4g j (by omega) (by omega), hg3 j (by omega)]
        exact a5.2 j hj
  · have hi' : i = min ls0.length 101 := by omega
    subst hi'
    by_cases hi1 : min ls0.length 101 < ls0.length
    · have hi2 : ¬ min ls0.length 101 ≤ 100 := fun q => hi ⟨hi1, q⟩
      repeat' (first | refine WK.seq ?_ | refine WK.exit ?_ | (apply WK.reg; (· exact lnn)) | refine WKO.nil ?_ | ((first | apply WKO.op | ((first | apply WKO.gop); (· rfl); (· exact dcd))); (· first | exact k_mv rfl | exact k_lenL rfl hlnS | exact opA); (· rfl)) | refine pN ?_ | refine pX ?_ | refine bX ?_ | (apply WK.condF; (· rfl); (· exact dcd)) | fail)
      exact ⟨V, (.cons rfl <| .cons rfl <| .cons rfl <| .cons rfl <| .cons rfl <| .nil _), a3.frame (by simp only [next_bump]; omega) (fun _ _ => rfl), a5.up rfl (by simp only [next_bump]; omega), clean_eqm a6 rfl (by simp only [next_bump]; omega)⟩
    · repeat' (first | refine WK.seq ?_ | refine WK.exit ?_ | (apply WK.reg; (· exact lnn)) | refine WKO.nil ?_ | ((first | apply WKO.op); (· first | exact k_mv rfl | exact k_lenL rfl hlnS | exact opA); (· rfl)) | ((first | apply WKO.gnoT); (· rfl); (· exact dcd)) | refine pN ?_ | refine pX ?_ | refine bX ?_ | (apply WK.condF; (· rfl); (· exact dcd)) | fail)
      exact ⟨V, (.cons rfl <| .cons rfl <| .cons rfl <| .cons rfl <| .cons rfl <| .nil _), a3.frame (by simp only [next_bump]; omega) (fun _ _ => rfl), a5.up rfl (by simp only [next_bump]; omega), clean_eqm a6 rfl (by simp only [next_bump]; omega)⟩
end Go.Proofs.Ytpbighinamljbaa.PA
namespace Go.Proofs.Ytpbighinamljbaa.PA
open Go Go.Eng Go.Proofs Go.RowKit Go.ChangeShapes Go.Deep
theorem relL_map {α : Type} {E : Env} {w : World} {F : α → AV} {G : α → Value} : ∀ (l : List α), (∀ i ∈ l, AVRel E w (F i) (G i)) → AVRelL E w (l.map F) (l.map G)
  | [], _ => by simp [AVRelL]
  | a :: l, h => by
    have := relL_map l (fun i hi => h i (by simp [hi]))
    simp only [List.map_cons, AVRelL]
    exact ⟨_, _, rfl, h a (by simp), this⟩
section
variable {H : Type} {enc : TypeId × Value → H} {P : Program} {w : World} {base : Nat} {held : Bool}
theorem read_rows {t e te : TypeId} {f0 f1 : Field} {v : Value} {d : DataW H} {ps : List MemPlace} (hT : P.underlying t = some (.slice e)) (ce : P.cellsOf e = 1) (ht : P.underlying e = some (.slice te)) (hte : P.underlying te = some (.struct #[f0, f1])) (ct : P.cellsOf te = 2) (o0 : f0.offset = 0) (o1 : f1.offset = 1)
    (c0 : P.cellsOf f0.type = 1) (c1 : P.cellsOf f1.type = 1) (u0 : P.underlying f0.type = some (.int .i64)) (u1 : P.underlying f1.type = some (.int .i64))
    {a0 : Option Addr} {len cap : Nat} (hv : v = .slice a0 len cap) (h : DataW.Trod enc P w base (fun _ => true) held t v d ps) :
    ∃ ls : List ZPrs, AVRel (E0 w) w (.imm (ls.map zr) ls.length false) v := by
  subst hv
  obtain ⟨fuel, hf⟩ := h
  have hf' : DataW.trod enc P w base (fun _ => true) held fuel t [.slice a0 len cap] = some (d, ps) := hf
  rcases open_slice hT hf' with ⟨h0, _⟩ | ⟨a, len', cap', m, n, D, Pl, h0, hb, hl, hm, hmm, _, hx⟩
  · cases h0
    refine ⟨[], ?_⟩
    simp only [AVRel]
    exact .inl ⟨rfl, rfl, none, 0, rfl, by simp⟩
  · cases h0
    by_cases hz : len = 0
    · subst hz
      refine ⟨[], ?_⟩
      simp only [AVRel]
      exact .inl ⟨rfl, rfl, some a, cap, rfl, by simp⟩
    · have hmc : m = cap := by simpa using hmm
      obtain ⟨f, hfn⟩ := choose_lt (n := len) (p := fun i p => w.cell? (a.add (i * 1)) = some (p : Value × ZPrs).1 ∧ AVRel (E0 w) w (zr p.2) p.1) (fun i hi => by
        obtain ⟨cs', h1, h2⟩ := hx i (by omega)
        rw [ce] at h1
        obtain ⟨_, hlen, hcell⟩ := World.cells?_some h1
        match cs', hlen with
        | [u], _ =>
          have hu : ∃ a0 len cap, u = .slice a0 len cap := by
            rcases DataW.trod_slice ht h2 with ⟨q, _⟩ | ⟨a0, len, cap, _, _, _, _, q, _⟩
            · exact ⟨none, 0, 0, by simpa using q⟩
            · exact ⟨some a0, len, cap, by simpa using q⟩
          obtain ⟨a1, len1, cap1, hu⟩ := hu
          obtain ⟨x, hx⟩ := read_pairs (v := u) ht hte ct o0 o1 c0 c1 u0 u1 hu (d := D i) (ps := Pl i) ⟨n, by rw [hu] at h2 ⊢; exact h2⟩
          exact ⟨(u, x), cell_of_cells?_one h1, hx⟩)
      have hs : a.spot = none := by
        have h0 := (hfn 0 (by omega)).1
        rw [Nat.zero_mul] at h0
        have h0' : w.cell? a = some (f 0).1 := by simpa [Addr.add] using h0
        unfold World.cell? at h0'
        split at h0'
        · split at h0'
          · cases h0'
          · rename_i q
            simpa using q
        · cases h0'
      obtain ⟨b, s, sp⟩ := a
      simp only at hs
      subst hs
      have hadd : ∀ j, (⟨b, s, none⟩ : Addr).add j = ⟨b, s + j, none⟩ := fun j => by
        unfold Addr.add
        split
        · rename_i q; subst q; rfl
        · rfl
      refine ⟨(List.range len).map fun i => (f i).2, ?_⟩
      simp only [AVRel, List.length_map, List.length_range, List.map_map]
      refine .inr ⟨b, s, cap, (List.range len).map fun i => (f i).1, rfl, ?_, fun j u hu => ?_, relL_map _ (fun i hi => (hfn i (List.mem_range.1 hi)).2), hl, by simp⟩
      · have h0 := (hfn 0 (by omega)).1
        rw [hadd] at h0
        exact World.block_lt_of_cell? _ _ h0
      · rw [List.getElem?_map, Option.map_eq_some_iff] at hu
        obtain ⟨i', h1, rfl⟩ := hu
        have hi' : j < len := by
          rcases Nat.lt_or_ge j len with q | q
          · exact q
          · rw [List.getElem?_eq_none (by simpa using q)] at h1; cases h1
        rw [List.getElem?_range hi'] at h1
        cases h1
        have := (hfn j hi').1
        rw [hadd, Nat.mul_one] at this
        exact this
end
end Go.Proofs.Ytpbighinamljbaa.PA
namespace Go.Proofs.Ytpbighinamljbaa.newsValids
open Go Go.ChangeShapes Go.WideShapes Go.ChangeAt Go.RowKit Go.Eng
theorem own : ownKnob Try.prog.godebug = none := by kernel_rfl
theorem laidOut : laidOutB Try.prog = true := by kernel_rfl
theorem call (w : World) (n s : Int) (x : PA.ZPrs) (ls : List PA.ZPrs) (v v2 : Value) (hv : AVRel (E0 w) w (.agg [.int .i64 n, .imm (PA.zc x) x.length false]) v) (hv2 : AVRel (E0 w) w (.imm (ls.map PA.zr) ls.length false) v2) :
    Calls Try.prog 14 #[v, .int .i64 s, v2] w fun e w' => e = .returned (.bool true) ∧ Below w.heap.size w w' := by
  obtain ⟨u, H', h1, rfl, _⟩ := PA.x14 (k := 0) (fuel := 2000) (H0 := ⟨.e, 0⟩) (n := n) (s := s) (l0 := x) (ls0 := ls) (fun _ _ => rfl) (by omega)
  have h2 : PA.cfG 16 14 [.agg [.int .i64 n, .imm (PA.zc x) x.length false], .int .i64 s, .imm (ls.map PA.zr) ls.length false] ⟨.e, 0⟩ = some (.bool true, H') := (PA.cfG_step rfl rfl).trans h1
  have h3 := (PA.cfG_ok 16 _ _ _ _ _ h2).2 (E0 w) w [v, .int .i64 s, v2] (rel0 w) (by
    simp only [AVRelL]
    exact ⟨_, _, rfl, hv, _, _, rfl, by simp only [AVRel], _, _, rfl, hv2, rfl⟩)
  refine h3.mono fun e w' ⟨u, E', he, hs, hr⟩ => ?_
  simp only [AVRel] at hr
  subst hr
  exact ⟨he, below0 hs⟩
set_option maxRecDepth 100000 in
theorem lifted (os : Os) (started : os.Started) (H : Type) (enc : TypeId × Value → H) :
    ReturnsInHanded {} Try.checked os 14 .any (Rows.newsValidsSpec.pre6 enc Try.prog Try.f14 Rows.newsValidsRow.domain false) (Rows.newsValidsSpec.post enc Try.prog Try.f14 false true false false) := by
  refine returnsInHanded_of_change (C := Try.checked) own started (by kernel_rfl) Try.func14
    (ChangeSpec.witness6 (enc := enc) (C := Try.checked) false ⟨#[], #[.agg #[.int .i64 0, .slice none 0 0], .int .i64 0, .slice none 0 0], []⟩ 8 (by kernel_rfl) (by kernel_rfl) (by kernel_rfl) (by kernel_rfl)) ?_
  intro W base args ds gs before hval0 hW hcnd _
  have hval : ∀ (j : Nat) t v, Try.f14.params[j]? = some t → args[j]? = some v → Value.okWide Try.prog W .any base t v := hval0
  have hW' := hW
  obtain ⟨p, q, hA0, hV, rfl, hfz, hnd⟩ := hW
  have hA : DataW.TrodAll enc Try.prog W 0 (fun _ => true) true Try.f14.params.toList args.toList ds p := hA0
  rw [Try.params14] at hA hval
  obtain ⟨v0, v1, v2, d0, d1, d2, p0, p1, p2, rfl, rfl, rfl, h0, h1, h2⟩ := trodAll_three hA
  obtain ⟨rfl, rfl⟩ := trodVars_none hV
  obtain ⟨cs, hv0, _⟩ := okWide_struct Try.underlying24 (hval 0 24 v0 rfl rfl)
  obtain ⟨n, x, hrel⟩ := PA.read_gr Try.underlying24 (by kernel_rfl) rfl rfl (by kernel_rfl) (by kernel_rfl) Try.underlying3 Try.underlying22 Try.underlying40 (by kernel_rfl) rfl rfl (by kernel_rfl) (by kernel_rfl) Try.underlying3 Try.underlying3 hv0 h0
  obtain ⟨s, rfl, rfl, rfl, wn⟩ := open_int Try.underlying3 (hval 1 3 v1 rfl rfl) h1
  obtain ⟨a0, len, cap, hv2⟩ := okWide_slice Try.underlying62 (hval 2 62 v2 rfl rfl)
  obtain ⟨ls, hrel2⟩ := PA.read_rows Try.underlying62 (by kernel_rfl) Try.underlying22 Try.underlying40 (by kernel_rfl) rfl rfl (by kernel_rfl) (by kernel_rfl) Try.underlying3 Try.underlying3 hv2 h2
  clear hA0 hval0
  refine (call W n s x ls v0 v2 hrel hrel2).mono fun e W' ⟨he, bel⟩ => ?_
  subst he
  have hlt : ∀ x ∈ p0, x.block < W.heap.size := fun x hx => by simpa using hW'.lt x (by simp [hx])
  have hlt2 : ∀ x ∈ p2, x.block < W.heap.size := fun x hx => by simpa using hW'.lt x (by simp [hx])
  exact ⟨_, rfl, _, _, _, [], _, [], hW', trodAll_mk1 (shut_bool Try.underlying4 _), trodAll_mk3 (Below.trod laidOut (by kernel_rfl) (of_decide_eq_true (by kernel_rfl)) h0 bel hlt) (shut_int Try.underlying3 wn) (Below.trod laidOut (by kernel_rfl) (of_decide_eq_true (by kernel_rfl)) h2 bel hlt2), rfl, bel.frame _, fun h => by cases h⟩
end Go.Proofs.Ytpbighinamljbaa.newsValids
namespace Go.Proofs.Ytpbighinamljbaa
open Go
theorem newsValids_holds : Rows.NewsValidsSaid :=
  OpenClaim.holds_of_wide 14 Try.f14 rfl rfl rfl rfl rfl rfl rfl ⟨rfl, rfl, rfl, rfl, rfl⟩ rfl rfl rfl rfl rfl (by kernel_rfl) Try.func14 (by kernel_rfl)
    (of_decide_eq_true (by kernel_rfl)) (by unfold Func.isWrapper; first | (rw [if_pos (by decide +kernel)]; kernel_rfl) | (rw [if_neg (by decide +kernel)]; exact ⟨rfl, rfl⟩))
    (fun os started H enc _ => newsValids.lifted os started H enc)
#print axioms newsValids_holds
end Go.Proofs.Ytpbighinamljbaa
namespace Go.Proofs.Ytpbighinamljbaa
open Go
theorem news_three : Rows.NewsRoundsSaid ∧ Rows.NewsCentresSaid ∧ Rows.NewsValidsSaid :=
  ⟨newsRounds_holds, newsCentres_holds, newsValids_holds⟩
end Go.Proofs.Ytpbighinamljbaa
