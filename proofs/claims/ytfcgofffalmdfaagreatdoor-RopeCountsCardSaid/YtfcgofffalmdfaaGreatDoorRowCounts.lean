/- RopeCounts: Most returns the greatest size of a folding, All and Best the numbers of foldings, and Sizes those of each size, or the errors that the document names, for all rules and strings. The row and its tied card. No condition. -/
import Derived.Test.YtfcgofffalmdfaaGreatDoorJE
import Derived.Test.YtfcgofffalmdfaaGreatDoorJB
import Derived.Test.YtfcgofffalmdfaaGreatDoorJC
import Derived.Test.YtfcgofffalmdfaaGreatDoorJD
import Derived.ProofKit
import Derived.OpenShut
import Derived.Deep.Slices
import Derived.Deep.SlicePairs
import Derived.Deep.Fields
import Derived.ShutString
import Derived.ChangeMaps
import Derived.Lib.SmallJoins
import Derived.Test.YtfcgofffalmdfaaGreatDoorRows
import Derived.Test.YtfcgofffalmdfaaGreatDoorCards
import Derived.Test.YtfcgofffalmdfaaGreatDoorTie
import Derived.LaidMore
import Derived.Lay
import Derived.SevenTiedAt
import Derived.Stop.Joined
import Derived.SizedLaws
import Derived.Carry
import Derived.ChangeSame
set_option linter.unusedSectionVars false
set_option linter.unusedVariables false
set_option linter.unusedSimpArgs false
namespace Go.Proofs.YtfcgofffalmdfaaGreatDoor.PA
open Go Go.Eng Go.Proofs
theorem nA_cells (n : Nat) : (nA n).cells = [nA n] := rfl
theorem nA_one (n : Nat) : (nA n).oneCell = true := rfl
theorem replicate_nA (m : Nat) : (List.replicate m [AV.int .i64 (.ofNat 0)]).flatten = (List.replicate m 0).map nA := by
  rw [List.map_replicate]
  induction m with
  | zero => rfl
  | succ m ih => rw [List.replicate_succ, List.flatten_cons, ih, List.replicate_succ]; rfl
theorem map_nA' {N : List Nat} {p : Nat} (h : p < N.length) : (N.map nA)[p]? = some (nA (N.getD p 0)) := by
  have := map_nA h
  rwa [Nat.mul_one] at this
set_option maxHeartbeats 4000000 in
theorem mul_walkZ {m n : Nat} (hm : (dz m).length < 400) (hn : (dz n).length < 400) : ∃ v H', xfunc (xcallK Kno F 2000 1) 2000 L72 [zN m, zN n] ⟨.e, 0⟩ = some (v, H') ∧ ∃ u, v = .agg [.bool false, u] ∧ RowE 1 H' u (dz (m * n)).length ((dz (m * n)).map nA) := by
  refine xfunc_ofK rfl (by show 2 ≤ 80; omega) ?_
  have hF := HF.start ⟨.e, 0⟩
  generalize (⟨.e, 0⟩ : AHeap) = H at hF ⊢
  have hd1 := digZ_dz m
  have hd2 := digZ_dz n
  have hv1 := valZ_dz m
  have hv2 := valZ_dz n
  have ez : ∀ k, zN k = .agg [.bool false, rowZ (dz k)] := fun k => rfl
  simp only [ez]
  generalize dz m = a at hm hd1 hv1 ⊢
  generalize dz n = b at hn hd2 hv2 ⊢
  unfold L72
  dsimp only
  repeat' (first | refine WK.seq ?_ | (apply WK.reg; (· exact lnn)) | (apply WKO.boxO; (· rfl); (· assumption); (· rfl); (· exact nxx); (· exact nxx); (· exact nxx); intro _ _ _) | (apply WKO.alO; (· assumption); (· rfl); (· exact nxx); (· exact nxx); (· exact nxx); intro _ _ _) | refine WKO.nil ?_ | ((first | apply WKO.op); (· first | exact k_lenZ rfl | (apply k_ldO; (· rfl); (· assumption); (· rfl); (· exact mmb); (· rfl)) | exact k_faddr rfl | exact opA); (· rfl)) | refine pN ?_ | fail)
  rename_i H1 hF1 hn1 H2 hF2 hn2 H3 hF3 hn3
  refine WKO.mkO (m := a.length + b.length + 1) rfl rfl ⟨by omega, by decide⟩ hF3 rfl (by simp only [next_bump]; omega) ?_
  intro H4 hF4 hn4
  rw [replicate_nA] at hF4
  repeat' (first | refine WK.seq ?_ | refine WK.block ?_ | (apply WK.reg; (· exact lnn)) | refine WKO.nil ?_ | ((first | apply WKO.op); (· first | exact k_mv rfl); (· rfl)) | refine pN ?_ | fail)
  generalize hpo : (H3.bump 10).next = po at hF4 ⊢
  have hb3 := hF3.base
  have hle3 := hF3.le
  have hpo2 : H.next ≤ po := by simp only [next_bump] at hpo; omega
  have hpo3 : H.next + 1 + 1 + 1 ≤ po := by simp only [next_bump] at hpo; omega
  clear hF hF1 hF2 hF3
  refine WK.loop (α := Nat × List Nat) (fun s => [(2, .ptr H.next 0), (3, .ptr (H.next + 1) 0), (4, .ptr (H.next + 1 + 1) 0), (5, .sl po 0 (a.length + b.length + 1) (a.length + b.length + 1)), (6, nA s.1)])
    (fun s H' => (∃ T, HF H [] T [(po, .cells (s.2.map nA) none), (H.next + 1 + 1, .cells [.bool false, .nils] none), (H.next + 1, .cells [.bool false, rowZ b] none), (H.next, .cells [.bool false, rowZ a] none)] H') ∧ MulO a b s.1 s.2 ∧ s.1 ≤ a.length) (fun s => a.length - s.1) (0, List.replicate (a.length + b.length + 1) 0) (.cons rfl <| .cons rfl <| .cons rfl <| .cons rfl <| .cons rfl <| .nil _) ⟨⟨_, hF4.up rfl (by simp only [next_bump]; omega)⟩, MulO.zero a b, Nat.zero_le _⟩ (by show a.length - 0 < 2000; omega) ?_
  rintro ⟨i, N⟩ H5 ⟨⟨T5, hF5⟩, hO, hi⟩
  simp only at hF5 hO hi ⊢
  clear hF4
  repeat' (first | refine WK.seq ?_ | refine WK.skip ?_ | refine WK.exit ?_ | refine WK.block ?_ | (apply WK.reg; (· exact lnn)) | refine WKO.nil ?_ | ((first | apply WKO.op); (· first | exact k_mv rfl | exact k_lenZ rfl | (apply k_ldO; (· rfl); (· assumption); (· rfl); (· exact mmb); (· rfl)) | exact k_faddr rfl | exact opA); (· rfl)) | refine pN ?_ | refine pX ?_ | refine bX ?_ | (apply WK.condD; (· rfl); all_goals intro _) | fail)
  · refine WK.loop (α := Nat × Nat × List Nat) (fun s => [(2, .ptr H.next 0), (3, .ptr (H.next + 1) 0), (4, .ptr (H.next + 1 + 1) 0), (5, .sl po 0 (a.length + b.length + 1) (a.length + b.length + 1)), (6, nA i), (7, nA s.2.1), (8, nA s.1)])
      (fun s H' => (∃ T, HF H [] T [(po, .cells (s.2.2.map nA) none), (H.next + 1 + 1, .cells [.bool false, .nils] none), (H.next + 1, .cells [.bool false, rowZ b] none), (H.next, .cells [.bool false, rowZ a] none)] H') ∧ MulI a b i s.1 s.2.1 s.2.2) (fun s => b.length + 1 - s.1) (0, 0, N) (.cons rfl <| .cons rfl <| .cons rfl <| .cons rfl <| .cons rfl <| .cons rfl <| .cons rfl <| .nil _) ⟨⟨_, hF5.up rfl (by simp only [next_bump]; omega)⟩, hO.row⟩ (by show b.length + 1 - 0 < 2000; omega) ?_
    rintro ⟨k, c, M⟩ H6 ⟨⟨T6, hF6⟩, hI⟩
    simp only at hF6 hI ⊢
    clear hF5
    have hMl := hI.l
    have hc1 := hI.c1
    have hk1 := hI.k1
    have hke := hI.e
    have hB : BZ = 10000 := rfl
    rw [hB] at hc1
    have hdg := digZ_get hI.d (i + k)
    have hda := digZ_get hd1 i
    have hdb := digZ_get hd2 k
    rw [hB] at hda hdb
    have hmul : a.getD i 0 * b.getD k 0 ≤ 9999 * 9999 := Nat.mul_le_mul (by omega) (by omega)
    rw [hB] at hdg
    repeat' (first | refine WK.seq ?_ | refine WK.skip ?_ | refine WK.exit ?_ | refine WK.block ?_ | (apply WK.reg; (· exact lnn)) | (apply WK.regC; (· rfl); (· exact lnn); (· decide)) | refine WKC.nil ?_ | refine WKO.nil ?_ | ((first | apply WKC.op | apply WKO.op | ((first | apply WKO.gop); (· rfl); (· exact dcd))); (· first | exact k_mv rfl | exact k_lenZ rfl | exact k_ia1s rfl rfl (by omega) | (apply k_ldO; (· rfl); (· exact hF6); (· rfl); (· exact .head _); (· exact map_nA' (by omega))) | exact k_iaZ rfl rfl (by omega) | exact k_ldZ rfl (by omega) | exact k_mulN rfl rfl (by omega) | exact k_remN rfl rfl (by decide) | exact k_quoN rfl rfl (by decide) (by omega) | (apply k_ldO; (· rfl); (· assumption); (· rfl); (· exact mmb); (· rfl)) | exact k_faddr rfl | exact opA); (· rfl)) | ((first | apply WKO.gnoF); (· rfl); (· exact dcd)) | ((first | apply WKO.gsp); (· rfl); all_goals ((fail_if_success (refine known ?_ ?_; (· assumption))); intro _)) | refine pN ?_ | refine pX ?_ | refine bN ?_ | refine bX ?_ | (apply WK.condT; (· rfl); (· exact dcd)) | (apply WK.condF; (· rfl); (· exact dcd)) | (apply WK.condD; (· rfl); all_goals intro _) | fail)
    · refine WKO.stN (f := nA) (N := M) (p := i + k) rfl rfl (nA_cells _) (nA_one _) hF6 rfl nxx (.inr hpo2) (by omega) ?_
      intro H7 hF7 hn7
      repeat' (first | (apply WK.reg; (· exact lnn)) | refine WKO.nil ?_ | ((first | apply WKO.op); (· first | exact k_mv rfl | exact opA); (· rfl)) | refine pN ?_ | refine bN ?_ | fail)
      obtain ⟨q1, q2⟩ := hI.step hd1 hd2 (by assumption) (by assumption) rfl
      exact ⟨(k + 1, _, _), (.cons rfl <| .cons rfl <| .cons rfl <| .cons rfl <| .cons rfl <| .cons rfl <| .cons rfl <| .nil _), ⟨⟨T6, hF7.up rfl (by simp only [next_bump]; omega)⟩, q1⟩, by show b.length + 1 - (k + 1) < b.length + 1 - k; omega⟩
    · have hkb : k = b.length := by omega
      subst hkb
      obtain ⟨q0, q1⟩ := hI.last (by assumption)
      refine WKO.stN (f := nA) (N := M) (p := i + b.length) rfl rfl (nA_cells _) (nA_one _) hF6 rfl nxx (.inr hpo2) (by omega) ?_
      intro H7 hF7 hn7
      repeat' (first | (apply WK.reg; (· exact lnn)) | refine WKO.nil ?_ | ((first | apply WKO.op); (· first | exact k_mv rfl | exact opA); (· rfl)) | refine pN ?_ | refine bN ?_ | fail)
      have e1 : (M.getD (i + b.length) 0 + c) / 10000 = 0 := by omega
      have e2 : (M.getD (i + b.length) 0 + c) % 10000 = c := by omega
      rw [e2] at hF7
      rw [e1]
      exact ⟨(b.length + 1, 0, _), (.cons rfl <| .cons rfl <| .cons rfl <| .cons rfl <| .cons rfl <| .cons rfl <| .cons rfl <| .nil _), ⟨⟨T6, hF7.up rfl (by simp only [next_bump]; omega)⟩, q1⟩, by show b.length + 1 - (b.length + 1) < b.length + 1 - b.length; omega⟩
    · refine ⟨fun _ => ?_, fun q => absurd rfl q⟩
      repeat' (first | (apply WK.reg; (· exact lnn)) | refine WKO.nil ?_ | ((first | apply WKO.op); (· first | exact k_mv rfl | exact opA); (· rfl)) | refine pN ?_ | fail)
      exact ⟨(i + 1, M), (.cons rfl <| .cons rfl <| .cons rfl <| .cons rfl <| .cons rfl <| .nil _), ⟨⟨T6, hF6.up rfl (by simp only [next_bump]; omega)⟩, hI.done (by assumption) (by omega), by show i + 1 ≤ a.length; omega⟩, by show a.length - (i + 1) < a.length - i; omega⟩
  · refine ⟨fun _ => ?_, fun q => absurd rfl q⟩
    repeat' (first | refine WK.seq ?_ | (apply WK.reg; (· exact lnn)) | ((first | apply WKO.op); (· first | exact k_mv rfl | exact k_neB rfl rfl | (apply k_ldO; (· rfl); (· assumption); (· rfl); (· exact mmb); (· rfl)) | exact k_faddr rfl | exact opA); (· rfl)) | fail)
    have hvN := hO.done (by assumption)
    have hNl := hO.l
    have hpl := hF5.lt _ (.head _)
    have hle5 := hF5.le
    simp only at hpl
    have hfrt : Frt ((H5.bump 5).bump 9) (.sl po 0 (a.length + b.length + 1) (a.length + b.length + 1)) N := .inr (.inl ⟨po, by rw [hNl], by simp only [next_bump]; omega, hF5.obj _ (.head _), by omega⟩)
    refine WKO.callV rfl rfl rfl (show ∃ v H', xcallK Kno F 2000 1 83 [.agg [.bool false, .sl po 0 (a.length + b.length + 1) (a.length + b.length + 1)]] ((H5.bump 5).bump 9) = some (v, H') ∧ _ from by
      obtain ⟨v, H', q1, q2⟩ := lean_ok (cf := xcallK Kno F 2000 0) (fuel := 2000) hfrt hO.d (by omega) (by omega)
      exact ⟨v, H', (cfstep rfl rfl).trans q1, q2⟩) ?_
    rintro v H7 ⟨u, rfl, hR, hfr, hn7, hown⟩
    have ho := hR.one
    simp only [next_bump] at hfr hn7 hown
    have hF7 : HF H7 [H.next + 1 + 1] H7.next [(H.next + 1 + 1, .cells [.bool false, .nils] none)] H7 := HF.add ⟨fun p hp => (by cases hp), fun p hp => (by cases hp), by simp, Nat.le_refl _, Nat.le_refl _, fun _ _ _ => rfl⟩ ((hfr _ (by omega)).trans (hF5.obj (H.next + 1 + 1, _) (.tail _ (.head _)))) (by omega) (by simp)
    clear hF5
    repeat' (first | refine WK.ret ?_ | (apply WKO.p0; (· rfl); (· rfl); (· first | rfl); (· first | assumption); (· assumption); (· rfl); (· exact nxx); (· first | exact .inl (by simp)); intro _ _ _) | refine WKO.nil ?_ | refine pN ?_ | fail)
    rename_i H9 hF9 hn9
    rw [hvN, hv1, hv2] at hR
    exact ⟨fun id q => (by cases q), _, resK_obj rfl (hF9.obj _ (.head _)) rfl, u, rfl, hR.frame (Nat.le_trans hF9.base hF9.le) (fun q hq => hF9.fr q (hR.own_lt hq) (by have := hown q hq; simp only [List.mem_singleton]; omega))⟩
theorem E72 {m n : Nat} (hm : (dz m).length < 400) (hn : (dz n).length < 400) (H : AHeap) : KE 72 [zN m, zN n] H = some (zN (m * n), H) := by
  obtain ⟨v, H', h, u, rfl, hR⟩ := mul_walkZ hm hn
  have hc := (xfunc_sound mixed (xcallK_sound mixed Kno_ok F_ok 2000 1) 2000 (F_ok 72 L72 rfl) h).pure (H := H) (v' := zN (m * n)) (by simp only [AV.frozL, zN_froz, Bool.and_self]) (.agg rfl (fun j x y hx hy => by
    match j, hx, hy with
    | 0, hx, hy => cases hx; cases hy; exact .bool _
    | 1, hx, hy => cases hx; cases hy; exact rowZ_fz hR (fun i _ => get_e0 i)))
  obtain ⟨v', q1, q2⟩ := KE_hit hc (fun m' n' e => by
    simp only [List.cons.injEq, and_true] at e
    rw [zN_inj e.1, zN_inj e.2])
  rw [q1, q2 m n rfl]
end Go.Proofs.YtfcgofffalmdfaaGreatDoor.PA
namespace Go.Proofs.YtfcgofffalmdfaaGreatDoor.PA
theorem decV_acc : ∀ (l : List Nat) (v : Nat), l.foldl (fun v c => 10 * v + (c - 48)) v = v * 10 ^ l.length + decV l
  | [], v => by simp [decV]
  | c :: l, v => by
    have e : decV (c :: l) = l.foldl (fun v c => 10 * v + (c - 48)) (10 * 0 + (c - 48)) := rfl
    rw [e, List.foldl_cons, decV_acc l, decV_acc l (10 * 0 + (c - 48)), List.length_cons, Nat.pow_succ, Nat.add_mul, Nat.add_mul, Nat.mul_comm 10 v, Nat.mul_assoc v 10, Nat.mul_comm 10 (10 ^ l.length)]
    omega
theorem decV_app (a b : List Nat) : decV (a ++ b) = decV a * 10 ^ b.length + decV b := by
  have : decV (a ++ b) = b.foldl (fun v c => 10 * v + (c - 48)) (decV a) := by unfold decV; rw [List.foldl_append]
  rw [this, decV_acc]
theorem decV_lt : ∀ {l : List Nat}, (∀ c ∈ l, 48 ≤ c ∧ c < 58) → decV l < 10 ^ l.length
  | [], _ => by simp [decV]
  | c :: l, h => by
    have h1 := decV_lt (l := l) (fun x hx => h x (by simp [hx]))
    have h2 := h c (by simp)
    have e : decV (c :: l) = (c - 48) * 10 ^ l.length + decV l := by
      have : decV (c :: l) = l.foldl (fun v c => 10 * v + (c - 48)) (10 * 0 + (c - 48)) := rfl
      rw [this, decV_acc, Nat.mul_zero, Nat.zero_add]
    have h3 : (c - 48) * 10 ^ l.length ≤ 9 * 10 ^ l.length := Nat.mul_le_mul_right _ (by omega)
    rw [e, List.length_cons, Nat.pow_succ]
    omega
def grp (L : List Nat) (i j : Nat) : List Nat := (L.take j).drop i
theorem grp_lt {L : List Nat} (h : ∀ c ∈ L, 48 ≤ c ∧ c < 58) {i j : Nat} (hij : i ≤ j) (h4 : j ≤ i + 4) : decV (grp L i j) < 10000 := by
  have h1 := decV_lt (l := grp L i j) (fun c hc => h c (List.mem_of_mem_take (List.mem_of_mem_drop hc)))
  have h2 : (grp L i j).length ≤ 4 := by unfold grp; rw [List.length_drop, List.length_take]; omega
  have h3 : 10 ^ (grp L i j).length ≤ 10 ^ 4 := Nat.pow_le_pow_right (by decide) h2
  have h4 : (10 : Nat) ^ 4 = 10000 := rfl
  omega
structure ReadZ (L : List Nat) (n at_ : Nat) (o : List Nat) : Prop where
  v : valZ o + BZ ^ o.length * decV (L.take at_) = n
  d : digZ o
  l : o.length + at_ ≤ L.length
theorem ReadZ.next {L : List Nat} {n at_ : Nat} {o : List Nat} (h : ReadZ L n at_ o) (hL : ∀ c ∈ L, 48 ≤ c ∧ c < 58) (h0 : 0 < at_) : ReadZ L n (at_ - 4) (o ++ [decV (grp L (at_ - 4) at_)]) := by
  have hl := h.l
  refine ⟨?_, digZ_snoc h.d (by rw [BZ_eq]; exact grp_lt hL (by omega) (by omega)), by rw [List.length_append, List.length_singleton]; omega⟩
  rw [valZ_snoc, ← h.v, List.length_append, List.length_singleton, Nat.pow_succ, Nat.mul_assoc, Nat.add_assoc, ← Nat.mul_add]
  congr 2
  have e : L.take at_ = L.take (at_ - 4) ++ grp L (at_ - 4) at_ := by
    unfold grp
    have := List.take_append_drop (at_ - 4) (L.take at_)
    rw [List.take_take, Nat.min_eq_left (by omega)] at this
    exact this.symm
  rw [e, decV_app, BZ_eq]
  by_cases h4 : 4 ≤ at_
  · have : (grp L (at_ - 4) at_).length = 4 := by unfold grp; rw [List.length_drop, List.length_take]; omega
    rw [this]
    omega
  · rw [show at_ - 4 = 0 by omega, List.take_zero]
    simp [decV]
theorem ReadZ.done {L : List Nat} {n : Nat} {o : List Nat} (h : ReadZ L n 0 o) : valZ o = n := by
  have := h.v
  rw [List.take_zero, show decV [] = 0 from rfl, Nat.mul_zero, Nat.add_zero] at this
  exact this
theorem decS_length (n : Nat) : (decS n).length = (decL n).length := by rw [decS, List.length_map]
end Go.Proofs.YtfcgofffalmdfaaGreatDoor.PA
namespace Go.Proofs.YtfcgofffalmdfaaGreatDoor.PA
open Go Go.Eng Go.Proofs
theorem HF.back {H0 Hc H1 : AHeap} {T : Nat} {fs fs' : List (Nat × AObj)} {p : Nat} (h0 : HF H0 [] T fs Hc) (h1 : HF Hc [p] Hc.next fs' H1) (hp : H0.next ≤ p) (he : fs'.map (·.1) = fs.map (·.1)) : HF H0 [] T fs' H1 where
  obj := h1.obj
  lt := fun q hq => by
    have : q.1 ∈ fs.map (·.1) := by rw [← he]; exact List.mem_map_of_mem hq
    obtain ⟨q', hq', e⟩ := List.mem_map.1 this
    have := h0.lt q' hq'
    omega
  nd := h1.nd
  base := h0.base
  le := Nat.le_trans h0.le (Nat.le_trans h1.base h1.le)
  fr := fun k hk hm => (h1.fr k (by have := h0.base; have := h0.le; omega) (by simp only [List.mem_singleton]; omega)).trans (h0.fr k hk hm)
theorem HF.here {H0 H : AHeap} {T : Nat} {fs : List (Nat × AObj)} {mod : List Nat} (m : List Nat) (h : HF H0 mod T fs H) : HF H m H.next fs H :=
  ⟨h.obj, fun p hp => Nat.lt_of_lt_of_le (h.lt p hp) h.le, h.nd, Nat.le_refl _, Nat.le_refl _, fun _ _ _ => rfl⟩
section
variable {cf : CF} {n m : Nat} {H0 H H' : AHeap} {T : Nat} {fs : List (Nat × AObj)} {l : KL0} {R : KL0 → AHeap → Prop} {r : List XOper} {x y : XO}
theorem WKO.apF {d1 d2 d3 bytes p : Nat} {z0 c1 u val : AV} {cs : List AV} {pX : XO} (hF : HF H0 [] T ((p, .cells [c1, u] none) :: fs) H) (hR : RowE 1 H u m cs) (ho : ∀ q, u.own = some q → H0.next ≤ q ∧ q ∉ p :: fs.map (·.1)) (hp0 : H0.next ≤ p) (hb : bytes ≤ 2 ^ 16) (hm : H'.m = H.m) (hn : H.next ≤ n) (hlt : n < H'.next) (hl : m < 1000000)
    (hy : evK l y = some val) (hc : val.cells = [val]) (hov : val.oneCell = true) (hx : evK ((d1, .sl n 0 1 1) :: l) x = some u) (hpx : ∀ v', evK ((d2, v') :: (d1, .sl n 0 1 1) :: l) pX = some (.ptr p 0))
    (hst : ∀ v', evK ((d3, .ptr p (0 + 1)) :: (d2, v') :: (d1, .sl n 0 1 1) :: l) (.t d2) = some v')
    (k : ∀ v' H1, HF H0 [] T ((p, .cells [c1, v'] none) :: fs) H1 → RowE 1 H1 v' (m + 1) (cs ++ [val]) → (∀ q, v'.own = some q → H0.next ≤ q ∧ q ∉ p :: fs.map (·.1)) → H'.next ≤ H1.next → WKO cf r (n + 1 + 1 + 1 + 1) ((d3, .ptr p (0 + 1)) :: (d2, v') :: (d1, .sl n 0 1 1) :: l) H1 R) :
    WKO cf (⟨some d1, .bslice [z0] [(0, 1, y)] 1, none⟩ :: ⟨some d2, .app 1 bytes x (.t d1), none⟩ :: ⟨some d3, .faddr 1 pX, none⟩ :: ⟨none, .store 1 (.t d3) (.t d2), none⟩ :: r) n l H' R := by
  have hR' : RowE 1 H' u m cs := hR.frame (by omega) (fun i _ => bump_get hm i)
  have hb0 := hF.base
  have hle := hF.le
  have hown : ∀ q, u.own = some q → q < H.next := fun q hq => hR.own_lt hq
  refine WKO.append1E (m := m) (v := u) (cs := cs) (new := [val]) hR' hx ?_ (by simp [allSm, XOp.opnds, hy]) (by omega) (by omega) hb rfl (by simp [hov]) hlt (fun e => by have := hown n e; omega) (fun v' H1 q1 q2 q3 q4 => ?_)
  · simp only [evParts, hy, bind, Option.bind_some, fillA, hc]
    simp
  · have hF1 : HF H0 [] T ((p, .cells [c1, u] none) :: fs) H1 := (hF.up hm (by omega)).call (H' := H1) (mod' := n :: ownL u) (fun q h1 h2 => by
        simp only [List.mem_cons, not_or] at h2
        exact q3 q h1 h2.1 (fun e => h2.2 (mem_ownL.2 e))) q2 (fun q hq => .inr (by
        rcases List.mem_cons.1 hq with e | e
        · omega
        · exact (ho q (mem_ownL.1 e)).1)) (fun q hq => by
        have hqT := hF.lt q hq
        intro hmem
        rcases List.mem_cons.1 hmem with e | e
        · omega
        · have := (ho _ (mem_ownL.1 e)).2
          apply this
          rcases List.mem_cons.1 hq with e2 | e2
          · rw [e2]; exact .head _
          · exact .tail _ (List.mem_map_of_mem e2))
    have hv1 : v'.oneCell = true := (show RowE 1 H1 v' (m + 1) (cs ++ [val]) from .inl q1).one
    refine WKO.op (k_faddr (hpx v')) (by simp [allSm, XOp.opnds, hpx v']) ?_
    refine WKO.c0 (c := [c1, u]) (show evK _ (.t d3) = some (.ptr p (0 + 1)) from by simp [evK, Go.Eng.look]) (hst v') hv1 (HF.here [p] hF1) rfl (Nat.le_refl _) (.inl (.head _)) (by simp) ?_
    intro H2 hF2 hn2
    have hpT := hF.lt _ (.head _)
    simp only at hpT
    have hown' : ∀ q, v'.own = some q → H0.next ≤ q ∧ q ∉ p :: fs.map (·.1) := fun q hq => by
      rcases q4 q hq with e | e
      · exact ho q e
      · refine ⟨by omega, fun hmem => ?_⟩
        have : q < T := by
          rcases List.mem_cons.1 hmem with e2 | e2
          · omega
          · obtain ⟨q', hq', e3⟩ := List.mem_map.1 e2
            have := hF.lt q' (.tail _ hq')
            omega
        omega
    refine k v' H2 (HF.back hF1 hF2 hp0 (by simp)) ((show RowE 1 H1 v' (m + 1) (cs ++ [val]) from .inl q1).frame (Nat.le_trans hF2.base hF2.le) (fun q hq => hF2.fr q (by
      have := (show RowE 1 H1 v' (m + 1) (cs ++ [val]) from .inl q1).own_lt hq
      exact this) (by
      have := (hown' q hq).2
      simp only [List.mem_cons, not_or] at this
      simp only [List.mem_singleton]
      exact this.1))) hown' (by omega)
end
end Go.Proofs.YtfcgofffalmdfaaGreatDoor.PA
namespace Go.Proofs.YtfcgofffalmdfaaGreatDoor.PA
open Go Go.Eng Go.Proofs
section
variable {cf : CF} {n a c m : Nat} {z : Int} {H : AHeap} {l : KL0} {x y : XO}
end
theorem Z_fz {H : AHeap} {u : AV} {n : Nat} (hR : RowE 1 H u (dz n).length ((dz n).map nA)) : Fz H ⟨.e, 0⟩ (fun _ => False) (.agg [.bool false, u]) (zN n) :=
  .agg rfl (fun j x y hx hy => by
    match j, hx, hy with
    | 0, hx, hy => cases hx; cases hy; exact .bool _
    | 1, hx, hy => cases hx; cases hy; exact rowZ_fz hR (fun i _ => get_e0 i))
end Go.Proofs.YtfcgofffalmdfaaGreatDoor.PA
namespace Go.Proofs.YtfcgofffalmdfaaGreatDoor.PA
open Go Go.Eng Go.Proofs
set_option maxHeartbeats 4000000 in
theorem intZ_walk {n : Nat} (hn : n < 4611686018427387905) : ∃ v H', xfunc (xcallK Kno F 3000 1) 3000 L52 [nA n] ⟨.e, 0⟩ = some (v, H') ∧ ∃ u, v = .agg [.bool false, u] ∧ RowE 1 H' u (dz n).length ((dz n).map nA) := by
  refine xfunc_ofK rfl (by show 1 ≤ 25; omega) ?_
  have hF := HF.start ⟨.e, 0⟩
  generalize (⟨.e, 0⟩ : AHeap) = H at hF ⊢
  have hdl : (dz n).length ≤ 5 := dz_len 5 n (by show n < 10000 ^ 5; omega)
  have hb0 : decide (n < 0) = false := decide_eq_false (Nat.not_lt_zero n)
  unfold L52
  dsimp only
  repeat' (first | refine WK.seq ?_ | refine WK.block ?_ | (apply WK.reg; (· exact lnn)) | (apply WKO.p0; (· rfl); (· rfl); (· first | rfl); (· first | rfl); (· assumption); (· rfl); (· exact nxx); (· first | exact .inr nxx); intro _ _ _) | (apply WKO.alO; (· assumption); (· rfl); (· exact nxx); (· exact nxx); (· exact nxx); intro _ _ _) | refine WKO.nil ?_ | ((first | apply WKO.op); (· first | exact k_mv rfl | exact opA); (· rfl)) | refine pN ?_ | fail)
  rename_i H1 hF1 hn1 H2 hF2 hn2 H3 hF3 hn3
  generalize hp3 : H1.next + 1 + 1 + 1 = p3 at hF2 hF3 ⊢
  have hp3a : H.next < p3 := by simp only [next_bump] at *; omega
  refine WK.loop (α := Nat × List Nat × AV) (fun s => [(0, nA s.1), (2, .ptr H.next 0), (3, .ptr p3 0)])
    (fun s H' => (∃ T, HF H [] T [(p3, .cells [.bool false, s.2.2] none), (H.next, .cells [.bool false, .nils] none)] H') ∧ RowE 1 H' s.2.2 s.2.1.length (s.2.1.map nA) ∧ (∀ q, s.2.2.own = some q → H.next ≤ q ∧ q ∉ p3 :: [H.next]) ∧ s.2.1 ++ dz s.1 = dz n ∧ s.1 ≤ n) (fun s => (dz s.1).length) (n, [], .nils) (.cons rfl <| .cons rfl <| .cons rfl <| .nil _)
    ⟨⟨_, by rw [hb0] at hF3; exact hF3⟩, .inl ⟨rfl, .inl ⟨rfl, rfl⟩⟩, fun q hq => by simp [AV.own] at hq, rfl, Nat.le_refl _⟩ (by show (dz n).length < 3000; omega) ?_
  rintro ⟨m, o, u⟩ H5 ⟨⟨T5, hF5⟩, hR, ho, hd, hm⟩
  simp only at hF5 hR ho hd hm ⊢
  have hb5 := hF5.base
  have hle5 := hF5.le
  have hol : o.length ≤ 5 := by
    have := congrArg List.length hd
    rw [List.length_append] at this
    omega
  clear hF hF1 hF2 hF3
  repeat' (first | refine WK.seq ?_ | refine WK.skip ?_ | refine WK.exit ?_ | refine WK.block ?_ | (apply WK.reg; (· exact lnn)) | refine WKO.nil ?_ | ((first | apply WKO.op); (· first | exact k_mv rfl | exact k_remN rfl rfl (by decide) | exact k_faddr rfl | (apply k_ldO; (· rfl); (· exact hF5); (· rfl); (· exact .head _); (· rfl)) | exact opA); (· rfl)) | refine pN ?_ | refine pX ?_ | refine bX ?_ | (apply WK.condF; (· rfl); (· exact dcd)) | (apply WK.condD; (· rfl); all_goals intro _) | fail)
  · refine WKO.apF (H0 := H) (hF5.up (H' := _) rfl nxx) (hR.frame (H' := _) nxx (fun q _ => rfl)) ho (by omega) (by decide) rfl (by simp only [next_bump]; omega) (by simp only [next_bump]; omega) (by omega) rfl rfl rfl rfl (fun _ => rfl) (fun _ => rfl) ?_
    intro v7 H7 hF7 hR7 ho7 hn7
    repeat' (first | (apply WK.reg; (· exact lnn)) | refine WKO.nil ?_ | ((first | apply WKO.op); (· first | exact k_mv rfl | exact k_quoN rfl rfl (by decide) (by omega)); (· rfl)) | refine pN ?_ | refine bN ?_ | fail)
    have hm0 : m ≠ 0 := by assumption
    refine ⟨(m / 10000, o ++ [m % 10000], v7), (.cons rfl <| .cons rfl <| .cons rfl <| .nil _), ⟨⟨T5, hF7.up rfl (by simp only [next_bump]; omega)⟩, ?_, ho7, ?_, by show m / 10000 ≤ n; omega⟩, ?_⟩
    · have hR8 : RowE 1 H7 v7 (o ++ [m % 10000]).length ((o ++ [m % 10000]).map nA) := by simpa using hR7
      exact hR8.frame (by simp only [next_bump]; omega) (fun _ _ => rfl)
    · show (o ++ [m % 10000]) ++ dz (m / 10000) = dz n
      rw [← hd, dz_pos hm0, List.append_assoc]
      rfl
    · show (dz (m / 10000)).length < (dz m).length
      rw [dz_pos hm0, List.length_cons]
      exact Nat.lt_succ_self _
  · refine ⟨fun _ => ?_, fun q => absurd rfl q⟩
    have hm0 : m = 0 := by omega
    subst hm0
    rw [dz_zero, List.append_nil] at hd
    subst hd
    repeat' (first | refine WK.seq ?_ | (apply WK.reg; (· exact lnn)) | ((first | apply WKO.op); (· first | (apply k_ldA; (· rfl); (· exact hF5); (· rfl); (· exact .head _); (· rfl))); (· rfl)) | fail)
    have hou := hR.one
    have hF6 := HF.here [H.next] (hF5.sub (gs := [(H.next, .cells [.bool false, .nils] none)]) (.cons _ (.refl _)) (Nat.le_refl _) hF5.le)
    refine WKO.p0 rfl rfl rfl hou hF6 rfl nxx (.inl (.head _)) ?_
    intro H9 hF9 hn9
    repeat' (first | refine WK.ret ?_ | refine WKO.nil ?_ | refine pN ?_ | fail)
    exact ⟨fun id q => (by cases q), _, resK_obj rfl (hF9.obj _ (.head _)) rfl, u, rfl, hR.frame (Nat.le_trans hF9.base hF9.le) (fun q hq => hF9.fr q (hR.own_lt hq) (by have := (ho q hq).2; simp only [List.mem_cons, not_or] at this; simp only [List.mem_singleton]; exact this.2.1))⟩
theorem E52 {n : Nat} (hn : n < 4611686018427387905) (H : AHeap) : KE 52 [nA n] H = some (zN n, H) := by
  obtain ⟨v, H', h, u, rfl, hR⟩ := intZ_walk hn
  have hc := (xfunc_sound mixed (xcallK_sound mixed Kno_ok F_ok 3000 1) 3000 (F_ok 52 L52 rfl) h).pure (H := H) rfl (Z_fz hR)
  obtain ⟨v', q1, q2⟩ := KE_hit hc (fun n' e => by
    simp only [List.cons.injEq, and_true] at e
    rw [nA_inj e])
  rw [q1, q2 n rfl]
theorem qN_froz (n : Nat) : (qN n).froz = true := by simp only [qN, AV.froz, AV.frozL, rowZ_froz, Bool.and_self]
theorem qN_inj {m n : Nat} (h : qN m = qN n) : m = n := by
  simp only [qN, AV.agg.injEq, List.cons.injEq, true_and, and_true] at h
  exact dz_inj (rowZ_inj h)
end Go.Proofs.YtfcgofffalmdfaaGreatDoor.PA
namespace Go.Proofs.YtfcgofffalmdfaaGreatDoor.PA
open Go Go.Eng Go.Proofs
theorem k_ldC {cf : CF} {n : Nat} {H0 H H' : AHeap} {mod : List Nat} {T : Nat} {fs : List (Nat × AObj)} {l : KL0} {x : XO} {i p m : Nat} {c d : List AV} {opn : Option Nat} (hx : evK l x = some (.ptr i p)) (hF : HF H0 mod T fs H) (hm : H'.m = H.m) (ho : (i, .cells c opn) ∈ fs) (hc : p + m ≤ c.length) (e : (c.drop p).take m = d) : XV cf l H' n (.load (some m) x) = some (.agg d, H') := by
  have hg : H'.get i = some (.cells c opn) := by unfold AHeap.get; rw [hm]; exact hF.obj _ ho
  have := op_loadn (cf := cf) (m := n) (n := m) (i := i) (o := p) (ev := evK l) (x := x) hx hg (by omega)
  rw [e] at this
  exact k_any this
theorem dz_one : dz 1 = [1] := by rw [dz_pos (by decide), show 1 / BZ = 0 by decide, dz_zero]; rfl
theorem fN_froz (m n : Nat) : (fN m n).froz = true := by simp only [fN, AV.froz, AV.frozL, rowZ_froz, Bool.and_self]
theorem fN_inj {m n p q : Nat} (h : fN m n = fN p q) : m = p ∧ n = q := by
  simp only [fN, AV.agg.injEq, List.cons.injEq, true_and, and_true] at h
  exact ⟨dz_inj (rowZ_inj h.1), dz_inj (rowZ_inj h.2)⟩
def Kor (A B : CF) : CF := fun f args H => match A f args H with
  | some r => some r
  | none => B f args H
theorem Kor_ok {P : Program} {A B : CF} (hA : CFok P A) (hB : CFok P B) : CFok P (Kor A B) := by
  intro f args H v H' h
  unfold Kor at h
  split at h
  · rename_i r q
    cases h
    exact hA _ _ _ _ _ q
  · exact hB _ _ _ _ _ h
theorem Kor_l {A B : CF} {f : Nat} {args : List AV} {H : AHeap} {r : AV × AHeap} (h : A f args H = some r) : Kor A B f args H = some r := by
  unfold Kor
  rw [h]
theorem Kor_r {A B : CF} {f : Nat} {args : List AV} {H : AHeap} {r : AV × AHeap} (h0 : A f args H = none) (h : B f args H = some r) : Kor A B f args H = some r := by
  unfold Kor
  rw [h0, h]
end Go.Proofs.YtfcgofffalmdfaaGreatDoor.PA
namespace Go.Proofs.YtfcgofffalmdfaaGreatDoor.PA
open Go Go.Eng Go.Proofs
theorem decL_big {n : Nat} (h : n < bigN) : (decL n).length ≤ 200 := by
  unfold decL
  split
  · decide
  · rw [List.length_reverse]
    exact decR_len 200 n (big200 h)
theorem dz_big {n : Nat} (h : n < bigN) : (dz n).length < 60 := by
  have := dz_len 55 n (by
    rw [bigN_def] at h
    exact Nat.lt_of_lt_of_le h (by show 4294967296 ^ 20 ≤ 10000 ^ 55; decide))
  omega
def Still (K : CF) : Prop := ∀ f args H v H', K f args H = some (v, H') → H' = H
theorem Still.clean {K : CF} (h : Still K) : CleanCF K := fun f args H v H' q => by rw [h _ _ _ _ _ q]; exact CleanTo.refl H
theorem KE_still : Still KE := by
  intro f args H v H' h
  unfold KE at h
  split at h
  · cases h; rfl
  · cases h
section
variable {H : AHeap} {s : List UInt8} {P : AV} {l : List (Int × Int)} {gap : Int}
end
theorem szF_big {s : List UInt8} {l : List (Int × Int)} {gap : Int} (h : readE s l gap = 0) : (szF s (rulesOf l) gap 0 s.length).sum < bigN := (szF_le s _ gap (readE_zero h).1).2
theorem encPairs_app (a b : List (Int × Int)) : encPairs (a ++ b) = encPairs a ++ encPairs b := by simp [encPairs]
theorem encPairs_len (l : List (Int × Int)) : (encPairs l).length = l.length * 2 := by
  induction l with
  | nil => rfl
  | cons p l ih => simp [encPairs] at ih ⊢; omega
theorem encPairs_ones (l : List (Int × Int)) : (encPairs l).all AV.oneCell = true := by
  induction l with
  | nil => rfl
  | cons p l ih => simp [encPairs, AV.oneCell] at ih ⊢
end Go.Proofs.YtfcgofffalmdfaaGreatDoor.PA
namespace Go.Eng
variable {P : Program}
inductive FzP (H : AHeap) : AV → AV → Prop
  | plain {v : AV} (h : AV.plain v = true) : FzP H v v
  | agg {l m : List AV} (hl : m.length = l.length) (h : ∀ (j : Nat) (x y : AV), l[j]? = some x → m[j]? = some y → FzP H x y) : FzP H (.agg l) (.agg m)
  | tup {l m : List AV} (hl : m.length = l.length) (h : ∀ (j : Nat) (x y : AV), l[j]? = some x → m[j]? = some y → FzP H x y) : FzP H (.tup l) (.tup m)
  | fsl {i o l c k : Nat} {cs ds : List AV} {opn : Option Nat} (hg : H.get i = some (.cells cs opn)) (hd : (cs.drop o).take k = ds) (hp : AV.plainL ds = true) (h0 : l = 0 → ds = []) : FzP H (.sl i o l c) (.imm ds l false)
  | fnil : FzP H .nils (.imm [] 0 false)
theorem FzP.sound {E E'' : Env} {w : World} {H : AHeap} (hR : Rel E H w) (hF : ∀ i o L, H.get i = some o → E.ρ i = some L → E''.I L.b) : ∀ {v v' : AV}, FzP H v v' → ∀ u, AVRel E w v u → AVRel E'' w v' u := by
  intro v v' h
  induction h with
  | plain hp => intro u h; exact plain_rel hp h
  | agg hl _ ih =>
    intro u h
    simp only [AVRel] at h ⊢
    obtain ⟨us, h1, h2⟩ := h
    exact ⟨us, h1, h2.fz hl ih⟩
  | tup hl _ ih =>
    intro u h
    simp only [AVRel] at h ⊢
    obtain ⟨us, h1, h2⟩ := h
    exact ⟨us, h1, h2.fz hl ih⟩
  | @fsl i o l c k cs ds opn hg hd hp h0 =>
    intro u h
    subst hd
    obtain ⟨L, ad, c', C, t, fz, us, hρ', rfl, hsl, hlc, hb, hr, hcell, _⟩ := row_sound hR h hg
    simp only [AVRel]
    by_cases q : l = 0
    · exact .inl ⟨q, h0 q, some ad, c', by rw [q], fun q => by cases q⟩
    · obtain rfl := hsl.addr hlc q
      refine .inr ⟨L.b, L.s + o, c', (us.drop o).take k, rfl, hF i _ L hg hρ', fun j x hj => ?_, plain_relL hp ((hr.drop o).take k), hlc, fun q => by cases q⟩
      rw [List.getElem?_take] at hj
      split at hj
      · rw [List.getElem?_drop] at hj
        have := hcell _ x hj
        simp only [World.cell?, hb]
        rw [show L.s + o + j = L.s + (o + j) by omega]
        exact this
      · cases hj
  | fnil =>
    intro u h
    simp only [AVRel] at h ⊢
    exact .inl ⟨trivial, trivial, none, 0, h, fun q => by cases q⟩
theorem CallOK.thaw {f : Nat} {args args0 : List AV} {v v' : AV} {H H1 : AHeap} (h : CallOK P f args0 ⟨.e, 0⟩ v H1) (hv : FzP H1 v v') (ha : ∀ E w us, Rel E H w → AVRelL E w args us → AVRelL (E0 w) w args0 us) : CallOK P f args H v' H := by
  refine ⟨h.1, fun E w us hR hus => ?_⟩
  refine (h.2 (E0 w) w us (rel0 w) (ha E w us hR hus)).mono ?_
  rintro e w' ⟨u, E', rfl, hs, hvr⟩
  have hblk : ∀ b, b < w.heap.size → w'.heap[b]? = w.heap[b]? := fun b hb => hs.fr.block b hb (fun i o L q => by simp [AHeap.get, Tr.get] at q)
  have hsz := hs.fr.size
  have hnew : ∀ i o L, H1.get i = some o → E'.ρ i = some L → w.heap.size ≤ L.b := fun i o L q1 q2 => by
    rcases hs.nb i o L q1 q2 with q | ⟨j, o', L', q, _⟩
    · exact q
    · simp [AHeap.get, Tr.get] at q
  have hext : Env.Ext E ⟨E.ρ, fun b => E.I b ∨ (w.heap.size ≤ b ∧ b < w'.heap.size), E.lk⟩ w w' := ⟨fun _ _ q => q, fun _ q => .inl q, fun b q => hblk b (hR.imm b q), fun _ _ _ q => q⟩
  refine ⟨u, ⟨E.ρ, fun b => E.I b ∨ (w.heap.size ≤ b ∧ b < w'.heap.size), E.lk⟩, rfl, ⟨hext, ⟨fun i L q => ?_, fun b q => ?_, fun i o q => ?_, hR.inj⟩, ⟨hs.fr.os, hs.fr.tape, hs.fr.output, hsz, fun b hb _ => hblk b hb⟩, fun i o L q q2 => .inr ⟨i, o, L, q, q2, rfl⟩, Nat.le_refl _, fun i L q => .inl q, fun b q => q.imp id (fun q => .inl q.1)⟩, ?_⟩
  · have := hR.dom i L q
    exact ⟨this.1, by omega⟩
  · rcases q with q | q
    · have := hR.imm b q
      omega
    · exact q.2
  · obtain ⟨L, q1, q2, q3⟩ := hR.obj i o q
    have hlt := (hR.dom i L q1).2
    refine ⟨L, q1, ObjR.mono hext (hblk _ hlt) q2, fun q4 => ?_⟩
    rcases q4 with q4 | q4
    · exact q3 q4
    · omega
  · exact FzP.sound hs.rel (fun i o L q1 q2 => Or.inr ⟨hnew i o L q1 q2, (hs.rel.dom i L q2).2⟩) hv u hvr
end Go.Eng
namespace Go.Proofs.YtfcgofffalmdfaaGreatDoor.PA
structure DivI (a : List Nat) (B i : Nat) (N : List Nat) (r : Nat) : Prop where
  v : valZ (a.drop i) = valZ (N.drop i) * B + r
  r : r < B
  l : N.length = a.length
  d : digZ N
  i : i ≤ a.length
theorem DivI.zero (a : List Nat) {B : Nat} (hB : 0 < B) : DivI a B a.length (List.replicate a.length 0) 0 := by
  refine ⟨?_, hB, by simp, fun x hx => ?_, Nat.le_refl _⟩
  · rw [List.drop_length, List.drop_eq_nil_of_le (by simp)]
    simp [valZ]
  · rw [List.eq_of_mem_replicate hx]
    decide
theorem DivI.step {a : List Nat} {B i low : Nat} {N : List Nat} {r : Nat} (h : DivI a B (i + 1) N r) (hl : low < BZ) (h1 : B * low ≤ a.getD i 0 + BZ * r) (h2 : a.getD i 0 + BZ * r < B * (low + 1)) : DivI a B i (N.set i low) (a.getD i 0 + BZ * r - B * low) := by
  have hi := h.i
  have hlN := h.l
  have hv := h.v
  refine ⟨?_, ?_, by rw [List.length_set, h.l], digZ_set h.d i hl, by omega⟩
  · rw [valZ_drop a i, valZ_drop (N.set i low) i, getZ_set N i low i (by omega), if_pos rfl]
    have e : (N.set i low).drop (i + 1) = N.drop (i + 1) := by
      rw [List.drop_set_of_lt (by omega)]
    rw [e, hv, Nat.mul_add, Nat.add_mul]
    have e2 : BZ * (valZ (N.drop (i + 1)) * B) = BZ * valZ (N.drop (i + 1)) * B := by rw [Nat.mul_assoc]
    rw [e2, Nat.mul_comm low B]
    omega
  · rw [Nat.mul_add, Nat.mul_one] at h2
    omega
theorem DivI.done {a : List Nat} {B : Nat} {N : List Nat} {r : Nat} (h : DivI a B 0 N r) : valZ N = valZ a / B ∧ r = valZ a % B := by
  have hv := h.v
  rw [List.drop_zero, List.drop_zero] at hv
  have := h.r
  rw [hv]
  constructor
  · rw [Nat.mul_comm, Nat.mul_add_div (by omega), Nat.div_eq_of_lt this, Nat.add_zero]
  · rw [Nat.mul_comm, Nat.mul_add_mod, Nat.mod_eq_of_lt this]
theorem DivI.lt {a : List Nat} {B i : Nat} {N : List Nat} {r : Nat} (h : DivI a B (i + 1) N r) (ha : digZ a) : a.getD i 0 + BZ * r < B * 10000 := by
  have h1 := digZ_get ha i
  have h2 := h.r
  have h3 : BZ * (r + 1) ≤ BZ * B := Nat.mul_le_mul_left _ h2
  rw [Nat.mul_add, Nat.mul_one] at h3
  rw [show BZ = 10000 from rfl] at h1 h3 ⊢
  omega
theorem valZ_cons (x : Nat) (l : List Nat) : valZ (x :: l) = x + BZ * valZ l := rfl
end Go.Proofs.YtfcgofffalmdfaaGreatDoor.PA
namespace Go.Proofs.YtfcgofffalmdfaaGreatDoor.PA
open Go Go.Eng Go.Proofs
theorem RdR.src {z len : Nat} {H : AHeap} {X : AV} {cs : List AV} (h : RdR z H X len cs) : srcA H z len X = some cs := by
  obtain ⟨h0, ⟨f, rfl⟩ | ⟨rfl, rfl⟩ | ⟨i, c, full, opn, rfl, h1, h2, h3, h4⟩⟩ := h
  · simp only [srcA]
    rw [if_pos (by omega), List.take_of_length_le (by omega)]
  · have : cs = [] := List.eq_nil_of_length_eq_zero (by omega)
    subst this
    rfl
  · simp only [srcA, h2, Nat.zero_add, List.drop_zero]
    rw [if_pos h4, h3]
theorem RdR.inj {z len len' : Nat} {H : AHeap} {X : AV} {cs cs' : List AV} (h : RdR z H X len cs) (h' : RdR z H X len' cs') : cs = cs' := by
  have e := h.len
  rw [h'.len] at e
  cases e
  have := h.src
  rw [h'.src] at this
  exact (Option.some.inj this).symm
theorem RdR.lenA {z len : Nat} {H : AHeap} {X : AV} {cs : List AV} (h : RdR z H X len cs) : Go.Eng.lenA X = some len := by
  obtain ⟨h0, ⟨f, rfl⟩ | ⟨rfl, rfl⟩ | ⟨i, c, full, opn, rfl, h1, h2, h3, h4⟩⟩ := h <;> rfl
theorem RdR.nstr {z len : Nat} {H : AHeap} {X : AV} {cs : List AV} (h : RdR z H X len cs) : ∀ s, X ≠ .str s := by
  obtain ⟨h0, ⟨f, rfl⟩ | ⟨rfl, rfl⟩ | ⟨i, c, full, opn, rfl, h1, h2, h3, h4⟩⟩ := h <;> intro s e <;> cases e
theorem nAs_plain (d : List Nat) : AV.plainL (d.map nA) = true := by
  induction d with
  | nil => rfl
  | cons x d ih => simp [AV.plainL, AV.plain, nA] at ih ⊢; exact ih
theorem rd_arg {H : AHeap} {X : AV} {d : List Nat} (h : RdR 1 H X d.length (d.map nA)) {E : Env} {w : World} {u : Value} (hR : Rel E H w) (hv : AVRel E w X u) : AVRel (E0 w) w (rowZ d) u :=
  Go.Eng.freeze hR hv h.lenA h.src h.nstr (nAs_plain d) (fun h0 => by rw [List.eq_nil_of_length_eq_zero h0]; rfl)
open Classical in
noncomputable def K83 : CF := fun f args H => match f, args with
  | 83, [.agg [.bool false, X]] => if h : ∃ d : List Nat, RdR 1 H X d.length (d.map nA) ∧ digZ d ∧ d.length < 2000 then some (zN (valZ h.choose), H) else none
  | _, _ => none
theorem rowZ_fzp {H : AHeap} {v : AV} {l : List Nat} (h : RowE 1 H v l.length (l.map nA)) : FzP H v (rowZ l) := by
  rcases h with ⟨_, ⟨rfl, h0⟩ | ⟨i, full, rfl, hg, hf, hfl, hi⟩⟩ | ⟨h0, h1, i, rfl, h2, h3⟩
  · have : l = [] := List.eq_nil_of_length_eq_zero h0
    subst this
    exact .fnil
  · exact .fsl (k := l.length * 1) hg (by rw [List.drop_zero, hf]) (nAs_plain l) (fun h0 => by rw [List.eq_nil_of_length_eq_zero h0]; rfl)
  · have : l = [] := List.eq_nil_of_length_eq_zero h0
    subst this
    exact .fsl (k := 0) h3 rfl rfl (fun _ => rfl)
theorem K83_ok : CFok Tryz.prog K83 := by
  intro f args H v H' h
  unfold K83 at h
  split at h
  · split at h
    · rename_i X q
      cases h
      obtain ⟨q1, q2, q3⟩ := q.choose_spec
      obtain ⟨v, H', h1, u, rfl, hR, _⟩ := lean_ok (cf := xcallK Kno F 3000 0) (fuel := 3000) (H := ⟨.e, 0⟩) (X := rowZ q.choose) (.inl rfl) q2 (by omega) (by omega)
      refine (xcallK_sound mixed Kno_ok F_ok 3000 1 83 _ _ _ _ ((cfstep rfl rfl).trans h1)).thaw (v' := zN (valZ q.choose)) (.agg rfl (fun j x y hx hy => ?_)) (fun E w us hRel hus => ?_)
      · match j, hx, hy with
        | 0, hx, hy => cases hx; cases hy; exact .plain rfl
        | 1, hx, hy => cases hx; cases hy; exact rowZ_fzp hR
      · simp only [AVRelL, AVRel] at hus ⊢
        obtain ⟨a, us1, rfl, ⟨bs, rfl, b1, bs1, hb, rfl, b2, bs2, rfl, hb2, rfl⟩, rfl⟩ := hus
        exact ⟨_, _, rfl, ⟨_, rfl, _, _, hb, rfl, _, _, rfl, rd_arg q1 hRel hb2, rfl⟩, rfl⟩
    · cases h
  · cases h
open Classical in
theorem K83_hit {H : AHeap} {X : AV} {d : List Nat} (h : RdR 1 H X d.length (d.map nA)) (hd : digZ d) (hl : d.length < 2000) : K83 83 [.agg [.bool false, X]] H = some (zN (valZ d), H) := by
  have q : ∃ d : List Nat, RdR 1 H X d.length (d.map nA) ∧ digZ d ∧ d.length < 2000 := ⟨d, h, hd, hl⟩
  show (if h : ∃ d : List Nat, RdR 1 H X d.length (d.map nA) ∧ digZ d ∧ d.length < 2000 then some (zN (valZ h.choose), H) else none) = _
  rw [dif_pos q]
  have e := (q.choose_spec.1.inj h)
  have e2 : q.choose = d := (List.map_inj_right (fun x y => nA_inj)).1 e
  rw [e2]
theorem K83_none {f : Nat} {args : List AV} {H : AHeap} (h : f ≠ 83) : K83 f args H = none := by
  unfold K83
  split
  · exact absurd rfl h
  · rfl
noncomputable def KD : CF := Kor K83 KE
theorem KD_ok : CFok Tryz.prog KD := Kor_ok K83_ok KE_ok
theorem KD_E {f : Nat} {args : List AV} {H : AHeap} {r : AV × AHeap} (h : f ≠ 83) (hk : KE f args H = some r) : KD f args H = some r := Kor_r (K83_none h) hk
theorem KD_83 {H : AHeap} {X : AV} {d : List Nat} (h : RdR 1 H X d.length (d.map nA)) (hd : digZ d) (hl : d.length < 2000) : KD 83 [.agg [.bool false, X]] H = some (zN (valZ d), H) := Kor_l (K83_hit h hd hl)
theorem k_fldZ {cf : CF} {n m : Nat} {H : AHeap} {l : KL0} {x : XO} (hx : evK l x = some (zN m)) : XV cf l H n (.fld 1 none x) = some (rowZ (dz m), H) :=
  k_any (by simp only [xval, xop, hx]; rfl)
theorem times_walk {m n : Nat} (hm : (dz m).length < 300) (hn : n < 10001) : ∃ v H', xfunc (xcallK KE F 3000 0) 3000 L84 [rowZ (dz m), nA n] ⟨.e, 0⟩ = some (v, H') ∧ v = rowZ (dz (m * n)) := by
  refine xfunc_ofK rfl (by show 2 ≤ 12; omega) ?_
  have hn2 : (dz n).length < 3 := by have := dz_len 2 n (by show n < 10000 ^ 2; omega); omega
  have hmn : (dz (m * n)).length < 400 := by
    have h1 := valZ_lt (digZ_dz m)
    rw [valZ_dz] at h1
    have h2 : m * n < BZ ^ ((dz m).length + 2) := by
      rw [Nat.pow_add]
      refine Nat.lt_of_lt_of_le (Nat.mul_lt_mul_of_lt_of_le h1 (show n ≤ BZ ^ 2 by show n ≤ 10000 ^ 2; omega) (by decide)) (Nat.le_refl _)
    have := dz_len _ _ h2
    omega
  unfold L84
  dsimp only
  repeat' (first | refine WK.seq ?_ | refine WK.ret ?_ | (apply WK.reg; (· exact lnn)) | refine WKO.nil ?_ | ((first | apply WKO.op); (· first | exact k_mv rfl | (apply k_call; (· rfl); (· rfl); (· exact cfhit (E52 (by omega) _))) | (apply k_call; (· rfl); (· rfl); (· exact cfhit (E72 (m := m) (n := n) (by omega) (by omega) _))) | (apply k_call; (· rfl); (· rfl); (· exact cfhit (E83 (digZ_dz (m * n)) (by omega) _))) | exact k_fldZ rfl | exact opA); (· rfl)) | refine pN ?_ | fail)
  exact ⟨fun id q => (by cases q), _, rfl, by rw [valZ_dz]; rfl⟩
theorem E84 {m n : Nat} (hm : (dz m).length < 300) (hn : n < 10001) (H : AHeap) : KE 84 [rowZ (dz m), nA n] H = some (rowZ (dz (m * n)), H) := by
  obtain ⟨v, H', h, rfl⟩ := times_walk hm hn
  have hc := (xfunc_sound mixed (xcallK_sound mixed KE_ok F_ok 3000 0) 3000 (F_ok 84 L84 rfl) h).pure (H := H) (by simp only [AV.frozL, rowZ_froz, AV.froz, nA, Bool.and_self]) (Fz.froz (rowZ_froz _))
  obtain ⟨v', q1, q2⟩ := KE_hit hc (fun m' n' e => by
    simp only [List.cons.injEq, and_true] at e
    rw [dz_inj (rowZ_inj e.1), nA_inj e.2])
  rw [q1, q2 m n rfl]
theorem _root_.Go.Eng.HF.swap {H0 H : AHeap} {mod : List Nat} {T : Nat} {a b : Nat × AObj} {fs : List (Nat × AObj)} (h : HF H0 mod T (a :: b :: fs) H) : HF H0 mod T (b :: a :: fs) H :=
  ⟨fun p hp => h.obj p (by simp only [List.mem_cons] at hp ⊢; rcases hp with q | q | q; exact .inr (.inl q); exact .inl q; exact .inr (.inr q)), fun p hp => h.lt p (by simp only [List.mem_cons] at hp ⊢; rcases hp with q | q | q; exact .inr (.inl q); exact .inl q; exact .inr (.inr q)), by
    have := h.nd
    simp only [List.map_cons, List.nodup_cons, List.mem_cons, not_or] at this ⊢
    exact ⟨⟨fun e => this.1.1 e.symm, this.2.1⟩, this.1.2, this.2.2⟩, h.base, h.le, h.fr⟩
section
variable {cf : CF} {n : Nat} {H0 H H' : AHeap} {mod : List Nat} {T : Nat} {fs : List (Nat × AObj)} {l : KL0} {R : KL0 → AHeap → Prop} {r : List XOper} {x y : XO}
theorem WKO.bsN {d : Nat} {z : List AV} (hF : HF H0 mod T fs H) (hm : H'.m = H.m) (hn : H.next ≤ H'.next) (hb : H0.next ≤ n) (hT : n < T) (hi : n ∉ fs.map (·.1)) (hlt : T ≤ H'.next)
    (k : ∀ H1, HF H0 mod T ((n, .cells [] none) :: fs) H1 → H1.next = H'.next → WKO cf r (n + 1) ((d, .sl n 0 0 0) :: l) H1 R) : WKO cf (⟨some d, .bslice z [] 0, none⟩ :: r) n l H' R :=
  WKO.op (v := .sl n 0 0 0) (H1 := H'.set n (some (.cells [] none))) (k_any (by simp [xval, xop, evParts, fillA])) rfl (k _ ((hF.up hm hn).newN hb hT hi (by rw [next_set]; exact hlt) (by rw [AHeap.get_set, if_pos rfl]) (fun k hk => by rw [AHeap.get_set, if_neg hk])) rfl)
theorem WKO.apC {d i bytes len : Nat} {v X : AV} {cs : List AV} (hx : evK l x = some (.sl i 0 1 1)) (hy : evK l y = some X) (hg : H'.get i = some (.cells [v] none)) (hi : i < H'.next) (hX : RdR 1 H' X len cs) (ho : cs.all AV.oneCell = true) (hl : len < 1000000) (hb : bytes ≤ 2 ^ 16)
    (k : ∀ Y H1, RdR 1 H1 Y (len + 1) (v :: cs) → H'.next ≤ H1.next → (∀ q, q < H'.next → H1.get q = H'.get q) → WKO cf r (n + 1) ((d, Y) :: l) H1 R) : WKO cf (⟨some d, .app 1 bytes x y, none⟩ :: r) n l H' R := by
  have hlen : Go.Eng.lenA X = some len := hX.lenA
  have hsrc := hX.src
  by_cases h0 : len = 0
  · subst h0
    have : cs = [] := List.eq_nil_of_length_eq_zero (by have := hX.1; omega)
    subst this
    have e : appA H' 1 bytes (.sl i 0 1 1) X = .eff (.sl i 0 1 1) H' := by
      simp only [appA, hlen, hsrc, hg]
      rw [if_neg (by simp; omega), if_neg (by omega), if_pos trivial]
    exact WKO.op (v := .sl i 0 1 1) (H1 := H') (k_any (by simp only [xval, xop, hx, hy, e])) (by simp [allSm, XOp.opnds, hx, hy]) (k _ H' ⟨rfl, .inr (.inr ⟨i, 1, _, _, rfl, hi, hg, rfl, Nat.le_refl _⟩)⟩ (Nat.le_refl _) (fun _ _ => rfl))
  · have e : appA H' 1 bytes (.sl i 0 1 1) X = .eff (.sl H'.next 0 (1 + len) openCap) (H'.add (.cells ([v] ++ cs) (some 1))) := by
      simp only [appA, hlen, hsrc, hg]
      rw [if_neg (by simp only [ho]; simp; omega), if_neg (by omega), if_neg h0, if_neg (by simp), if_pos (by decide), if_neg (by omega)]
      rfl
    refine WKO.op (v := .sl H'.next 0 (1 + len) openCap) (H1 := H'.add (.cells ([v] ++ cs) (some 1))) (k_any (by simp only [xval, xop, hx, hy, e])) (by simp [allSm, XOp.opnds, hx, hy]) (k _ _ ⟨by have := hX.1; simp; omega, .inr (.inr ⟨H'.next, _, _, _, by rw [Nat.add_comm], by rw [next_add]; omega, by rw [AHeap.get_add, if_pos rfl], ?_, ?_⟩)⟩ (by rw [next_add]; omega) (fun q hq => by rw [AHeap.get_add, if_neg (by omega)]))
    · rw [List.take_of_length_le (by have := hX.1; simp; omega)]
      rfl
    · have := hX.1
      simp
      omega
end
section
variable {cf : CF} {n : Nat} {z : Int} {H : AHeap} {l : KL0} {x : XO}
theorem k_leqI (hx : evK l x = some (zA z)) : XV cf l H n (.bin .leq x (.k (.int .i64 (.ofNat 0)))) = some (.bool (decide (z ≤ 0)), H) := k_bin hx rfl rfl
end
theorem cmpI_le {m n : Nat} : cmpI m n ≤ 0 ↔ m ≤ n := by
  unfold cmpI
  constructor
  · intro h
    split at h
    · omega
    · split at h <;> omega
  · intro h
    split
    · omega
    · rw [if_pos (by omega)]
      omega
end Go.Proofs.YtfcgofffalmdfaaGreatDoor.PA
namespace Go.Proofs.YtfcgofffalmdfaaGreatDoor.PA
open Go Go.Eng Go.Proofs
abbrev dvF (H : AHeap) (po nb : Nat) (a b N : List Nat) : List (Nat × AObj) :=
  [(po, .cells (N.map nA) none), (nb, .cells [] none), (H.next + 1 + 1 + 1, .cells [.bool false, .nils] none), (H.next + 1 + 1, .cells [.bool false, .nils] none), (H.next + 1, .cells [.bool false, rowZ b] none), (H.next, .cells [.bool false, rowZ a] none)]
def dvX (nb : Nat) (X : AV) (r : Nat) : Prop := X = rowZ (dz r) ∨ X = .sl nb 0 0 0 ∧ r = 0
theorem dvX.rd {nb r : Nat} {X : AV} {H : AHeap} (h : dvX nb X r) (hg : H.get nb = some (.cells [] none)) (hn : nb < H.next) : RdR 1 H X (dz r).length ((dz r).map nA) := by
  rcases h with rfl | ⟨rfl, rfl⟩
  · exact rowZ_rd H _
  · rw [dz_zero]
    exact ⟨rfl, .inr (.inr ⟨nb, 0, [], none, rfl, hn, hg, rfl, Nat.le_refl _⟩)⟩
theorem RdR.one {z len : Nat} {H : AHeap} {X : AV} {cs : List AV} (h : RdR z H X len cs) : X.oneCell = true := by
  obtain ⟨h0, ⟨f, rfl⟩ | ⟨rfl, rfl⟩ | ⟨i, c, full, opn, rfl, h1, h2, h3, h4⟩⟩ := h <;> rfl
theorem k_b1 {cf : CF} {n : Nat} {H : AHeap} {l : KL0} {x : XO} {Y : AV} (hx : evK l x = some Y) (hY : Y.oneCell = true) : XV cf l H n (.build [.bool false, .nils] [(1, 1, x)]) = some (.agg [.bool false, Y], H) := by
  refine k_any ?_
  have e : (evParts (evK l) [(1, 1, x)]).bind (fun q => (fillA [.bool false, .nils] q  ).map AV.agg) = some (.agg [.bool false, Y]) := by
    simp [evParts, hx, fillA, one_cells hY]
  simp only [xval, xop]
  rw [e]
  rfl
theorem k_b2 {cf : CF} {n : Nat} {H : AHeap} {l : KL0} {x y : XO} {Y : AV} {b : Bool} (hx : evK l x = some (.bool b)) (hy : evK l y = some Y) (hY : Y.oneCell = true) : XV cf l H n (.build [.bool false, .nils] [(0, 1, x), (1, 1, y)]) = some (.agg [.bool b, Y], H) := by
  refine k_any ?_
  have e : (evParts (evK l) [(0, 1, x), (1, 1, y)]).bind (fun q => (fillA [.bool false, .nils] q  ).map AV.agg) = some (.agg [.bool b, Y]) := by
    have := one_cells hY
    simp [evParts, hx, hy, fillA, this, show (AV.bool b).cells = [.bool b] from rfl]
  simp only [xval, xop]
  rw [e]
  rfl
theorem resK_two {l : KL0} {H : AHeap} {t i n t2 i2 n2 : Nat} {c c2 : List AV} {opn opn2 : Option Nat} (hl : Go.Eng.look l t = some (.ptr i 0)) (hg : H.get i = some (.cells c opn)) (hc : c.length = n) (hl2 : Go.Eng.look l t2 = some (.ptr i2 0)) (hg2 : H.get i2 = some (.cells c2 opn2)) (hc2 : c2.length = n2) : resK l H [.c t (some n), .c t2 (some n2)] = some [.agg c, .agg c2] := by
  simp only [resK, resK1, hl, hl2, Option.bind_some, loadA, cellsAt, hg, hg2, List.drop_zero]
  rw [if_pos (by omega), List.take_of_length_le (by omega), if_pos (by omega), List.take_of_length_le (by omega)]
  rfl
theorem _root_.Go.Eng.WKT.stG {cf : CF} {n : Nat} {H0 H H' : AHeap} {mod : List Nat} {T : Nat} {fs gs : List (Nat × AObj)} {l : KL0} {Q : List (KL0 × AHeap) → Prop} {r : List XOper} {i p m : Nat} {c : List AV} {opn : Option Nat} {v : AV} {a x : XO} (ha : evK l a = some (.ptr i p)) (hx : evK l x = some v) (hF : HF H0 mod T (gs ++ (i, .cells c opn) :: fs) H) (hm : H'.m = H.m) (hn : H.next ≤ H'.next) (hi : i ∈ mod ∨ H0.next ≤ i) (hl : v.cells.length = m) (h1 : v.cells.all AV.oneCell = true) (hf : p + m ≤ c.length)
    (k : ∀ H1, HF H0 mod T (gs ++ (i, .cells (overA c p v.cells) opn) :: fs) H1 → H1.next = H'.next → (∀ q, q ≠ i → H1.get q = H'.get q) → WKT cf r (n + 1) l H1 fun ps => Q ((l, H') :: ps)) : WKT cf (⟨none, .store m a x, none⟩ :: r) n l H' Q := by
  have hF' := hF.up hm hn
  have hst := op_store (cf := cf) (m := n) (n := m) (i := i) (o := p) (v := v) (H := H') (ev := evK l) ha hx (hF'.obj (i, _) (List.mem_append.2 (.inr (List.mem_cons_self ..)))) hl h1 hf
  exact WKT.opn (k_any hst) (by simp [allSm, XOp.opnds, ha, hx]) (k _ (hF'.put hi rfl (by rw [AHeap.get_set, if_pos rfl]) (fun k hk => by rw [AHeap.get_set, if_neg hk])) rfl (fun q hq => by rw [AHeap.get_set, if_neg hq]))
set_option maxHeartbeats 8000000 in
theorem divmod_walk {m n : Nat} (hm : (dz m).length < 200) (hn : (dz n).length < 200) (h0 : 0 < n) : ∃ v H', xfunc (xcallK KD F 20000 0) 20000 L45 [zN m, zN n] ⟨.e, 0⟩ = some (v, H') ∧ v = .tup [zN (m / n), zN (m % n)] := by
  refine xfunc_ofK rfl (by show 2 ≤ 92; omega) ?_
  have hF := HF.start ⟨.e, 0⟩
  generalize (⟨.e, 0⟩ : AHeap) = H at hF ⊢
  have hd1 := digZ_dz m
  have hv1 := valZ_dz m
  have ez : zN m = .agg [.bool false, rowZ (dz m)] := rfl
  simp only [ez]
  generalize dz m = a at hm hd1 hv1 ⊢
  unfold L45
  dsimp only
  repeat' (first | refine WK.seq ?_ | (apply WK.reg; (· exact lnn)) | (apply WKO.boxO; (· rfl); (· assumption); (· rfl); (· exact nxx); (· exact nxx); (· exact nxx); intro _ _ _) | (apply WKO.alO; (· assumption); (· rfl); (· exact nxx); (· exact nxx); (· exact nxx); intro _ _ _) | refine WKO.nil ?_ | ((first | apply WKO.op); (· first | exact k_lenZ rfl | (apply k_ldO; (· rfl); (· assumption); (· rfl); (· exact mmb); (· rfl)) | exact k_faddr rfl); (· rfl)) | refine pN ?_ | fail)
  rename_i H1 hF1 hn1 H2 hF2 hn2 H3 hF3 hn3 H4 hF4 hn4
  refine WKO.mkO (m := a.length) rfl rfl ⟨by omega, by decide⟩ hF4 rfl (by simp only [next_bump]; omega) ?_
  intro H5 hF5 hn5
  rw [replicate_nA] at hF5
  have hb4 := hF4.base
  have hl4 := hF4.le
  refine WKO.bsN hF5 rfl (Nat.le_refl _) (by omega) (by simp only [next_bump]; omega) (by simp only [List.map_cons, List.map_nil, List.mem_cons, List.not_mem_nil, or_false, next_bump]; omega) (by omega) ?_
  intro H6 hF6 hn6
  have hF6 := hF6.swap
  generalize hpo : (H4.bump 7).next = po at hF6 hn5 ⊢
  generalize hnb : H4.next + 1 + 1 + 1 + 1 = nb at hF6 ⊢
  have hpo2 : H.next ≤ po := by simp only [next_bump] at hpo; omega
  have hnb2 : H.next ≤ nb := by omega
  clear hF hF1 hF2 hF3 hF4 hF5
  repeat' (first | refine WK.seq ?_ | refine WK.block ?_ | (apply WK.reg; (· exact lnn)) | refine WKO.nil ?_ | ((first | apply WKO.op); (· first | exact k_mv rfl | exact k_lenZ rfl | exact k_subM rfl (by omega) | (apply k_ldO; (· rfl); (· assumption); (· rfl); (· exact .tail _ (.tail _ (.tail _ (.tail _ (.tail _ (.head _)))))); (· rfl)) | exact k_faddr rfl); (· rfl)) | refine pN ?_ | fail)
  refine WK.loop (α := Nat × List Nat × Nat × AV) (fun s => [(2, .ptr H.next 0), (3, .ptr (H.next + 1) 0), (4, .ptr (H.next + 1 + 1) 0), (5, .ptr (H.next + 1 + 1 + 1) 0), (6, .sl po 0 a.length a.length), (7, s.2.2.2), (8, zA ((s.1 : Int) - 1))])
    (fun s H' => (∃ T, HF H [] T (dvF H po nb a (dz n) s.2.1) H') ∧ DivI a n s.1 s.2.1 s.2.2.1 ∧ dvX nb s.2.2.2 s.2.2.1) (fun s => s.1) (a.length, List.replicate a.length 0, 0, .sl nb 0 0 0) (.cons rfl <| .cons rfl <| .cons rfl <| .cons rfl <| .cons rfl <| .cons rfl <| .cons rfl <| .nil _) ⟨⟨_, hF6.up rfl (by simp only [next_bump]; omega)⟩, DivI.zero a h0, .inr ⟨rfl, rfl⟩⟩ (by show a.length < 20000; omega) ?_
  rintro ⟨i, N, r, X⟩ H7 ⟨⟨T7, hF7⟩, hD, hX⟩
  simp only at hF7 hD hX ⊢
  clear hF6
  have hb7 := hF7.base
  have hl7 := hF7.le
  have hNl := hD.l
  cases i with
  | zero =>
    obtain ⟨q1, q2⟩ := hD.done
    rw [hv1] at q1 q2
    have hnbT : nb < T7 := hF7.lt (nb, _) (.tail _ (.head _))
    have hpoT : po < T7 := hF7.lt (po, _) (.head _)
    have ha83 : ∀ {H' : AHeap} {k : Nat}, H'.m = H7.m → H7.next ≤ H'.next → xcallK KD F 20000 k 83 [.agg [.bool false, .sl po 0 a.length a.length]] H' = some (zN (m / n), H') := fun {H' k} hm hn => by
      have := KD_83 (H := H') (X := .sl po 0 a.length a.length) (d := N) ⟨by simp, .inr (.inr ⟨po, _, _, _, by rw [hNl], by omega, (bump_get hm po).trans (hF7.obj _ (.head _)), by rw [List.take_of_length_le (by simp)], by simp⟩)⟩ hD.d (by omega)
      rw [q1] at this
      exact cfhit this
    have hb83 : ∀ {H' : AHeap} {k : Nat}, H'.m = H7.m → H7.next ≤ H'.next → xcallK KD F 20000 k 83 [.agg [.bool false, X]] H' = some (zN (m % n), H') := fun {H' k} hm hn => by
      have := KD_83 (H := H') (hX.rd ((bump_get hm nb).trans (hF7.obj (nb, _) (.tail _ (.head _)))) (by omega)) (digZ_dz r) (by have := dz_mono (Nat.le_of_lt hD.r); omega)
      rw [valZ_dz, q2] at this
      exact cfhit this
    have hX1 : X.oneCell = true := by rcases hX with rfl | ⟨rfl, _⟩ <;> rfl
    repeat' (first | refine WK.seq ?_ | refine WK.exit ?_ | (apply WK.reg; (· exact lnn)) | refine WKO.nil ?_ | ((first | apply WKO.op); (· first | exact k_mv rfl | exact k_geqM rfl); (· rfl)) | refine pN ?_ | refine pX ?_ | refine bX ?_ | (apply WK.condF; (· rfl); (· exact dcd)) | fail)
    refine ⟨fun _ => ?_, fun q => absurd rfl q⟩
    repeat' (first | refine WK.seq ?_ | refine WK.skip ?_ | (apply WK.reg; (· exact lnn)) | (apply WKO.alO; (· assumption); (· rfl); (· exact nxx); (· exact nxx); (· exact nxx); intro _ _ _) | (apply WKO.stO0; (· rfl); (· rfl); (· assumption); (· rfl); (· exact nxx); (· first | exact .inr nxx); (· rfl); (· rfl); (· first | decide); intro _ _ _) | (apply WKO.stO1; (· rfl); (· rfl); (· assumption); (· rfl); (· exact nxx); (· first | exact .inr nxx); (· rfl); (· rfl); (· first | decide); intro _ _ _) | refine WKO.nil ?_ | ((first | apply WKO.op); (· first | exact k_mv rfl | exact k_b1 rfl hX1 | exact k_b2 rfl rfl rfl | (apply k_ldO; (· rfl); (· assumption); (· rfl); (· first | exact .tail _ (.tail _ (.tail _ (.tail _ (.tail _ (.head _))))) | exact .tail _ (.tail _ (.tail _ (.tail _ (.tail _ (.tail _ (.tail _ (.head _)))))))); (· rfl)) | (apply k_call; (· rfl); (· rfl); (· exact ha83 rfl (by simp only [next_bump]; omega))) | (apply k_call; (· rfl); (· rfl); (· exact hb83 rfl (by simp only [next_bump]; omega))) | exact k_faddr rfl | exact opA); (· rfl)) | ((first | apply WKO.gnoT); (· rfl); (· exact dcd)) | refine pN ?_ | (apply WK.condF; (· rfl); (· exact dcd)) | fail)
    rename_i Ha hFa hna Hb hFb hnb Hc hFc hnc Hd hFd hnd
    generalize (H7.bump 2).next + 1 + 1 + 1 + 1 + 1 + 1 + 1 + 1 = p12 at hFd ⊢
    have hFs : HF H [] _ [(H.next + 1 + 1 + 1, .cells [.bool false, .nils] none), (H.next + 1 + 1, .cells [.bool false, .nils] none), (p12 + 1, .cells [.bool false, rowZ (dz (m % n))] none), (p12, .cells [.bool false, rowZ (dz (m / n))] none)] Hd :=
      ⟨fun p hp => by
        simp only [List.mem_cons, List.not_mem_nil, or_false] at hp
        rcases hp with rfl | rfl | rfl | rfl
        · exact hFd.obj (H.next + 1 + 1 + 1, _) (.tail _ (.tail _ (.tail _ (.tail _ (.head _)))))
        · exact hFd.obj (H.next + 1 + 1, _) (.tail _ (.tail _ (.tail _ (.tail _ (.tail _ (.head _))))))
        · exact hFd.obj (p12 + 1, _) (.head _)
        · exact hFd.obj (p12, _) (.tail _ (.head _)), fun p hp => by
        simp only [List.mem_cons, List.not_mem_nil, or_false] at hp
        rcases hp with rfl | rfl | rfl | rfl
        · exact hFd.lt (H.next + 1 + 1 + 1, _) (.tail _ (.tail _ (.tail _ (.tail _ (.head _)))))
        · exact hFd.lt (H.next + 1 + 1, _) (.tail _ (.tail _ (.tail _ (.tail _ (.tail _ (.head _))))))
        · exact hFd.lt (p12 + 1, _) (.head _)
        · exact hFd.lt (p12, _) (.tail _ (.head _)), by
        have h1 := hFd.nd
        simp only [List.map_cons, List.map_nil, List.nodup_cons, List.mem_cons, List.not_mem_nil, or_false, not_or, not_false_iff, List.nodup_nil, and_true] at h1 ⊢
        omega, hFd.base, hFd.le, hFd.fr⟩
    have hbs := hFs.base
    have hls := hFs.le
    have hp12 := hFs.nd
    simp only [List.map_cons, List.map_nil, List.nodup_cons, List.mem_cons, List.not_mem_nil, or_false, not_or, not_false_iff, List.nodup_nil, and_true] at hp12
    clear hFa hFb hFc hFd
    refine WK.regT (k := 4) rfl ?_
    have hFt := hFs.up (H' := (Hd.bump 8).bump 4) rfl (by simp only [next_bump]; omega)
    generalize (Hd.bump 8).bump 4 = HB at hFt ⊢
    have gB := hFt.obj (p12 + 1, _) (.tail _ (.tail _ (.head _)))
    repeat' (first | ((first | apply WKT.op); (· first | (apply k_ldA; (· rfl); (· exact hFt); (· rfl); (· exact mmb); (· rfl))); (· rfl)) | fail)
    refine WKT.stG (gs := [(H.next + 1 + 1 + 1, .cells [.bool false, .nils] none)]) rfl rfl hFt rfl (Nat.le_refl _) (.inr (by omega)) rfl rfl (Nat.le_refl _) ?_
    intro He hFe hne hge
    refine WKT.stG (gs := []) rfl rfl hFe rfl (Nat.le_refl _) (.inr (by omega)) rfl rfl (Nat.le_refl _) ?_
    intro Hf hFf hnf hgf
    repeat' (first | refine WKT.nil ?_ | fail)
    refine ⟨?_, fun j hj => (by cases hj), (_, Hf), rfl, ?_⟩
    · intro q hq
      obtain rfl : q = (1, [2], []) := by simpa using hq
      refine ⟨_, _, _, _, _, rfl, rfl, rfl, xop_ldn rfl gB rfl, fun j hj => ?_⟩
      have hj' : j = 1 ∨ j = 2 ∨ j = 3 := by simpa using hj
      rcases hj' with rfl | rfl | rfl
      · exact ⟨_, rfl, xop_ldn rfl gB rfl⟩
      · exact ⟨_, rfl, xop_ldn rfl gB rfl⟩
      · exact ⟨_, rfl, xop_ldn rfl ((hge _ (by omega)).trans gB) rfl⟩
    · refine ⟨fun _ => ?_, fun q => absurd rfl q⟩
      repeat' (first | refine WK.ret ?_ | fail)
      exact ⟨fun id q => (by cases q), _, resK_two rfl (hFf.obj (H.next + 1 + 1, _) (.tail _ (.head _))) rfl rfl (hFf.obj (H.next + 1 + 1 + 1, _) (.head _)) rfl, rfl⟩
  | succ i =>
    have hia := hD.i
    have hs1 := hD.lt hd1
    have hai := digZ_get hd1 i
    have hrn := hD.r
    rw [zA_nat]
    generalize hsv : a.getD i 0 + BZ * r = sv at hs1
    have hsl : (dz sv).length ≤ 201 := by
      have q1 := valZ_lt (digZ_dz n)
      rw [valZ_dz] at q1
      have : sv < BZ ^ ((dz n).length + 1) := by
        rw [Nat.pow_succ]
        exact Nat.lt_of_lt_of_le hs1 (Nat.mul_le_mul_right _ (Nat.le_of_lt q1))
      have := dz_len _ _ this
      omega
    have h84 : ∀ {w : Nat}, w < 10001 → ∀ {H' : AHeap} {k : Nat}, xcallK KD F 20000 k 84 [rowZ (dz n), nA w] H' = some (rowZ (dz (n * w)), H') := fun {w} hw {H' k} => cfhit (KD_E (by decide) (E84 (by omega) hw H'))
    have hnl : ∀ {w : Nat}, w < 10001 → (dz (n * w)).length ≤ 203 := fun {w} hw => by
      have q1 := valZ_lt (digZ_dz n)
      rw [valZ_dz] at q1
      have : n * w < BZ ^ ((dz n).length + 2) := by
        rw [Nat.pow_add]
        exact Nat.lt_of_lt_of_le (Nat.mul_lt_mul_of_lt_of_le q1 (show w ≤ BZ ^ 2 by show w ≤ 10000 ^ 2; omega) (by decide)) (Nat.le_refl _)
      have := dz_len _ _ this
      omega
    have h82 : ∀ {w : Nat}, w < 10001 → ∀ {H' : AHeap} {k : Nat}, xcallK KD F 20000 k 82 [rowZ (dz (n * w)), rowZ (dz sv)] H' = some (zA (cmpI (n * w) sv), H') := fun {w} hw {H' k} => cfhit (KD_E (by decide) (E82 (by have := hnl hw; omega) (by omega) H'))
    repeat' (first | refine WK.seq ?_ | refine WK.skip ?_ | refine WK.block ?_ | (apply WK.reg; (· exact lnn)) | (apply WKO.bsO; (· rfl); (· rfl); (· assumption); (· rfl); (· exact nxx); (· exact nxx); (· exact nxx); intro _ _ _) | refine WKO.nil ?_ | ((first | apply WKO.op); (· first | exact k_mv rfl | exact k_geqT rfl | (apply k_ldO; (· rfl); (· assumption); (· rfl); (· exact .tail _ (.tail _ (.tail _ (.tail _ (.tail _ (.head _)))))); (· rfl)) | exact k_iaZ rfl rfl (by omega) | exact k_ldZ rfl (by omega) | exact k_faddr rfl); (· rfl)) | refine pN ?_ | (apply WK.condT; (· rfl); (· exact dcd)) | fail)
    rename_i H8 hF8 hn8
    have hnb8 : nb < T7 := hF7.lt (nb, _) (.tail _ (.head _))
    have g8 : H8.get nb = some (.cells [] none) := hF8.obj (nb, _) (.tail _ (.tail _ (.head _)))
    have hl8 := hF8.le
    have hn8' := hn8
    simp only [next_bump] at hn8'
    refine WKO.apC rfl rfl (hF8.obj _ (.head _)) (by have := hF8.lt _ (.head _); simp only at this; omega) (hX.rd g8 (by omega)) (map_one _) (by have := dz_mono (show r ≤ sv by rw [← hsv, show BZ = 10000 from rfl]; omega); omega) (by decide) ?_
    intro Y H9 hY hn9 hk9
    have hF9 := (hF8.sub (gs := dvF H po nb a (dz n) N) (.cons _ (.refl _)) (Nat.le_refl _) hF8.le).call (H' := H9) (mod' := []) (fun k h1 _ => hk9 k h1) hn9 (fun k hk => by cases hk) (fun p _ => by simp)
    clear hF8 hF7
    have hY2 : RdR 1 H9 Y (a.getD i 0 :: dz r).length ((a.getD i 0 :: dz r).map nA) := hY
    have h83 : ∀ {H' : AHeap} {k : Nat}, H'.m = H9.m → H9.next ≤ H'.next → xcallK KD F 20000 k 83 [.agg [.bool false, Y]] H' = some (zN sv, H') := fun {H' k} hm hn => by
      have := KD_83 (H := H') (hY2.frame hn (fun q _ => bump_get hm q)) (fun x hx => by
        rcases List.mem_cons.1 hx with rfl | hx
        · exact hai
        · exact digZ_dz r x hx) (by have := dz_mono (show r ≤ sv by rw [← hsv, show BZ = 10000 from rfl]; omega); simp only [List.length_cons]; omega)
      rw [valZ_cons, valZ_dz, hsv] at this
      exact cfhit this
    have hY1 := hY.one
    repeat' (first | refine WK.seq ?_ | refine WK.block ?_ | (apply WK.reg; (· exact lnn)) | refine WKO.nil ?_ | ((first | apply WKO.op); (· first | exact k_mv rfl | exact k_b1 rfl hY1 | (apply k_call; (· rfl); (· rfl); (· exact h83 rfl (Nat.le_refl _))) | exact k_fldZ rfl); (· rfl)) | refine pN ?_ | fail)
    refine WK.loop (α := Nat × Nat) (fun s => [(2, .ptr H.next 0), (3, .ptr (H.next + 1) 0), (4, .ptr (H.next + 1 + 1) 0), (5, .ptr (H.next + 1 + 1 + 1) 0), (6, .sl po 0 a.length a.length), (7, rowZ (dz sv)), (8, nA i), (9, nA s.1), (10, nA s.2)])
      (fun s H' => (∃ T, HF H [] T (dvF H po nb a (dz n) N) H') ∧ s.1 < s.2 ∧ s.2 ≤ 10000 ∧ n * s.1 ≤ sv ∧ sv < n * s.2) (fun s => s.2 - s.1) (0, 10000) (.cons rfl <| .cons rfl <| .cons rfl <| .cons rfl <| .cons rfl <| .cons rfl <| .cons rfl <| .cons rfl <| .cons rfl <| .nil _) ⟨⟨_, hF9.up rfl (by simp only [next_bump]; omega)⟩, by decide, Nat.le_refl _, Nat.zero_le _, hs1⟩ (by show 10000 - 0 < 20000; omega) ?_
    rintro ⟨lo, hi⟩ H10 ⟨⟨T10, hF10⟩, hlh, hhi, hlo1, hhi1⟩
    simp only at hF10 hlh hhi hlo1 hhi1 ⊢
    have hb10 := hF10.base
    have hl10 := hF10.le
    clear hF9
    repeat' (first | refine WK.seq ?_ | refine WK.skip ?_ | refine WK.exit ?_ | refine WK.block ?_ | (apply WK.reg; (· exact lnn)) | refine WKO.nil ?_ | ((first | apply WKO.op); (· first | exact k_mv rfl | (apply k_call; (· rfl); (· rfl); (· exact h84 (by omega))) | (apply k_call; (· rfl); (· rfl); (· exact h82 (by omega))) | exact k_leqI rfl | (apply k_ldO; (· rfl); (· assumption); (· rfl); (· exact mmb); (· rfl)) | exact k_faddr rfl | exact opA); (· rfl)) | refine pN ?_ | refine pX ?_ | refine bN ?_ | refine bX ?_ | (apply WK.condD; (· rfl); all_goals intro _) | fail)
    · have hc := cmpI_le.1 (by assumption)
      exact ⟨((lo + hi) / 2, hi), (.cons rfl <| .cons rfl <| .cons rfl <| .cons rfl <| .cons rfl <| .cons rfl <| .cons rfl <| .cons rfl <| .cons rfl <| .nil _), ⟨⟨T10, hF10.up rfl (by simp only [next_bump]; omega)⟩, by show (lo + hi) / 2 < hi; omega, hhi, hc, hhi1⟩, by show hi - (lo + hi) / 2 < hi - lo; omega⟩
    · have hc : ¬ n * ((lo + hi) / 2) ≤ sv := fun e => absurd (cmpI_le.2 e) (by assumption)
      exact ⟨(lo, (lo + hi) / 2), (.cons rfl <| .cons rfl <| .cons rfl <| .cons rfl <| .cons rfl <| .cons rfl <| .cons rfl <| .cons rfl <| .cons rfl <| .nil _), ⟨⟨T10, hF10.up rfl (by simp only [next_bump]; omega)⟩, by show lo < (lo + hi) / 2; omega, by show (lo + hi) / 2 ≤ 10000; omega, hlo1, by show sv < n * ((lo + hi) / 2); omega⟩, by show (lo + hi) / 2 - lo < hi - lo; omega⟩
    · refine ⟨fun _ => ?_, fun q => absurd rfl q⟩
      have hhl : hi = lo + 1 := by omega
      subst hhl
      repeat' (first | refine WK.seq ?_ | (apply WK.reg; (· exact lnn)) | ((first | apply WKO.op); (· first | exact k_mv rfl | exact k_ia1s rfl rfl (by omega)); (· rfl)) | fail)
      refine WKO.stN (f := nA) (N := N) (p := i) rfl rfl (nA_cells _) (nA_one _) hF10 rfl nxx (.inr hpo2) (by omega) ?_
      intro H11 hF11 hn11
      simp only [next_bump] at hn11
      clear hF10
      repeat' (first | (apply WK.reg; (· exact lnn)) | refine WKO.nil ?_ | ((first | apply WKO.op); (· first | exact k_mv rfl | (apply k_call; (· rfl); (· rfl); (· exact h84 (by omega))) | (apply k_ldO; (· rfl); (· assumption); (· rfl); (· exact mmb); (· rfl)) | exact k_faddr rfl); (· rfl)) | refine pN ?_ | fail)
      refine WKO.callV rfl rfl rfl (P := fun v H' => ∃ o, v = rowZ o ∧ H' = _ ∧ digZ o ∧ valZ o = sv - n * lo ∧ o.length < 2000) (by
        obtain ⟨o, e1, e2, e3, e4⟩ := E85 (digZ_dz sv) (digZ_dz (n * lo)) (by omega) (dz_mono hlo1) (by rw [valZ_dz, valZ_dz]; exact hlo1) _
        rw [valZ_dz, valZ_dz] at e3
        exact ⟨_, _, cfhit (KD_E (by decide) e1), o, rfl, rfl, e2, e3, e4⟩) ?_
      rintro v12 H12 ⟨o, rfl, rfl, e2, e3, e4⟩
      repeat' (first | (apply WK.reg; (· exact lnn)) | refine WKO.nil ?_ | ((first | apply WKO.op); (· first | exact k_mv rfl | (apply k_call; (· rfl); (· rfl); (· exact cfhit (KD_83 (rowZ_rd _ o) e2 e4))) | exact k_fldZ rfl | exact k_subM rfl (by omega) | exact opA); (· rfl)) | refine pN ?_ | refine bN ?_ | fail)
      have hst := hD.step (low := lo) (by show lo < 10000; omega) (by rw [hsv]; exact hlo1) (by rw [hsv]; exact hhi1)
      rw [hsv] at hst
      rw [e3]
      exact ⟨(i, N.set i lo, sv - n * lo, rowZ (dz (sv - n * lo))), (.cons rfl <| .cons rfl <| .cons rfl <| .cons rfl <| .cons rfl <| .cons rfl <| .cons rfl <| .nil _), ⟨⟨_, hF11.up rfl (by simp only [next_bump]; omega)⟩, hst, .inl rfl⟩, Nat.lt_succ_self _⟩
theorem E45 {m n : Nat} (hm : (dz m).length < 200) (hn : (dz n).length < 200) (h0 : 0 < n) (H : AHeap) : KE 45 [zN m, zN n] H = some (.tup [zN (m / n), zN (m % n)], H) := by
  obtain ⟨v, H', h, rfl⟩ := divmod_walk hm hn h0
  have hc := (xfunc_sound mixed (xcallK_sound mixed KD_ok F_ok 20000 0) 20000 (F_ok 45 L45 rfl) h).pure (H := H) (by simp only [AV.frozL, zN_froz, Bool.and_self]) (Fz.froz (by simp only [AV.froz, AV.frozL, rowZ_froz, Bool.and_self]))
  obtain ⟨v', q1, q2⟩ := KE_hit hc (fun m' n' e => by
    simp only [List.cons.injEq, and_true] at e
    rw [zN_inj e.1, zN_inj e.2])
  rw [q1, q2 m n rfl]
end Go.Proofs.YtfcgofffalmdfaaGreatDoor.PA
namespace Go.Proofs.YtfcgofffalmdfaaGreatDoor.PA
def euM (x y : Nat) : Nat := if y = 0 then 0 else 1 + 2 * Nat.log2 (x * y) + (if x < y then 1 else 0)
theorem log2_half {a b : Nat} (hb : 0 < b) (h : 2 * b ≤ a) : Nat.log2 b < Nat.log2 a := by
  have h1 : 2 ^ Nat.log2 b ≤ b := Nat.log2_self_le (by omega)
  have h2 : 2 ^ (Nat.log2 b + 1) ≤ a := by rw [Nat.pow_succ]; omega
  exact (Nat.le_log2 (by omega)).2 h2
theorem euM_step {x y : Nat} (hy : 0 < y) : euM y (x % y) < euM x y := by
  have hr : x % y < y := Nat.mod_lt _ hy
  unfold euM
  rw [if_neg (show ¬ y = 0 by omega)]
  by_cases h0 : x % y = 0
  · rw [if_pos h0]
    omega
  · rw [if_neg h0, if_neg (show ¬ y < x % y by omega)]
    by_cases hxy : x < y
    · rw [Nat.mod_eq_of_lt hxy, if_pos hxy, Nat.mul_comm y x]
      omega
    · rw [if_neg hxy]
      have hx : 2 * (x % y) ≤ x := by
        have h1 := Nat.mod_add_div x y
        have h2 : 1 ≤ x / y := Nat.div_pos (by omega) hy
        have h3 : y * 1 ≤ y * (x / y) := Nat.mul_le_mul_left _ h2
        omega
      have h2 : 2 * (y * (x % y)) ≤ x * y := by
        rw [Nat.mul_comm x y, ← Nat.mul_assoc, Nat.mul_comm 2 y, Nat.mul_assoc]
        exact Nat.mul_le_mul_left _ hx
      have := log2_half (Nat.mul_pos hy (by omega)) h2
      omega
theorem euM_lt {x y : Nat} (hx : (dz x).length < 200) (hy : (dz y).length < 200) : euM x y < 20000 := by
  unfold euM
  split
  · omega
  · have h1 := valZ_lt (digZ_dz x)
    have h2 := valZ_lt (digZ_dz y)
    rw [valZ_dz] at h1 h2
    have hB : ∀ k, BZ ^ k ≤ 2 ^ (14 * k) := fun k => by
      rw [Nat.pow_mul]
      exact Nat.pow_le_pow_left (by decide) k
    have h3 : x * y < 2 ^ (14 * (dz x).length + 14 * (dz y).length) := by
      rw [Nat.pow_add]
      exact Nat.mul_lt_mul_of_lt_of_le (Nat.lt_of_lt_of_le h1 (hB _)) (Nat.le_of_lt (Nat.lt_of_lt_of_le h2 (hB _))) (Nat.pow_pos (by decide))
    by_cases h0 : x * y = 0
    · rw [h0]
      have : Nat.log2 0 = 0 := by decide
      rw [this]
      split <;> omega
    · have := (Nat.log2_lt h0).2 h3
      split <;> omega
end Go.Proofs.YtfcgofffalmdfaaGreatDoor.PA
namespace Go.Proofs.YtfcgofffalmdfaaGreatDoor.PA
open Go Go.Eng Go.Proofs
theorem abs_walk {n : Nat} : ∃ v H', xfunc (xcallK KE F 3000 0) 3000 L88 [zN n] ⟨.e, 0⟩ = some (v, H') ∧ v = zN n := by
  refine xfunc_ofK rfl (by show 1 ≤ 5; omega) ?_
  have hF := HF.start ⟨.e, 0⟩
  generalize (⟨.e, 0⟩ : AHeap) = H at hF ⊢
  unfold L88
  dsimp only
  repeat' (first | refine WK.seq ?_ | refine WK.ret ?_ | (apply WK.reg; (· exact lnn)) | (apply WKO.c1; (· rfl); (· rfl); (· first | rfl); (· assumption); (· rfl); (· exact nxx); (· first | exact .inr nxx); (· first | (simp [AV.cells]; done)); intro _ _ _) | (apply WKO.p0; (· rfl); (· rfl); (· first | rfl); (· first | rfl); (· assumption); (· rfl); (· exact nxx); (· first | exact .inr nxx); intro _ _ _) | (apply WKO.boxO; (· rfl); (· assumption); (· rfl); (· exact nxx); (· exact nxx); (· exact nxx); intro _ _ _) | (apply WKO.alO; (· assumption); (· rfl); (· exact nxx); (· exact nxx); (· exact nxx); intro _ _ _) | refine WKO.nil ?_ | ((first | apply WKO.op); (· first | (apply k_ldA; (· rfl); (· assumption); (· rfl); (· exact mmb); (· first | rfl)) | exact k_faddr rfl); (· rfl)) | refine pN ?_ | fail)
  rename_i H9 hF9 hn9
  exact ⟨fun id q => (by cases q), _, resK_obj rfl (hF9.obj _ (.head _)) rfl, rfl⟩
theorem E88 (n : Nat) (H : AHeap) : KE 88 [zN n] H = some (zN n, H) := by
  obtain ⟨v, H', h, rfl⟩ := abs_walk (n := n)
  have hc := (xfunc_sound mixed (xcallK_sound mixed KE_ok F_ok 3000 0) 3000 (F_ok 88 L88 rfl) h).pure (H := H) (by simp only [AV.frozL, zN_froz, Bool.and_self]) (Fz.froz (zN_froz _))
  obtain ⟨v', q1, q2⟩ := KE_hit hc (fun n' e => by
    simp only [List.cons.injEq, and_true] at e
    rw [zN_inj e])
  rw [q1, q2 n rfl]
set_option maxHeartbeats 4000000 in
theorem gcd_walk {m n : Nat} (hm : (dz m).length < 200) (hn : (dz n).length < 200) : ∃ v H', xfunc (xcallK KE F 30000 0) 30000 L73 [zN m, zN n] ⟨.e, 0⟩ = some (v, H') ∧ v = zN (Nat.gcd m n) := by
  refine xfunc_ofK rfl (by show 2 ≤ 24; omega) ?_
  have hF := HF.start ⟨.e, 0⟩
  generalize (⟨.e, 0⟩ : AHeap) = H at hF ⊢
  unfold L73
  dsimp only
  repeat' (first | refine WK.seq ?_ | (apply WK.reg; (· exact lnn)) | (apply WKO.boxO; (· rfl); (· assumption); (· rfl); (· exact nxx); (· exact nxx); (· exact nxx); intro _ _ _) | (apply WKO.alO; (· assumption); (· rfl); (· exact nxx); (· exact nxx); (· exact nxx); intro _ _ _) | refine WKO.nil ?_ | refine pN ?_ | fail)
  rename_i H1 hF1 hn1 H2 hF2 hn2 H3 hF3 hn3
  refine WK.regT (k := 6) rfl ?_
  have hFt : HF H [] _ [(H.next + 1 + 1, .cells [.bool false, .nils] none), (H.next + 1, .cells [.bool false, rowZ (dz n)] none), (H.next, .cells [.bool false, rowZ (dz m)] none)] (H3.bump 6) := hF3.up (H' := H3.bump 6) rfl (by simp only [next_bump]; omega)
  have hbt := hFt.base
  clear hF hF1 hF2 hF3
  generalize H3.bump 6 = HB at hFt ⊢
  have gB := hFt.obj (H.next + 1, _) (.tail _ (.head _))
  repeat' (first | ((first | apply WKT.op); (· first | (apply k_ldA; (· rfl); (· exact hFt); (· rfl); (· exact mmb); (· rfl)) | (apply k_call; (· rfl); (· rfl); (· first | exact cfhit (E88 m _) | exact cfhit (E88 n _)))); (· rfl)) | fail)
  refine WKT.stG (gs := [(H.next + 1 + 1, .cells [.bool false, .nils] none), (H.next + 1, .cells [.bool false, rowZ (dz n)] none)]) rfl rfl hFt rfl (Nat.le_refl _) (.inr (by omega)) rfl rfl (Nat.le_refl _) ?_
  intro He hFe hne hge
  refine WKT.stG (gs := [(H.next + 1 + 1, .cells [.bool false, .nils] none)]) rfl rfl hFe rfl (Nat.le_refl _) (.inr (by omega)) rfl rfl (Nat.le_refl _) ?_
  intro Hf hFf hnf hgf
  repeat' (first | refine WKT.nil ?_ | fail)
  refine ⟨?_, fun j hj => (by cases hj), (_, Hf), rfl, ?_⟩
  · intro q hq
    obtain rfl : q = (2, [1], []) := by simpa using hq
    refine ⟨_, _, _, _, _, rfl, rfl, rfl, xop_ldn rfl gB rfl, fun j hj => ?_⟩
    have hj' : j = 2 ∨ j = 1 ∨ j = 2 := by simpa using hj
    rcases hj' with rfl | rfl | rfl <;> exact ⟨_, rfl, xop_ldn rfl gB rfl⟩
  refine ⟨fun _ => ?_, fun q => absurd rfl q⟩
  repeat' (first | refine WK.seq ?_ | refine WK.block ?_ | fail)
  refine WK.loop (α := Nat × Nat) (fun s => [(2, .ptr H.next 0), (3, .ptr (H.next + 1) 0), (4, .ptr (H.next + 1 + 1) 0)])
    (fun s H' => (∃ T, HF H [] T [(H.next + 1 + 1, .cells [.bool false, .nils] none), (H.next + 1, .cells [.bool false, rowZ (dz s.2)] none), (H.next, .cells [.bool false, rowZ (dz s.1)] none)] H') ∧ Nat.gcd s.1 s.2 = Nat.gcd m n ∧ (dz s.1).length < 200 ∧ (dz s.2).length < 200) (fun s => euM s.1 s.2) (m, n) (.cons rfl <| .cons rfl <| .cons rfl <| .nil _) ⟨⟨_, hFf⟩, rfl, hm, hn⟩ (by show euM m n < 30000; have := euM_lt hm hn; omega) ?_
  rintro ⟨x, y⟩ H5 ⟨⟨T5, hF5⟩, hg, hx, hy⟩
  simp only at hF5 hg hx hy ⊢
  have hb5 := hF5.base
  have hl5 := hF5.le
  have hnil := @dz_nil y
  clear hFt hFe hFf
  repeat' (first | refine WK.seq ?_ | refine WK.skip ?_ | refine WK.exit ?_ | refine WK.block ?_ | (apply WK.reg; (· exact lnn)) | (apply WKO.p0; (· rfl); (· rfl); (· first | rfl); (· first | rfl); (· assumption); (· rfl); (· exact nxx); (· first | exact .inr nxx); intro _ _ _) | (apply WKO.alO; (· assumption); (· rfl); (· exact nxx); (· exact nxx); (· exact nxx); intro _ _ _) | (apply WKO.stO1; (· rfl); (· rfl); (· assumption); (· rfl); (· exact nxx); (· first | exact .inr nxx); (· rfl); (· rfl); (· first | decide); intro _ _ _) | refine WKO.nil ?_ | ((first | apply WKO.op); (· first | exact k_mv rfl | (apply k_call; (· rfl); (· rfl); (· exact cfhit (E45 hx hy (by omega) _))) | exact k_lenZ rfl | (apply k_ldO; (· rfl); (· assumption); (· rfl); (· exact mmb); (· rfl)) | (apply k_ldA; (· rfl); (· assumption); (· rfl); (· exact mmb); (· first | rfl)) | exact k_faddr rfl | exact opA); (· rfl)) | refine pN ?_ | refine pX ?_ | refine bX ?_ | (apply WK.condD; (· rfl); all_goals intro _) | fail)
  · rename_i Ha hFa hna Hb hFb hnb Hc hFc hnc Hd hFd hnd
    generalize (H5.bump 4).next + 1 + 1 + 1 + 1 + 1 + 1 = p5 at hFd ⊢
    clear hFa hFb hFc
    refine WK.regT (k := 4) rfl ?_
    have hFt : HF H [] _ [(p5 + 1, .cells [.bool false, rowZ (dz (x % y))] none), (p5, .cells [.bool false, rowZ (dz (x / y))] none), (H.next + 1 + 1, .cells [.bool false, .nils] none), (H.next + 1, .cells [.bool false, rowZ (dz y)] none), (H.next, .cells [.bool false, rowZ (dz x)] none)] (Hd.bump 4) := hFd.up (H' := Hd.bump 4) rfl (by simp only [next_bump]; omega)
    clear hFd
    have hnd4 := hFt.nd
    simp only [List.map_cons, List.map_nil, List.nodup_cons, List.mem_cons, List.not_mem_nil, or_false, not_or, not_false_iff, List.nodup_nil, and_true] at hnd4
    generalize Hd.bump 4 = HB at hFt ⊢
    have gB := hFt.obj (p5 + 1, _) (.head _)
    repeat' (first | ((first | apply WKT.op); (· first | (apply k_ldA; (· rfl); (· exact hFt); (· rfl); (· exact mmb); (· rfl))); (· rfl)) | fail)
    refine WKT.stG (gs := [(p5 + 1, .cells [.bool false, rowZ (dz (x % y))] none), (p5, .cells [.bool false, rowZ (dz (x / y))] none), (H.next + 1 + 1, .cells [.bool false, .nils] none), (H.next + 1, .cells [.bool false, rowZ (dz y)] none)]) rfl rfl hFt rfl (Nat.le_refl _) (.inr (by omega)) rfl rfl (Nat.le_refl _) ?_
    intro He hFe hne hge
    refine WKT.stG (gs := [(p5 + 1, .cells [.bool false, rowZ (dz (x % y))] none), (p5, .cells [.bool false, rowZ (dz (x / y))] none), (H.next + 1 + 1, .cells [.bool false, .nils] none)]) rfl rfl hFe rfl (Nat.le_refl _) (.inr (by omega)) rfl rfl (Nat.le_refl _) ?_
    intro Hf hFf hnf hgf
    repeat' (first | refine WKT.nil ?_ | fail)
    refine ⟨?_, fun j hj => (by cases hj), (_, Hf), rfl, ?_⟩
    · intro q hq
      obtain rfl : q = (1, [2], []) := by simpa using hq
      refine ⟨_, _, _, _, _, rfl, rfl, rfl, xop_ldn rfl gB rfl, fun j hj => ?_⟩
      have hj' : j = 1 ∨ j = 2 ∨ j = 3 := by simpa using hj
      rcases hj' with rfl | rfl | rfl
      · exact ⟨_, rfl, xop_ldn rfl gB rfl⟩
      · exact ⟨_, rfl, xop_ldn rfl gB rfl⟩
      · exact ⟨_, rfl, xop_ldn rfl ((hge _ (by omega)).trans gB) rfl⟩
    · have hy0 : 0 < y := by omega
      have hxy := dz_mono (Nat.le_of_lt (Nat.mod_lt x hy0))
      repeat' (first | refine pN ?_ | refine bN ?_ | fail)
      refine ⟨(y, x % y), (.cons rfl <| .cons rfl <| .cons rfl <| .nil _), ⟨⟨_, hFf.sub (gs := [(H.next + 1 + 1, .cells [.bool false, .nils] none), (H.next + 1, .cells [.bool false, rowZ (dz (x % y))] none), (H.next, .cells [.bool false, rowZ (dz y)] none)]) (.cons _ (.cons _ (.refl _))) (Nat.le_refl _) hFf.le⟩, ?_, hy, by show (dz (x % y)).length < 200; omega⟩, euM_step hy0⟩
      show Nat.gcd y (x % y) = Nat.gcd m n
      rw [← hg, Nat.gcd_comm x y, Nat.gcd_rec y x, Nat.gcd_comm]
  · refine ⟨fun _ => ?_, fun q => absurd rfl q⟩
    have hy0 : y = 0 := by omega
    subst hy0
    rw [Nat.gcd_zero_right] at hg
    repeat' (first | refine WK.seq ?_ | refine WK.ret ?_ | (apply WK.reg; (· exact lnn)) | (apply WKO.p0; (· rfl); (· rfl); (· first | rfl); (· first | rfl); (· assumption); (· rfl); (· exact nxx); (· first | exact .inr nxx); intro _ _ _) | refine WKO.nil ?_ | ((first | apply WKO.op); (· first | (apply k_ldA; (· rfl); (· assumption); (· rfl); (· exact mmb); (· first | rfl))); (· rfl)) | refine pN ?_ | fail)
    rename_i H9 hF9 hn9
    exact ⟨fun id q => (by cases q), _, resK_obj rfl (hF9.obj _ (.head _)) rfl, by rw [← hg]; rfl⟩
theorem E73 {m n : Nat} (hm : (dz m).length < 200) (hn : (dz n).length < 200) (H : AHeap) : KE 73 [zN m, zN n] H = some (zN (Nat.gcd m n), H) := by
  obtain ⟨v, H', h, rfl⟩ := gcd_walk hm hn
  have hc := (xfunc_sound mixed (xcallK_sound mixed KE_ok F_ok 30000 0) 30000 (F_ok 73 L73 rfl) h).pure (H := H) (by simp only [AV.frozL, zN_froz, Bool.and_self]) (Fz.froz (zN_froz _))
  obtain ⟨v', q1, q2⟩ := KE_hit hc (fun m' n' e => by
    simp only [List.cons.injEq, and_true] at e
    rw [zN_inj e.1, zN_inj e.2])
  rw [q1, q2 m n rfl]
theorem low_walk {m n : Nat} (hm : (dz m).length < 200) (hn : (dz n).length < 200) (h0 : 0 < n) : ∃ v H', xfunc (xcallK KE F 3000 0) 3000 L33 [fN m n] ⟨.e, 0⟩ = some (v, H') ∧ v = fN (m / Nat.gcd m n) (n / Nat.gcd m n) := by
  refine xfunc_ofK rfl (by show 1 ≤ 30; omega) ?_
  have hF := HF.start ⟨.e, 0⟩
  generalize (⟨.e, 0⟩ : AHeap) = H at hF ⊢
  have hg0 : 0 < Nat.gcd m n := Nat.gcd_pos_of_pos_right m h0
  have hgl : (dz (Nat.gcd m n)).length < 200 := Nat.lt_of_le_of_lt (dz_mono (Nat.gcd_le_right m h0)) hn
  have c1 : ∀ {H' : AHeap} {k : Nat}, xcallK KE F 3000 k 73 [zN m, zN n] H' = some (zN (Nat.gcd m n), H') := fun {H' k} => cfhit (E73 hm hn H')
  have c2 : ∀ {H' : AHeap} {k : Nat}, xcallK KE F 3000 k 45 [zN m, zN (Nat.gcd m n)] H' = _ := fun {H' k} => cfhit (E45 hm hgl hg0 H')
  have c3 : ∀ {H' : AHeap} {k : Nat}, xcallK KE F 3000 k 45 [zN n, zN (Nat.gcd m n)] H' = _ := fun {H' k} => cfhit (E45 hn hgl hg0 H')
  unfold L33
  dsimp only
  repeat' (first | refine WK.seq ?_ | (apply WK.reg; (· exact lnn)) | (apply WKO.boxO; (· rfl); (· assumption); (· rfl); (· exact nxx); (· exact nxx); (· exact nxx); intro _ _ _) | (apply WKO.alO; (· assumption); (· rfl); (· exact nxx); (· exact nxx); (· exact nxx); intro _ _ _) | (apply WKO.stO0; (· rfl); (· rfl); (· assumption); (· rfl); (· exact nxx); (· first | exact .inr nxx); (· rfl); (· rfl); (· first | decide); intro _ _ _) | (apply WKO.stO1; (· rfl); (· rfl); (· assumption); (· rfl); (· exact nxx); (· first | exact .inr nxx); (· rfl); (· rfl); (· first | decide); intro _ _ _) | refine WKO.nil ?_ | ((first | apply WKO.op); (· first | exact k_mv rfl | (apply k_ldC; (· rfl); (· assumption); (· rfl); (· first | exact mmb); (· exact Nat.le_of_ble_eq_true rfl); (· rfl)) | (apply k_call; (· rfl); (· rfl); (· first | exact c1 | exact c2 | exact c3)) | exact k_faddr rfl | exact opA); (· rfl)) | refine pN ?_ | fail)
  rename_i H9 hF9 hn9
  refine WKO.stO0 (m := 4) rfl rfl (hF9.sub (gs := [(H.next + 1, .cells [.bool false, .nils, .bool false, .nils] none), (H.next, .cells (fN m n).cells none)]) (.cons _ (.cons _ (.cons _ (.cons _ (.cons _ (.refl _)))))) (Nat.le_refl _) hF9.le) rfl nxx (.inr nxx) rfl rfl (Nat.le_of_ble_eq_true rfl) ?_
  intro Hz hFz hnz
  repeat' (first | refine WK.ret ?_ | refine WKO.nil ?_ | refine pN ?_ | fail)
  exact ⟨fun id q => (by cases q), _, resK_obj rfl (hFz.obj _ (.head _)) rfl, rfl⟩
theorem E33 {m n : Nat} (hm : (dz m).length < 200) (hn : (dz n).length < 200) (h0 : 0 < n) (H : AHeap) : KE 33 [fN m n] H = some (fN (m / Nat.gcd m n) (n / Nat.gcd m n), H) := by
  obtain ⟨v, H', h, rfl⟩ := low_walk hm hn h0
  have hc := (xfunc_sound mixed (xcallK_sound mixed KE_ok F_ok 3000 0) 3000 (F_ok 33 L33 rfl) h).pure (H := H) (by simp only [AV.frozL, fN_froz, Bool.and_self]) (Fz.froz (fN_froz _ _))
  obtain ⟨v', q1, q2⟩ := KE_hit hc (fun m' n' e => by
    simp only [List.cons.injEq, and_true] at e
    rw [(fN_inj e).1, (fN_inj e).2])
  rw [q1, q2 m n rfl]
theorem E33q {n : Nat} (hn : (dz n).length < 200) (H : AHeap) : KE 33 [qN n] H = some (qN n, H) := by
  have := E33 (n := 1) hn (by rw [dz_one]; decide) (by decide) H
  rw [Nat.gcd_one_right, Nat.div_one, Nat.div_one] at this
  exact this
theorem wholeZ_walk {n : Nat} : ∃ v H', xfunc (xcallK KE F 3000 0) 3000 L22 [zN n] ⟨.e, 0⟩ = some (v, H') ∧ v = qN n := by
  refine xfunc_ofK rfl (by show 1 ≤ 6; omega) ?_
  have hF := HF.start ⟨.e, 0⟩
  generalize (⟨.e, 0⟩ : AHeap) = H at hF ⊢
  unfold L22
  dsimp only
  repeat' (first | refine WK.seq ?_ | (apply WK.reg; (· exact lnn)) | (apply WKO.boxO; (· rfl); (· assumption); (· rfl); (· exact nxx); (· exact nxx); (· exact nxx); intro _ _ _) | (apply WKO.alO; (· assumption); (· rfl); (· exact nxx); (· exact nxx); (· exact nxx); intro _ _ _) | refine WKO.nil ?_ | refine pN ?_ | fail)
  rename_i H1 hF1 hn1 H2 hF2 hn2
  refine WK.regC1 3 rfl rfl rfl ?_
  dsimp only [List.take_succ_cons, List.take_zero]
  repeat' (first | refine WK.ret ?_ | (apply WKO.stO0; (· rfl); (· rfl); (· assumption); (· rfl); (· exact nxx); (· first | exact .inr nxx); (· rfl); (· rfl); (· first | decide); intro _ _ _) | refine WKC.nil ?_ | refine WKO.nil ?_ | ((first | apply WKC.op); (· first | (apply k_call; (· rfl); (· rfl); (· exact cfhit (E52 (n := 1) (by decide) _))) | (apply k_ldA; (· rfl); (· assumption); (· rfl); (· exact mmb); (· first | rfl)) | exact opA); (· rfl)) | refine pN ?_ | fail)
  rename_i H9 hF9 hn9
  exact ⟨fun id q => (by cases q), _, resK_obj rfl (hF9.obj _ (.head _)) rfl, rfl⟩
theorem E22 (n : Nat) (H : AHeap) : KE 22 [zN n] H = some (qN n, H) := by
  obtain ⟨v, H', h, rfl⟩ := wholeZ_walk (n := n)
  have hc := (xfunc_sound mixed (xcallK_sound mixed KE_ok F_ok 3000 0) 3000 (F_ok 22 L22 rfl) h).pure (H := H) (by simp only [AV.frozL, zN_froz, Bool.and_self]) (Fz.froz (qN_froz _))
  obtain ⟨v', q1, q2⟩ := KE_hit hc (fun n' e => by
    simp only [List.cons.injEq, and_true] at e
    rw [zN_inj e])
  rw [q1, q2 n rfl]
end Go.Proofs.YtfcgofffalmdfaaGreatDoor.PA
namespace Go.Proofs.YtfcgofffalmdfaaGreatDoor.PA
def padF : Nat → Nat → List Nat
  | 0, _ => []
  | k + 1, v => (48 + v / 10 ^ k) :: padF k (v % 10 ^ k)
theorem padF_len : ∀ k v, (padF k v).length = k
  | 0, _ => rfl
  | k + 1, v => by rw [padF, List.length_cons, padF_len k]
theorem padF_app : ∀ (a x b y : Nat), y < 10 ^ b → padF a x ++ padF b y = padF (a + b) (x % 10 ^ a * 10 ^ b + y) ∨ ¬ x < 10 ^ a
  | a, x, b, y, hy => by
    by_cases hx : x < 10 ^ a
    · left
      rw [Nat.mod_eq_of_lt hx]
      induction a generalizing x with
      | zero =>
        rw [Nat.pow_zero] at hx
        rw [show x = 0 by omega, Nat.zero_mul, Nat.zero_add, Nat.zero_add]
        rfl
      | succ a ih =>
        rw [show a + 1 + b = (a + b) + 1 by omega, padF, padF, List.cons_append, ih (x % 10 ^ a) (Nat.mod_lt _ (Nat.pow_pos (by decide)))]
        have hp : 0 < 10 ^ a := Nat.pow_pos (by decide)
        have hq : 0 < 10 ^ b := Nat.pow_pos (by decide)
        have e1 : (x * 10 ^ b + y) / 10 ^ (a + b) = x / 10 ^ a := by
          rw [Nat.pow_add, Nat.mul_comm (10 ^ a), ← Nat.div_div_eq_div_mul, Nat.mul_comm x, Nat.mul_add_div hq, Nat.div_eq_of_lt hy, Nat.add_zero]
        have e2 : (x * 10 ^ b + y) % 10 ^ (a + b) = x % 10 ^ a * 10 ^ b + y := by
          have h1 := Nat.div_add_mod x (10 ^ a)
          have h2 : x % 10 ^ a * 10 ^ b + y < 10 ^ (a + b) := by
            rw [Nat.pow_add]
            have h3 : x % 10 ^ a + 1 ≤ 10 ^ a := Nat.mod_lt _ hp
            have h4 := Nat.mul_le_mul_right (10 ^ b) h3
            rw [Nat.add_mul, Nat.one_mul] at h4
            omega
          have h5 : x * 10 ^ b + y = 10 ^ (a + b) * (x / 10 ^ a) + (x % 10 ^ a * 10 ^ b + y) := by
            conv => lhs; rw [← h1]
            rw [Nat.add_mul, Nat.pow_add, Nat.add_assoc, Nat.mul_assoc, Nat.mul_comm (x / 10 ^ a) (10 ^ b), ← Nat.mul_assoc]
          rw [h5, Nat.mul_add_mod, Nat.mod_eq_of_lt h2]
        rw [e1, e2]
    · exact .inr hx
theorem padF_join {a x b y : Nat} (hx : x < 10 ^ a) (hy : y < 10 ^ b) : padF a x ++ padF b y = padF (a + b) (x * 10 ^ b + y) := by
  rcases padF_app a x b y hy with h | h
  · rwa [Nat.mod_eq_of_lt hx] at h
  · exact absurd hx h
theorem padF_four {d : Nat} (hd : d < 10000) : padF 4 d = [48 + d / 1000, 48 + d / 100 % 10, 48 + d / 10 % 10, 48 + d % 10] := by
  show [48 + d / 1000, 48 + d % 1000 / 100, 48 + d % 1000 % 100 / 10, 48 + d % 1000 % 100 % 10 / 1] = _
  simp only [List.cons.injEq, and_true]
  refine ⟨trivial, by omega, by omega, by omega⟩
theorem padF_dig : ∀ {k v : Nat}, v < 10 ^ k → ∀ c ∈ padF k v, 48 ≤ c ∧ c < 58
  | 0, _, _, c, h => by cases h
  | k + 1, v, hv, c, h => by
    rw [padF] at h
    rcases List.mem_cons.1 h with rfl | h
    · have : v / 10 ^ k < 10 := by
        rw [Nat.div_lt_iff_lt_mul (Nat.pow_pos (by decide)), Nat.mul_comm]
        rwa [Nat.pow_succ] at hv
      generalize v / 10 ^ k = q at this ⊢
      omega
    · exact padF_dig (Nat.mod_lt _ (Nat.pow_pos (by decide))) c h
theorem padF_of : ∀ {L : List Nat}, (∀ c ∈ L, 48 ≤ c ∧ c < 58) → padF L.length (decV L) = L
  | [], _ => rfl
  | c :: L, h => by
    have hL : ∀ x ∈ L, 48 ≤ x ∧ x < 58 := fun x hx => h x (by simp [hx])
    have hc := h c (by simp)
    have hv : decV (c :: L) = (c - 48) * 10 ^ L.length + decV L := by
      have : decV (c :: L) = L.foldl (fun v c => 10 * v + (c - 48)) (c - 48) := by
        unfold decV
        rw [List.foldl_cons, Nat.mul_zero, Nat.zero_add]
      rw [this, decV_acc]
    have hlt := decV_lt hL
    have hp : 0 < 10 ^ L.length := Nat.pow_pos (by decide)
    rw [List.length_cons, padF, hv, Nat.mul_comm, Nat.mul_add_div hp, Nat.div_eq_of_lt hlt, Nat.mul_add_mod, Nat.mod_eq_of_lt hlt, padF_of hL]
    congr 1
    omega
theorem padF_dec {k n : Nat} (h0 : n ≠ 0) (hn : n < 10 ^ k) (hh : (padF k n).getD 0 0 ≠ 48) : padF k n = decL n := by
  have hL := decL_dig n
  have e := padF_of hL
  rw [decV_L] at e
  have hm := decV_lt hL
  rw [decV_L] at hm
  have h1 := decL_head h0
  rw [← e] at h1
  have low : ∀ {k : Nat}, n < 10 ^ k → (padF k n).getD 0 0 ≠ 48 → ∃ j, k = j + 1 ∧ 10 ^ j ≤ n := fun {k} hk hd => by
    cases k with
    | zero => rw [Nat.pow_zero] at hk; omega
    | succ j =>
      refine ⟨j, rfl, ?_⟩
      rw [padF, List.getD_cons_zero] at hd
      by_cases q : 10 ^ j ≤ n
      · exact q
      · rw [Nat.div_eq_of_lt (by omega)] at hd
        exact absurd rfl hd
  obtain ⟨j, rfl, hj⟩ := low hn hh
  obtain ⟨i, hi, hi2⟩ := low hm h1
  have : j = i := by
    rcases Nat.lt_trichotomy j i with q | q | q
    · have := Nat.pow_le_pow_right (show 0 < 10 by decide) (show j + 1 ≤ i by omega)
      omega
    · exact q
    · rw [hi] at hm
      have := Nat.pow_le_pow_right (show 0 < 10 by decide) (show i + 1 ≤ j by omega)
      omega
  subst this
  rw [← hi] 
  exact e
theorem padF_zero {k n : Nat} (hn : n < 10 ^ (k + 1)) (h : (padF (k + 1) n).getD 0 0 = 48) : n < 10 ^ k ∧ padF (k + 1) n = 48 :: padF k n := by
  rw [padF, List.getD_cons_zero] at h
  have hp : 0 < 10 ^ k := Nat.pow_pos (by decide)
  have h1 : n / 10 ^ k = 0 := by omega
  have h2 : n < 10 ^ k := by
    rcases Nat.div_eq_zero_iff.1 h1 with q | q
    · omega
    · exact q
  refine ⟨h2, ?_⟩
  rw [padF, h1, Nat.mod_eq_of_lt h2]
theorem valZ_lt10 {l : List Nat} (h : digZ l) : valZ l < 10 ^ (4 * l.length) := by
  have := valZ_lt h
  rwa [show BZ = 10 ^ 4 from rfl, ← Nat.pow_mul] at this
end Go.Proofs.YtfcgofffalmdfaaGreatDoor.PA
namespace Go.Proofs.YtfcgofffalmdfaaGreatDoor.PA
open Go Go.Eng Go.Proofs
def padS (k v : Nat) : List UInt8 := (padF k v).map UInt8.ofNat
theorem padS_len (k v : Nat) : (padS k v).length = k := by rw [padS, List.length_map, padF_len]
theorem padS_get {k v : Nat} (hv : v < 10 ^ k) (h : 0 < k) : ((padS k v).getD 0 97).toNat = (padF k v).getD 0 0 := by
  obtain ⟨j, rfl⟩ : ∃ j, k = j + 1 := ⟨k - 1, by omega⟩
  have hd := padF_dig hv
  rw [padF] at hd
  have h1 := hd _ (List.mem_cons_self ..)
  rw [padS, padF, List.map_cons, List.getD_cons_zero, List.getD_cons_zero, UInt8.toNat_ofNat']
  omega
theorem k_btsZ {cf : CF} {n i m : Nat} {H : AHeap} {l : KL0} {x : XO} {N : List Nat} {opn : Option Nat} (hx : evK l x = some (.sl i 0 m m)) (hg : H.get i = some (.cells (N.map bA) opn)) (hm : m = N.length) (hd : ∀ z ∈ N, z < 256) : XV cf l H n (.bts x) = some (.str (N.map UInt8.ofNat), H) := by
  refine k_any ?_
  have hb : bytesA (N.map bA) = some (N.map UInt8.ofNat) := by
    clear hg hm
    induction N with
    | nil => rfl
    | cons z N ih =>
      have h1 := hd z (by simp)
      simp only [List.map_cons, bytesA, bA, ih (fun q hq => hd q (by simp [hq]))]
      simp
      try omega
  have hs : srcA H 1 m (.sl i 0 m m) = some (N.map bA) := by
    simp only [srcA, hg, Nat.zero_add, List.drop_zero, List.length_map]
    rw [if_pos (by omega), List.take_of_length_le (by simp; omega)]
  have hl : Go.Eng.lenA (.sl i 0 m m) = some m := rfl
  simp only [xval, xop, hx, hl, hs, Option.bind_some, hb, Option.map_some, AR.ofV]
section
variable {cf : CF} {n a : Nat} {H : AHeap} {l : KL0} {x : XO}
theorem k_ad48 (hx : evK l x = some (nA a)) (h : a < 1000) : XV cf l H n (.bin .add (.k (.int .i64 (.ofNat 48))) x) = some (nA (48 + a), H) := k_addN (a := 48) rfl hx (by omega)
theorem k_qn (b : Nat) (hx : evK l x = some (nA a)) (hb : 0 < b) (h : a < 1000000) : XV cf l H n (.bin .quo x (.k (.int .i64 (.ofNat b)))) = some (nA (a / b), H) := k_quoN (b := b) hx rfl hb (by omega)
theorem k_rn (b : Nat) (hx : evK l x = some (nA a)) (hb : 0 < b) : XV cf l H n (.bin .rem x (.k (.int .i64 (.ofNat b)))) = some (nA (a % b), H) := k_remN (b := b) hx rfl hb
end
set_option maxHeartbeats 4000000 in
theorem figures_walk {n : Nat} (hn : (dz n).length < 200) : ∃ v H', xfunc (xcallK KE F 3000 0) 3000 L87 [zN n] ⟨.e, 0⟩ = some (v, H') ∧ v = .str (decS n) := by
  refine xfunc_ofK rfl (by show 1 ≤ 53; omega) ?_
  have hF := HF.start ⟨.e, 0⟩
  generalize (⟨.e, 0⟩ : AHeap) = H at hF ⊢
  have hd := digZ_dz n
  have hv := valZ_dz n
  have hnil := @dz_nil n
  unfold L87
  dsimp only
  repeat' (first | refine WK.seq ?_ | refine WK.skip ?_ | refine WK.ret ?_ | refine WK.block ?_ | (apply WK.reg; (· exact lnn)) | (apply WKO.boxO; (· rfl); (· assumption); (· rfl); (· exact nxx); (· exact nxx); (· exact nxx); intro _ _ _) | refine WKO.nil ?_ | ((first | apply WKO.op); (· first | exact k_mv rfl | exact k_subM rfl (by omega) | exact k_lenZ rfl | (apply k_ldO; (· rfl); (· assumption); (· rfl); (· exact mmb); (· rfl)) | exact k_faddr rfl | exact opA); (· rfl)) | refine pN ?_ | refine pR ?_ | (apply WK.condD; (· rfl); all_goals intro _) | fail)
  · have : n = 0 := by omega
    subst this
    exact ⟨fun id q => (by cases q), _, rfl, rfl⟩
  rename_i H1 hF1 hn1 hne
  refine WK.loop (α := Nat) (fun i => [(1, .ptr H.next 0), (2, .str []), (3, .str (padS (4 * ((dz n).length - i)) (valZ ((dz n).drop i)))), (4, zA ((i : Int) - 1))])
    (fun i H' => (∃ T, HF H [] T [(H.next, .cells [.bool false, rowZ (dz n)] none)] H') ∧ i ≤ (dz n).length) (fun i => i) (dz n).length ?_ ⟨⟨_, hF1.up rfl (by simp only [next_bump]; omega)⟩, Nat.le_refl _⟩ (by show (dz n).length < 3000; omega) ?_
  · refine .cons rfl <| .cons rfl <| .cons ?_ <| .cons rfl <| .nil _
    rw [Nat.sub_self, Nat.mul_zero]
    rfl
  rintro i H3 ⟨⟨T3, hF3⟩, hi⟩
  have hb3 := hF3.base
  have hl3 := hF3.le
  clear hF hF1
  cases i with
  | zero =>
    repeat' (first | refine WK.seq ?_ | refine WK.exit ?_ | refine WK.block ?_ | (apply WK.reg; (· exact lnn)) | refine WKO.nil ?_ | ((first | apply WKO.op); (· first | exact k_mv rfl | exact k_geqM rfl); (· rfl)) | refine pN ?_ | refine pX ?_ | refine bX ?_ | (apply WK.condF; (· rfl); (· exact dcd)) | fail)
    have hn0 : n ≠ 0 := by omega
    have hlt := valZ_lt10 hd
    rw [hv] at hlt
    refine WK.loop (α := Nat) (fun k => [(3, .str (padS k n))]) (fun k H' => n < 10 ^ k ∧ k ≤ 800) (fun k => k) (4 * (dz n).length) ?_ ⟨hlt, by omega⟩ (by show 4 * (dz n).length < 3000; omega) ?_
    · refine .cons ?_ <| .nil _
      rw [Nat.sub_zero, List.drop_zero, hv]
      rfl
    rintro k H4 ⟨hk, hk8⟩
    have hk0 : 0 < k := by
      rcases Nat.eq_zero_or_pos k with q | q
      · rw [q, Nat.pow_zero] at hk; omega
      · exact q
    have hpl := padS_len k n
    have hg := padS_get hk hk0
    repeat' (first | refine WK.seq ?_ | refine WK.skip ?_ | refine WK.ret ?_ | refine WK.exit ?_ | refine WK.block ?_ | (apply WK.reg; (· exact lnn)) | refine WKO.nil ?_ | ((first | apply WKO.op); (· first | exact k_mv rfl | (apply k_sidx (a := 0); (· rfl); (· rfl); (· omega)) | exact k_eq8 rfl | exact k_scF (a := 1) rfl rfl (by omega)); (· rfl)) | refine pN ?_ | refine pX ?_ | refine bN ?_ | refine bX ?_ | (apply WK.condD; (· rfl); all_goals intro _) | fail)
    · obtain ⟨j, rfl⟩ : ∃ j, k = j + 1 := ⟨k - 1, by omega⟩
      obtain ⟨z1, z2⟩ := padF_zero hk (by rw [← hg]; assumption)
      refine ⟨j, .cons ?_ <| .nil _, ⟨z1, by omega⟩, Nat.lt_succ_self _⟩
      have e : (padS (j + 1) n).drop 1 = padS j n := by
        unfold padS
        rw [z2]
        rfl
      rw [← e]
      rfl
    · have z := padF_dec hn0 hk (by rw [← hg]; assumption)
      exact ⟨fun id q => (by cases q), _, rfl, by unfold padS; rw [z]; rfl⟩
  | succ i =>
    have hdi := digZ_get hd i
    rw [show BZ = 10000 from rfl] at hdi
    rw [zA_nat]
    have hx : valZ ((dz n).drop (i + 1)) < 10 ^ (4 * ((dz n).length - (i + 1))) := by
      have := valZ_lt10 (l := (dz n).drop (i + 1)) (fun x hx => hd x (List.mem_of_mem_drop hx))
      rwa [List.length_drop] at this
    have e : padS (4 * ((dz n).length - (i + 1))) (valZ ((dz n).drop (i + 1))) ++ [48 + (dz n).getD i 0 / 1000, 48 + (dz n).getD i 0 / 100 % 10, 48 + (dz n).getD i 0 / 10 % 10, 48 + (dz n).getD i 0 % 10].map UInt8.ofNat = padS (4 * ((dz n).length - i)) (valZ ((dz n).drop i)) := by
      rw [← padF_four hdi]
      unfold padS
      have e3 : valZ ((dz n).drop (i + 1)) * 10 ^ 4 + (dz n).getD i 0 = (dz n).getD i 0 + BZ * valZ ((dz n).drop (i + 1)) := by rw [show BZ = 10 ^ 4 from rfl, Nat.mul_comm, Nat.add_comm]
      rw [← List.map_append, padF_join hx (by exact hdi), valZ_drop (dz n) i, show 4 * ((dz n).length - (i + 1)) + 4 = 4 * ((dz n).length - i) by omega, e3]
    have hpl := padS_len (4 * ((dz n).length - (i + 1))) (valZ ((dz n).drop (i + 1)))
    generalize padS (4 * ((dz n).length - (i + 1))) (valZ ((dz n).drop (i + 1))) = P at e hpl ⊢
    repeat' (first | refine WK.seq ?_ | refine WK.skip ?_ | refine WK.block ?_ | (apply WK.reg; (· exact lnn)) | (apply WKO.bsO; (· rfl); (· rfl); (· assumption); (· rfl); (· exact nxx); (· exact nxx); (· exact nxx); intro _ _ _) | refine WKO.nil ?_ | ((first | apply WKO.op); (· first | exact k_mv rfl | exact k_geqT rfl | exact k_iaZ rfl rfl (by omega) | exact k_ldZ rfl (by omega) | exact k_qn _ rfl (by decide) (by omega) | exact k_rn _ rfl (by decide) | exact k_ad48 rfl (by omega) | exact k_to8 rfl (by omega) | (apply k_ldO; (· rfl); (· assumption); (· rfl); (· exact mmb); (· rfl)) | exact k_faddr rfl); (· rfl)) | refine pN ?_ | (apply WK.condT; (· rfl); (· exact dcd)) | fail)
    rename_i H5 hF5 hn5
    refine WKO.op (k_btsZ (N := [48 + (dz n).getD i 0 / 1000, 48 + (dz n).getD i 0 / 100 % 10, 48 + (dz n).getD i 0 / 10 % 10, 48 + (dz n).getD i 0 % 10]) rfl (hF5.obj (_, _) (.head _)) rfl (fun z hz => by simp only [List.mem_cons, List.not_mem_nil, or_false] at hz; omega)) rfl ?_
    repeat' (first | (apply WK.reg; (· exact lnn)) | refine WKO.nil ?_ | ((first | apply WKO.op); (· first | exact k_mv rfl | exact k_catS rfl rfl (by simp only [List.length_map, List.length_cons, List.length_nil]; omega) | exact k_subM rfl (by omega)); (· rfl)) | refine pN ?_ | refine bN ?_ | fail)
    refine ⟨i, .cons rfl <| .cons rfl <| .cons (by rw [← e]; rfl) <| .cons rfl <| .nil _, ⟨⟨_, (hF5.sub (gs := [(H.next, .cells [.bool false, rowZ (dz n)] none)]) (.cons _ (.refl _)) (Nat.le_refl _) hF5.le).up rfl (by simp only [next_bump]; omega)⟩, by omega⟩, Nat.lt_succ_self _⟩
theorem E87 {n : Nat} (hn : (dz n).length < 200) (H : AHeap) : KE 87 [zN n] H = some (.str (decS n), H) := by
  obtain ⟨v, H', h, rfl⟩ := figures_walk hn
  have hc := (xfunc_sound mixed (xcallK_sound mixed KE_ok F_ok 3000 0) 3000 (F_ok 87 L87 rfl) h).pure (H := H) (by simp only [AV.frozL, zN_froz, Bool.and_self]) (.str _)
  obtain ⟨v', q1, q2⟩ := KE_hit hc (fun n' e => by
    simp only [List.cons.injEq, and_true] at e
    rw [zN_inj e])
  rw [q1, q2 n rfl]
theorem k_neS1 {cf : CF} {n : Nat} {H : AHeap} {l : KL0} {x : XO} {s t : List UInt8} (hx : evK l x = some (.str s)) (h : s = t) : XV cf l H n (.bin .neq x (.k (.str t))) = some (.bool false, H) :=
  k_bin hx rfl (by subst h; simp [binA, strA])
set_option maxHeartbeats 2000000 in
theorem num_walk {n : Nat} (hn : (dz n).length < 200) (hl : (decL n).length ≤ 1000) : ∃ v H', xfunc (xcallK KE F 3000 0) 3000 L46 [qN n] ⟨.e, 0⟩ = some (v, H') ∧ v = .tup [.str (decS n), .bool true] := by
  refine xfunc_ofK rfl (by show 1 ≤ 35; omega) ?_
  have hF := HF.start ⟨.e, 0⟩
  generalize (⟨.e, 0⟩ : AHeap) = H at hF ⊢
  have c1 : ∀ {H' : AHeap} {k : Nat}, xcallK KE F 3000 k 33 [qN n] H' = some (qN n, H') := fun {H' k} => cfhit (E33q hn H')
  have c2 : ∀ {H' : AHeap} {k : Nat}, xcallK KE F 3000 k 88 [zN n] H' = some (zN n, H') := fun {H' k} => cfhit (E88 n H')
  have c3 : ∀ {H' : AHeap} {k : Nat}, xcallK KE F 3000 k 87 [zN n] H' = some (.str (decS n), H') := fun {H' k} => cfhit (E87 hn H')
  have c4 : ∀ {H' : AHeap} {k : Nat}, xcallK KE F 3000 k 87 [zN 1] H' = some (.str (decS 1), H') := fun {H' k} => cfhit (E87 (by rw [dz_one]; decide) H')
  have s1 : decS 1 = [UInt8.ofNat 49] := by
    rw [decS, decL, if_neg (by decide), decR_pos (by decide), show 1 / 10 = 0 from rfl, decR_zero]
    rfl
  have hsl := decS_length n
  have hs1 : (decS 1).length = 1 := by rw [s1]; rfl
  unfold L46
  dsimp only
  repeat' (first | refine WK.seq ?_ | (apply WK.reg; (· exact lnn)) | (apply WKO.boxO; (· rfl); (· assumption); (· rfl); (· exact nxx); (· exact nxx); (· exact nxx); intro _ _ _) | refine WKO.nil ?_ | ((first | apply WKO.op); (· first | exact k_mv rfl | (apply k_call; (· rfl); (· rfl); (· exact c1)) | (apply k_ldA; (· rfl); (· assumption); (· rfl); (· exact mmb); (· first | rfl))); (· rfl)) | refine pN ?_ | fail)
  rename_i H1 hF1 hn1
  refine WKO.stO0 (m := 4) rfl rfl hF1 rfl nxx (.inr nxx) rfl rfl (Nat.le_of_ble_eq_true rfl) ?_
  intro H2 hF2 hn2
  have hF3 : HF H [] _ [(H.next, .cells [.bool false, rowZ (dz n), .bool false, rowZ (dz 1)] none)] H2 := hF2
  clear hF2 hF1
  repeat' (first | refine WK.seq ?_ | refine WK.skip ?_ | refine WK.ret ?_ | (apply WK.reg; (· exact lnn)) | (apply WK.regC; (· rfl); (· exact lnn); (· decide)) | refine WKC.nil ?_ | refine WKO.nil ?_ | ((first | apply WKC.op | apply WKO.op | ((first | apply WKO.gop); (· rfl); (· exact dcd))); (· first | exact k_mv rfl | (apply k_ldC; (· rfl); (· assumption); (· rfl); (· exact mmb); (· exact Nat.le_of_ble_eq_true rfl); (· rfl)) | (apply k_call; (· rfl); (· rfl); (· first | exact c2 | exact c3 | exact c4)) | exact k_slen rfl | exact k_neS1 rfl s1 | (apply k_ldO; (· rfl); (· assumption); (· rfl); (· exact mmb); (· rfl)) | exact k_faddr rfl | exact opA); (· rfl)) | refine pN ?_ | (apply WK.condF; (· rfl); (· exact dcd)) | fail)
  exact ⟨fun id q => (by cases q), _, rfl, rfl⟩
theorem E46 {n : Nat} (hn : (dz n).length < 200) (hl : (decL n).length ≤ 1000) (H : AHeap) : KE 46 [qN n] H = some (.tup [.str (decS n), .bool true], H) := by
  obtain ⟨v, H', h, rfl⟩ := num_walk hn hl
  have hc := (xfunc_sound mixed (xcallK_sound mixed KE_ok F_ok 3000 0) 3000 (F_ok 46 L46 rfl) h).pure (H := H) (by simp only [AV.frozL, qN_froz, Bool.and_self]) (Fz.froz rfl)
  obtain ⟨v', q1, q2⟩ := KE_hit hc (fun n' e => by
    simp only [List.cons.injEq, and_true] at e
    rw [qN_inj e])
  rw [q1, q2 n rfl]
theorem k_eqSS {cf : CF} {n : Nat} {H : AHeap} {l : KL0} {x y : XO} {s t : List UInt8} (hx : evK l x = some (.str s)) (hy : evK l y = some (.str t)) : XV cf l H n (.bin .eql x y) = some (.bool (decide (s = t)), H) :=
  k_bin hx hy (by
    show some (AV.bool (s == t)) = _
    congr 2
    rw [Bool.eq_iff_iff]
    simp)
theorem is_walk {n : Nat} {s : List UInt8} (hn : (dz n).length < 200) (hl : (decL n).length ≤ 1000) : ∃ v H', xfunc (xcallK KE F 3000 0) 3000 L21 [.str s, qN n] ⟨.e, 0⟩ = some (v, H') ∧ v = .bool (decide (s = decS n)) := by
  refine xfunc_ofK rfl (by show 2 ≤ 18; omega) ?_
  have hF := HF.start ⟨.e, 0⟩
  generalize (⟨.e, 0⟩ : AHeap) = H at hF ⊢
  unfold L21
  dsimp only
  repeat' (first | refine WK.seq ?_ | refine WK.ret ?_ | (apply WK.reg; (· exact lnn)) | (apply WKO.boxO; (· rfl); (· assumption); (· rfl); (· exact nxx); (· exact nxx); (· exact nxx); intro _ _ _) | refine WKO.nil ?_ | ((first | apply WKO.op | ((first | apply WKO.gop); (· rfl); (· exact dcd))); (· first | exact k_mv rfl | (apply k_call; (· rfl); (· rfl); (· exact cfhit (E46 hn hl _))) | exact k_eqSS rfl rfl | (apply k_ldA; (· rfl); (· assumption); (· rfl); (· exact mmb); (· first | rfl)) | exact opA); (· rfl)) | refine pN ?_ | fail)
  exact ⟨fun id q => (by cases q), _, rfl, rfl⟩
theorem E21 {n : Nat} (s : List UInt8) (hn : (dz n).length < 200) (hl : (decL n).length ≤ 1000) (H : AHeap) : KE 21 [.str s, qN n] H = some (.bool (decide (s = decS n)), H) := by
  obtain ⟨v, H', h, rfl⟩ := is_walk (s := s) hn hl
  have hc := (xfunc_sound mixed (xcallK_sound mixed KE_ok F_ok 3000 0) 3000 (F_ok 21 L21 rfl) h).pure (H := H) (by simp only [AV.frozL, AV.froz, rowZ_froz, Bool.and_self]) (.bool _)
  obtain ⟨v', q1, q2⟩ := KE_hit hc (fun s' n' e => by
    simp only [List.cons.injEq, AV.str.injEq, and_true] at e
    rw [qN_inj e.2, e.1])
  rw [q1, q2 s n rfl]
theorem k_lenSI {cf : CF} {n : Nat} {H : AHeap} {K : KL0} {x : XO} {l : List Nat} (hx : evK K x = some (strI l)) : XV cf K H n (.len x) = some (nA l.length, H) := k_lenL hx rfl
theorem strC_at {l : List Nat} {i : Nat} (h : i < l.length) : (strC l)[i * 1]? = some (.str (decS (l.getD i 0))) := by
  rw [Nat.mul_one, strC, List.getElem?_map, List.getElem?_eq_getElem h, List.getD_eq_getElem?_getD, List.getElem?_eq_getElem h]
  rfl
end Go.Proofs.YtfcgofffalmdfaaGreatDoor.PA
namespace Go.Proofs.YtfcgofffalmdfaaGreatDoor.PA
open Go Go.Eng Go.Proofs
theorem szF_len (s : List UInt8) (rl : List Bool) (gap : Int) (i j : Nat) : (szF s rl gap i j).length = mostF s rl gap i j + 1 := by
  have := lenN_pos (mayF s rl gap) (j - i) i
  unfold mostF lenN szF at *
  omega
theorem take_sum (l : List Nat) {i : Nat} (h : i < l.length) : (l.take (i + 1)).sum = (l.take i).sum + l.getD i 0 := by
  rw [List.take_add_one, List.getElem?_eq_getElem h, List.sum_append, List.getD_eq_getElem?_getD, List.getElem?_eq_getElem h]
  simp
theorem take_sum_le (l : List Nat) (i : Nat) : (l.take i).sum ≤ l.sum := by
  conv => rhs; rw [← List.take_append_drop i l, List.sum_append]
  omega
noncomputable def K31 : CF := fun f args H => match f, args with
  | 31, [.str s, P, .int .i64 gap] => (unP P).map fun l => (.tup [strI (SizesV s l gap).1, .int .i64 (SizesV s l gap).2], H)
  | _, _ => none
theorem K31_ok : CFok Tryz.prog K31 := by
  intro f args H v H' h
  unfold K31 at h
  split at h
  · obtain ⟨l, h1, h2⟩ := Option.map_eq_some_iff.1 h
    cases h2
    rw [unP_some h1]
    exact Sizes_call _ l _ H
  · cases h
theorem best_walk (s : List UInt8) (l : List (Int × Int)) (gap : Int) : ∃ v H', xfunc (xcallK K31 F 3000 0) 3000 L35 [.str s, pairsI l, .int .i64 gap] ⟨.e, 0⟩ = some (v, H') ∧ v = .tup [.str (BestV s l gap).1, .int .i64 (BestV s l gap).2] := by
  refine xfunc_ofK rfl (by show 3 ≤ 26; omega) ?_
  generalize (⟨.e, 0⟩ : AHeap) = H
  unfold L35
  dsimp only
  by_cases hE : readE s l gap = 0
  · have hv : SizesV s l gap = (szF s (rulesOf l) gap 0 s.length, 0) := by unfold SizesV; rw [if_pos hE]
    have c1 : ∀ {H' : AHeap} {k : Nat}, xcallK K31 F 3000 k 31 [.str s, pairsI l, .int .i64 gap] H' = some (.tup [strI (szF s (rulesOf l) gap 0 s.length), .int .i64 0], H') := fun {H' k} => cfhit (by
      show (unP (pairsI l)).map _ = _
      rw [unP_V, Option.map_some, hv])
    have hb : BestV s l gap = (decS ((szF s (rulesOf l) gap 0 s.length).getD (mostF s (rulesOf l) gap 0 s.length) 0), 0) := by unfold BestV; rw [if_pos hE]
    rw [hb]
    have hlen := szF_len s (rulesOf l) gap 0 s.length
    have hll := (szF_le s (rulesOf l) gap (readE_zero hE).1).1
    generalize mostF s (rulesOf l) gap 0 s.length = M at *
    generalize szF s (rulesOf l) gap 0 s.length = z at *
    have hsub : ∀ {n : Nat} {Hq : AHeap} {K : KL0} {x : XO}, evK K x = some (nA z.length) → XV (xcallK K31 F 3000 0) K Hq n (.bin .sub x (.k (.int .i64 (.ofNat 1)))) = some (nA M, Hq) := fun {n Hq K x} hx => by
      have := k_subN (cf := xcallK K31 F 3000 0) (n := n) (H := Hq) (b := 1) (y := .k (.int .i64 (.ofNat 1))) hx rfl (by omega) (by omega)
      rwa [hlen, Nat.add_sub_cancel] at this
    repeat' (first | refine WK.seq ?_ | refine WK.skip ?_ | refine WK.ret ?_ | (apply WK.reg; (· exact lnn)) | refine WKO.nil ?_ | ((first | apply WKO.op); (· first | exact k_mv rfl | (apply k_call; (· rfl); (· rfl); (· exact c1)) | exact k_lenSI rfl | exact hsub rfl | exact k_iaM rfl rfl (by omega) | exact k_ldP rfl (strC_at (by omega)) | exact opA); (· rfl)) | refine pN ?_ | (apply WK.condF; (· rfl); (· exact dcd)) | fail)
    exact ⟨fun id q => (by cases q), _, rfl, rfl⟩
  · have c1 : ∀ {H' : AHeap} {k : Nat}, xcallK K31 F 3000 k 31 [.str s, pairsI l, .int .i64 gap] H' = some (.tup [strI (SizesV s l gap).1, .int .i64 (SizesV s l gap).2], H') := fun {H' k} => cfhit (by
      show (unP (pairsI l)).map _ = _
      rw [unP_V, Option.map_some])
    have hb : BestV s l gap = ([], readE s l gap) := by unfold BestV; rw [if_neg hE]
    have hz : SizesV s l gap = ([], readE s l gap) := by unfold SizesV; rw [if_neg hE]
    rw [hz] at c1
    rw [hb]
    repeat' (first | refine WK.seq ?_ | refine WK.ret ?_ | (apply WK.reg; (· exact lnn)) | refine WKO.nil ?_ | ((first | apply WKO.op); (· first | exact k_mv rfl | (apply k_call; (· rfl); (· rfl); (· exact c1)) | exact k_neE rfl | exact opA); (· rfl)) | refine pN ?_ | refine pR ?_ | (apply WK.condT; (· rfl); (· exact dcd)) | fail)
    exact ⟨fun id q => (by cases q), _, rfl, rfl⟩
theorem E35 (s : List UInt8) (l : List (Int × Int)) (gap : Int) (H : AHeap) : KE 35 [.str s, pairsI l, .int .i64 gap] H = some (.tup [.str (BestV s l gap).1, .int .i64 (BestV s l gap).2], H) := by
  obtain ⟨v, H', h, rfl⟩ := best_walk s l gap
  have hc := (xfunc_sound mixed (xcallK_sound mixed K31_ok F_ok 3000 0) 3000 (F_ok 35 L35 rfl) h).pure (H := H) (by simp only [AV.frozL, pairs_froz, AV.froz, Bool.and_self]) (Fz.froz rfl)
  obtain ⟨v', q1, q2⟩ := KE_hit hc (fun s' l' g' e => by
    simp only [List.cons.injEq, AV.str.injEq, AV.int.injEq, and_true, true_and] at e
    obtain ⟨e1, e2, e3⟩ := e
    rw [e1, pairsI_inj e2, e3])
  rw [q1, q2 s l gap rfl]
end Go.Proofs.YtfcgofffalmdfaaGreatDoor.PA
namespace Go.Proofs.YtfcgofffalmdfaaGreatDoor.PA
open Go Go.Eng Go.Proofs
def zc (n : Nat) : List AV := [.bool false, rowZ (dz n)]
def zC (l : List Nat) : List AV := (l.map zc).flatten
theorem zC_len (l : List Nat) : (zC l).length = l.length * 2 := by
  induction l with
  | nil => rfl
  | cons n l ih =>
    simp only [zC, List.map_cons, List.flatten_cons, List.length_append] at ih ⊢
    rw [ih]
    simp [zc]
    omega
theorem zC_app (a b : List Nat) : zC (a ++ b) = zC a ++ zC b := by simp [zC]
theorem zC_one (n : Nat) : zC [n] = zc n := by simp [zC]
theorem zC_at : ∀ (l : List Nat) (j : Nat), j < l.length → (zC l)[j * 2]? = some (.bool false) ∧ (zC l)[j * 2 + 1]? = some (rowZ (dz (l.getD j 0)))
  | [], j, h => by simp at h
  | x :: l, 0, h => ⟨rfl, rfl⟩
  | x :: l, j + 1, h => by
    obtain ⟨h1, h2⟩ := zC_at l j (by simpa using h)
    have e : zC (x :: l) = zc x ++ zC l := by simp [zC]
    rw [e]
    refine ⟨?_, ?_⟩
    · rw [List.getElem?_append_right (by simp [zc]; omega), ← h1]
      congr 1
      simp [zc]
      omega
    · rw [List.getElem?_append_right (by simp [zc]; omega), List.getD_cons_succ, ← h2]
      congr 1
      simp [zc]
      omega
theorem zC_set : ∀ (l : List Nat) (j n : Nat), j < l.length → overA (zC l) (j * 2) (zc n) = zC (l.set j n)
  | [], j, n, h => by simp at h
  | x :: l, 0, n, h => by
    have e : ∀ y, zC (y :: l) = zc y ++ zC l := fun y => by simp [zC]
    rw [List.set_cons_zero, e, e]
    simp [overA, zc]
  | x :: l, j + 1, n, h => by
    have ih := zC_set l j n (by simpa using h)
    have e : ∀ y l, zC (y :: l) = zc y ++ zC l := fun y l => by simp [zC]
    rw [List.set_cons_succ, e, e, ← ih]
    unfold overA
    have h2 : (zc x).length = 2 := rfl
    have h3 : (zc n).length = 2 := rfl
    rw [show (j + 1) * 2 = 2 + j * 2 by omega]
    rw [show 2 + j * 2 = (zc x).length + j * 2 by rw [h2], List.take_length_add_append, List.append_assoc, List.append_assoc, Nat.add_assoc, List.drop_length_add_append, List.append_assoc]
section
variable {cf : CF} {n : Nat} {H H' : AHeap} {l : KL0} {x y a : XO} {X v : AV} {b : List Nat} {j : Nat} {r : List XOper} {R : KL0 → AHeap → Prop}
theorem zC_take {b : List Nat} {j : Nat} (h : j < b.length) : ((zC b).drop (j * 2)).take 2 = [.bool false, rowZ (dz (b.getD j 0))] := by
  obtain ⟨h1, h2⟩ := zC_at b j h
  have hl := zC_len b
  apply List.ext_getElem?
  intro i
  rw [List.getElem?_take, List.getElem?_drop]
  match i with
  | 0 => rw [if_pos (by omega), Nat.add_zero, h1]; rfl
  | 1 => rw [if_pos (by omega), h2]; rfl
  | i + 2 => rw [if_neg (by omega)]; rfl
theorem k_ldZI (hx : evK l x = some (adE X (j * 2))) (hE : RdR 2 H X b.length (zC b)) (hm : H'.m = H.m) (hj : j < b.length) : XV cf l H' n (.load (some 2) x) = some (zN (b.getD j 0), H') := by
  obtain ⟨c, h1, h2⟩ := hE.at (H' := H') (p := j * 2) (fun i _ => by unfold AHeap.get; rw [hm]) (by omega)
  refine k_load hx ?_
  have hl : 2 ≤ b.length * 2 - j * 2 := by omega
  have h3 : c.take 2 = [.bool false, rowZ (dz (b.getD j 0))] := by
    rw [← zC_take hj, ← h2, List.take_take, Nat.min_eq_left hl]
  simp only [loadA, h1]
  have hlen : 2 ≤ c.length := by
    have : (c.take 2).length = 2 := by rw [h3]; rfl
    rw [List.length_take] at this
    omega
  rw [if_pos hlen, h3]
theorem WKO.stZI {w : Nat} (hR : Row 2 H v b.length (zC b)) (hm : H'.m = H.m) (hn : H.next ≤ H'.next) (hj : j < b.length) (ha : evK l a = some (adE v (j * 2))) (hx : evK l x = some (zN w))
    (k : ∀ H1, Row 2 H1 v b.length (zC (b.set j w)) → H1.next = H'.next → (∀ q, v.own ≠ some q → H1.get q = H'.get q) → WKO cf r (n + 1) l H1 R) : WKO cf (⟨none, .store 2 a x, none⟩ :: r) n l H' R := by
  obtain ⟨h0, ⟨rfl, h⟩ | ⟨i, full, rfl, hg, hf, hfl, hi⟩⟩ := hR
  · omega
  · have hg' : H'.get i = some (.cells full (some 2)) := by unfold AHeap.get; rw [hm]; exact hg
    have ha' : evK l a = some (.ptr i (j * 2)) := by
      rw [ha]
      show some (AV.ptr i (0 + j * 2)) = _
      rw [Nat.zero_add]
    have hst := op_store (cf := cf) (m := n) (n := 2) (i := i) (o := j * 2) (v := zN w) (H := H') (ev := evK l) ha' hx hg' rfl (by simp only [AV.cells, List.all_cons, List.all_nil, rowZ_one, Bool.and_true]; rfl) (by omega)
    refine WKO.opn (k_any hst) (by simp [allSm, XOp.opnds, ha, hx]) (k _ ⟨by rw [zC_len, List.length_set], .inr ⟨i, _, rfl, by rw [AHeap.get_set, if_pos rfl], ?_, ?_, by rw [next_set]; omega⟩⟩ rfl (fun q hq => by rw [AHeap.get_set, if_neg (fun e => hq (by rw [e]; rfl))]))
    · rw [← zC_set _ _ _ hj, ← hf]
      have e : (zN w).cells = zc w := rfl
      rw [e]
      have h2 : (zc w).length = 2 := rfl
      unfold overA
      rw [h2, List.append_assoc, List.take_append, List.take_append, List.length_take, h2]
      rw [Nat.min_eq_left (show j * 2 ≤ full.length by omega)]
      rw [List.take_take, List.take_take, Nat.min_comm, List.take_of_length_le (show (zc w).length ≤ b.length * 2 - j * 2 by rw [h2]; omega), List.drop_take, Nat.sub_sub, List.append_assoc]
    · unfold overA
      have h2 : (zN w).cells.length = 2 := rfl
      rw [List.length_append, List.length_append, List.length_take, List.length_drop, h2]
      omega
theorem WKO.apZI {d1 d2 w : Nat} (hR : RowE 2 H v b.length (zC b)) (hm : H'.m = H.m) (hn : H.next ≤ n) (hlt : n < H'.next) (hl : b.length < 1000000) (hy : evK l y = some (zN w)) (hx : evK ((d1, .sl n 0 1 1) :: l) x = some v)
    (k : ∀ v' H1, RowE 2 H1 v' (b ++ [w]).length (zC (b ++ [w])) → H'.next ≤ H1.next → (∀ q, q < H.next → v.own ≠ some q → H1.get q = H.get q) → (∀ i, v'.own = some i → v.own = some i ∨ H.next ≤ i) → WKO cf r (n + 1 + 1) ((d2, v') :: (d1, .sl n 0 1 1) :: l) H1 R) :
    WKO cf (⟨some d1, .bslice [.bool false, .nils] [(0, 2, y)] 1, none⟩ :: ⟨some d2, .app 2 32 x (.t d1), none⟩ :: r) n l H' R := by
  have hR' : RowE 2 H' v b.length (zC b) := hR.frame (by omega) (fun i _ => by unfold AHeap.get; rw [hm])
  refine WKO.append1E (m := b.length) (v := v) (cs := zC b) (new := zc w) hR' hx ?_ (by simp [allSm, XOp.opnds, hy]) (by omega) (by omega) (by decide) rfl (by simp only [zc, List.all_cons, List.all_nil, rowZ_one, Bool.and_true]; rfl) hlt (fun e => ?_) (fun v' H1 q1 q2 q3 q4 => k v' H1 ?_ q2 (fun q h1 h2 => ?_) (fun i hi => ?_))
  · simp only [evParts, hy, bind, Option.bind_some]
    rfl
  · have := hR.own_lt e
    omega
  · rw [zC_app, zC_one, List.length_append, List.length_singleton]
    exact .inl q1
  · rw [q3 q (by omega) (by omega) h2]
    unfold AHeap.get
    rw [hm]
  · rcases q4 i hi with q | q
    · exact .inl q
    · exact .inr (by omega)
end
theorem WKO.apL {cf : CF} {n d i len bytes z : Nat} {H' : AHeap} {l : KL0} {x y : XO} {u : AV} {cs new : List AV} {R : KL0 → AHeap → Prop} {r : List XOper} (hx : evK l x = some u) (hy : evK l y = some (.sl i 0 1 1)) (hR : RowE z H' u len cs) (hg : H'.get i = some (.cells new none)) (hz : 0 < z) (hnl : new.length = z) (ho : new.all AV.oneCell = true) (hl : len < 1000000) (hb : bytes ≤ 2 ^ 16)
    (k : ∀ v' H1, RowE z H1 v' (len + 1) (cs ++ new) → H'.next ≤ H1.next → (∀ q, q < H'.next → u.own ≠ some q → H1.get q = H'.get q) → (∀ q, v'.own = some q → u.own = some q ∨ H'.next ≤ q) → WKO cf r (n + 1) ((d, v') :: l) H1 R) : WKO cf (⟨some d, .app z bytes x y, none⟩ :: r) n l H' R := by
  obtain ⟨v', H1, e1, R1, hn1, hg1, ho1⟩ := hR.app0 (bytes := bytes) (n := 1) (y := .sl i 0 1 1) (new := new) hz (by omega) hb rfl (by simp only [srcA, hg, Nat.zero_add, Nat.one_mul, List.drop_zero]; rw [if_pos (by omega), List.take_of_length_le (by omega)]) (by omega) ho
  exact WKO.op (v := v') (H1 := H1) (k_any (by simp only [xval, xop, hx, hy, e1])) (by simp [allSm, XOp.opnds, hx, hy]) (k v' H1 R1 hn1 hg1 ho1)
theorem _root_.Go.Eng.HF.re {H0 H : AHeap} {mod : List Nat} {T : Nat} {fs : List (Nat × AObj)} {z len : Nat} {X : AV} {cs : List AV} (hF : HF H0 mod T fs H) (h : RowE z H0 X len cs) (hm : ∀ i, X.own = some i → i ∉ mod) : RowE z H X len cs := h.frame (Nat.le_trans hF.base hF.le) (fun i hi => hF.fr i (h.own_lt hi) (hm i hi))
theorem _root_.Go.Eng.HF.rd {H0 H : AHeap} {T : Nat} {fs : List (Nat × AObj)} {z len : Nat} {X : AV} {cs : List AV} (hF : HF H0 [] T fs H) (h : RdR z H0 X len cs) : RdR z H X len cs := h.frame (Nat.le_trans hF.base hF.le) (fun i hi => hF.fr i (h.own_lt hi) (by simp))
end Go.Proofs.YtfcgofffalmdfaaGreatDoor.PA
namespace Go.Proofs.YtfcgofffalmdfaaGreatDoor.PA
open Go Go.Eng Go.Proofs
def sumP (a b : List Nat) (i : Nat) : List Nat := (List.range i).map fun j => a.getD j 0 + b.getD j 0
theorem sumP_succ (a b : List Nat) (i : Nat) : sumP a b (i + 1) = sumP a b i ++ [a.getD i 0 + b.getD i 0] := by
  unfold sumP
  rw [List.range_succ, List.map_append]
  rfl
theorem sumP_len (a b : List Nat) (i : Nat) : (sumP a b i).length = i := by simp [sumP]
def KpN (H H' : AHeap) (v : AV) : Prop := H.next ≤ H'.next ∧ (∀ q, q < H.next → H'.get q = H.get q) ∧ ∀ q, v.own = some q → H.next ≤ q
set_option maxHeartbeats 4000000 in
theorem plusS_ok {cf : CF} {fuel : Nat} {H : AHeap} {X Y : AV} {a b : List Nat} (hX : RdR 2 H X a.length (zC a)) (hY : RdR 2 H Y b.length (zC b)) (hla : a.length < 400) (hlb : b.length < 400) (hf : 1000 < fuel)
    (h52 : ∀ H, cf 52 [nA 0] H = some (zN 0, H)) (h66 : ∀ m n, (m = 0 ∨ m ∈ a) → n ∈ a ∨ n ∈ b → ∀ H, cf 66 [zN m, zN n] H = some (zN (m + n), H)) :
    ∃ v H', xfunc cf fuel L54 [X, Y] H = some (v, H') ∧ RowE 2 H' v (sumP a b (max a.length b.length)).length (zC (sumP a b (max a.length b.length))) ∧ KpN H H' v := by
  refine xfunc_ofK rfl (by show 2 ≤ 44; omega) ?_
  have hF := HF.start H
  have hga : ∀ i, i < a.length → a.getD i 0 ∈ a := fun i h => by rw [List.getD_eq_getElem?_getD, List.getElem?_eq_getElem h]; exact List.getElem_mem h
  have hgb : ∀ i, i < b.length → b.getD i 0 ∈ b := fun i h => by rw [List.getD_eq_getElem?_getD, List.getElem?_eq_getElem h]; exact List.getElem_mem h
  unfold L54
  dsimp only
  repeat' (first | refine WK.seq ?_ | refine WK.block ?_ | (apply WK.reg; (· exact lnn)) | (apply WKO.bsO; (· rfl); (· rfl); (· assumption); (· rfl); (· exact nxx); (· exact nxx); (· exact nxx); intro _ _ _) | refine WKO.nil ?_ | ((first | apply WKO.op); (· first | exact k_mv rfl); (· rfl)) | refine pN ?_ | fail)
  rename_i H1 hF1 hn1
  refine WK.loop (α := Nat × AV) (fun s => [(0, X), (1, Y), (5, s.2), (6, nA s.1)]) (fun s H' => KpN H H' s.2 ∧ RowE 2 H' s.2 s.1 (zC (sumP a b s.1)) ∧ s.1 ≤ max a.length b.length) (fun s => max a.length b.length - s.1) (0, .sl (H.bump 1).next 0 0 0) (.cons rfl <| .cons rfl <| .cons rfl <| .cons rfl <| .nil _)
    ⟨⟨by have := hF1.base; have := hF1.le; simp only [next_bump]; omega, fun q hq => (bump_get rfl q).trans (hF1.fr q hq (by simp)), fun q hq => by simp only [AV.own, Option.some.injEq, next_bump] at hq; omega⟩, .inr ⟨rfl, rfl, _, rfl, by have := hF1.lt _ (.head _); have := hF1.le; simp only [next_bump] at *; omega, (bump_get rfl _).trans (hF1.obj _ (.head _))⟩, Nat.zero_le _⟩ (by show max a.length b.length - 0 < fuel; omega) ?_
  rintro ⟨i, u⟩ H3 ⟨⟨k1, k2, k3⟩, hR, hi⟩
  simp only at k1 k2 k3 hR hi ⊢
  have hX3 := hX.frame k1 (fun q hq => k2 q (hX.own_lt hq))
  have hY3 := hY.frame k1 (fun q hq => k2 q (hY.own_lt hq))
  clear hF hF1
  have hF3 := HF.start H3
  have fin : ∀ (Hz : AHeap) (T : Nat) (fs : List (Nat × AObj)) (v' : AV) (H1 : AHeap) (w : Nat), HF H3 [] T fs Hz → w = a.getD i 0 + b.getD i 0 → RowE 2 H1 v' (i + 1) (zC (sumP a b i) ++ zc w) → Hz.next ≤ H1.next → (∀ q, q < Hz.next → u.own ≠ some q → H1.get q = Hz.get q) → (∀ q, v'.own = some q → u.own = some q ∨ Hz.next ≤ q) → KpN H (H1.bump 3) v' ∧ RowE 2 (H1.bump 3) v' (i + 1) (zC (sumP a b (i + 1))) := fun Hz T fs v' H1 w hFz hw hR1 hn1 hk1 ho1 => by
    have hb := hFz.base
    have hl := hFz.le
    refine ⟨⟨by simp only [next_bump]; omega, fun q hq => (bump_get rfl q).trans ((hk1 q (by omega) (fun e => by have := k3 q e; omega)).trans ((hFz.fr q (by omega) (by simp)).trans (k2 q hq))), fun q hq => ?_⟩, ?_⟩
    · rcases ho1 q hq with e | e
      · exact k3 q e
      · omega
    · rw [sumP_succ, zC_app, zC_one, ← hw]
      exact hR1.frame (by simp only [next_bump]; omega) (fun _ _ => rfl)
  repeat' (first | refine WK.seq ?_ | refine WK.skip ?_ | refine WK.exit ?_ | refine WK.block ?_ | (apply WK.reg; (· exact lnn)) | (apply WK.regd0; (· exact lnn)) | (apply WKO.stO0; (· rfl); (· rfl); (· assumption); (· rfl); (· exact nxx); (· first | exact .inr nxx); (· rfl); (· rfl); (· exact Nat.le_of_ble_eq_true rfl); intro _ _ _) | (apply WKO.alO; (· assumption); (· rfl); (· exact nxx); (· exact nxx); (· exact nxx); intro _ _ _) | (apply WKO.bsO; (· rfl); (· rfl); (· assumption); (· rfl); (· exact nxx); (· exact nxx); (· exact nxx); intro _ _ _) | refine WKO.nil ?_ | ((first | apply WKO.op); (· first | exact k_mv rfl | exact k_lenE rfl hX | exact k_lenE rfl hY | exact k_mxN rfl rfl | (apply k_call; (· rfl); (· rfl); (· exact h52 _)) | exact k_iaE rfl rfl hX (by omega) | exact k_iaE rfl rfl hY (by omega) | (apply k_ldZI; (· rfl); (· exact HF.rd (by assumption) hX3); (· rfl); (· omega)) | (apply k_ldZI; (· rfl); (· exact HF.rd (by assumption) hY3); (· rfl); (· omega)) | (apply k_call; (· rfl); (· rfl); (· first | exact h66 0 (a.getD i 0) (.inl rfl) (.inl (hga _ (by omega))) _ | exact h66 (0 + a.getD i 0) (b.getD i 0) (.inr (by rw [Nat.zero_add]; exact hga _ (by omega))) (.inr (hgb _ (by omega))) _ | exact h66 0 (b.getD i 0) (.inl rfl) (.inr (hgb _ (by omega))) _)) | (apply k_ldA; (· rfl); (· assumption); (· rfl); (· exact mmb); (· first | rfl)) | exact opA); (· rfl)) | refine pN ?_ | refine pX ?_ | refine bX ?_ | (apply WK.condT; (· rfl); (· exact dcd)) | (apply WK.condD; (· rfl); all_goals intro _) | fail)
  · rename_i Hz hFz hnz
    refine WKO.apL (new := zc (0 + a.getD i 0 + b.getD i 0)) rfl rfl (hFz.re hR (by simp)) (hFz.obj (_, _) (.head _)) (by decide) rfl rfl (by omega) (by decide) ?_
    intro v' H1 r1 n1 g1 o1
    repeat' (first | (apply WK.reg; (· exact lnn)) | refine WKO.nil ?_ | ((first | apply WKO.op); (· first | exact k_mv rfl | exact opA); (· rfl)) | refine pN ?_ | refine bN ?_ | fail)
    have q := fin Hz _ _ v' H1 _ hFz (by rw [Nat.zero_add]) r1 n1 g1 o1
    exact ⟨(i + 1, v'), (.cons rfl <| .cons rfl <| .cons rfl <| .cons rfl <| .nil _), ⟨q.1, q.2, by show i + 1 ≤ max a.length b.length; omega⟩, by show max a.length b.length - (i + 1) < max a.length b.length - i; omega⟩
  · rename_i Hz hFz hnz
    refine WKO.apL (new := zc (0 + a.getD i 0)) rfl rfl (hFz.re hR (by simp)) (hFz.obj (_, _) (.head _)) (by decide) rfl rfl (by omega) (by decide) ?_
    intro v' H1 r1 n1 g1 o1
    repeat' (first | (apply WK.reg; (· exact lnn)) | refine WKO.nil ?_ | ((first | apply WKO.op); (· first | exact k_mv rfl | exact opA); (· rfl)) | refine pN ?_ | refine bN ?_ | fail)
    have q := fin Hz _ _ v' H1 _ hFz (by rw [Nat.zero_add, getZ_none (l := b) (i := i) (by assumption), Nat.add_zero]) r1 n1 g1 o1
    exact ⟨(i + 1, v'), (.cons rfl <| .cons rfl <| .cons rfl <| .cons rfl <| .nil _), ⟨q.1, q.2, by show i + 1 ≤ max a.length b.length; omega⟩, by show max a.length b.length - (i + 1) < max a.length b.length - i; omega⟩
  · rename_i Hz hFz hnz
    refine WKO.apL (new := zc (0 + b.getD i 0)) rfl rfl (hFz.re hR (by simp)) (hFz.obj (_, _) (.head _)) (by decide) rfl rfl (by omega) (by decide) ?_
    intro v' H1 r1 n1 g1 o1
    repeat' (first | (apply WK.reg; (· exact lnn)) | refine WKO.nil ?_ | ((first | apply WKO.op); (· first | exact k_mv rfl | exact opA); (· rfl)) | refine pN ?_ | refine bN ?_ | fail)
    have q := fin Hz _ _ v' H1 _ hFz (by rw [getZ_none (l := a) (i := i) (by assumption)]) r1 n1 g1 o1
    exact ⟨(i + 1, v'), (.cons rfl <| .cons rfl <| .cons rfl <| .cons rfl <| .nil _), ⟨q.1, q.2, by show i + 1 ≤ max a.length b.length; omega⟩, by show max a.length b.length - (i + 1) < max a.length b.length - i; omega⟩
  · refine ⟨fun _ => ?_, fun q => absurd rfl q⟩
    have him : i = max a.length b.length := by omega
    repeat' (first | refine WK.seq ?_ | refine WK.ret ?_ | (apply WK.reg; (· exact lnn)) | refine WKO.nil ?_ | ((first | apply WKO.op); (· first | exact k_mv rfl); (· rfl)) | refine pN ?_ | fail)
    exact ⟨fun id q => (by cases q), _, rfl, by rw [sumP_len, ← him]; exact hR.frame (by simp only [next_bump]; omega) (fun _ _ => rfl), by simp only [next_bump]; omega, fun q hq => (bump_get rfl q).trans (k2 q hq), k3⟩
theorem conv_get (a b : List Nat) (i j : Nat) : (timesP a b (i + 1)).getD j 0 = (timesP a b i).getD j 0 + if i ≤ j then a.getD i 0 * b.getD (j - i) 0 else 0 := by
  rw [timesP_succ, plusF_get]
  congr 1
  split
  · generalize a.getD i 0 = c
    rw [List.getD_eq_getElem?_getD, List.getElem?_map, List.getD_eq_getElem?_getD]
    cases b[j - i]? with
    | none => simp
    | some x => rfl
  · rfl
structure TmI (a b : List Nat) (i k : Nat) (N : List Nat) : Prop where
  l : N.length = a.length + b.length
  z : N.getD 0 0 = 0
  v : ∀ j, N.getD (j + 1) 0 = (timesP a b i).getD j 0 + if i ≤ j ∧ j - i < k then a.getD i 0 * b.getD (j - i) 0 else 0
theorem TmI.zero (a b : List Nat) : TmI a b 0 0 (List.replicate (a.length + b.length) 0) := by
  have hr : ∀ p, (List.replicate (a.length + b.length) 0).getD p 0 = 0 := fun p => by
    rw [List.getD_eq_getElem?_getD, List.getElem?_replicate]
    split <;> rfl
  exact ⟨by simp, hr 0, fun j => by rw [hr, if_neg (by omega)]; rfl⟩
theorem TmI.row {a b : List Nat} {i : Nat} {N : List Nat} (h : TmI a b i b.length N) : TmI a b (i + 1) 0 N := by
  refine ⟨h.l, h.z, fun j => ?_⟩
  rw [h.v j, conv_get, if_neg (show ¬ (i + 1 ≤ j ∧ j - (i + 1) < 0) by omega), Nat.add_zero]
  congr 1
  by_cases h1 : i ≤ j
  · by_cases h2 : j - i < b.length
    · rw [if_pos ⟨h1, h2⟩, if_pos h1]
    · rw [if_neg (by omega), if_pos h1, getZ_none h2, Nat.mul_zero]
  · rw [if_neg (by omega), if_neg h1]
theorem TmI.step {a b : List Nat} {i k : Nat} {N : List Nat} (h : TmI a b i k N) (hi : i < a.length) (hk : k < b.length) : TmI a b i (k + 1) (N.set (i + k + 1) (N.getD (i + k + 1) 0 + a.getD i 0 * b.getD k 0)) := by
  have hl := h.l
  refine ⟨by rw [List.length_set, hl], by rw [getZ_set _ _ _ _ (by omega), if_neg (by omega), h.z], fun j => ?_⟩
  rw [getZ_set _ _ _ _ (by omega)]
  by_cases e : j = i + k
  · subst e
    rw [if_pos rfl, h.v, if_neg (by omega), if_pos (by omega), Nat.add_sub_cancel_left]
    rfl
  · rw [if_neg (by omega), h.v]
    congr 1
    by_cases h1 : i ≤ j ∧ j - i < k
    · rw [if_pos h1, if_pos (by omega)]
    · rw [if_neg h1, if_neg (by omega)]
theorem TmI.le {a b : List Nat} {i k : Nat} {N : List Nat} (h : TmI a b i k N) (hi : i < a.length) (hk : k < b.length) : N.getD (i + k + 1) 0 + a.getD i 0 * b.getD k 0 ≤ a.sum * b.sum := by
  have h1 := h.v (i + k)
  rw [if_neg (by omega), Nat.add_zero] at h1
  have h2 := conv_get a b i (i + k)
  rw [if_pos (by omega), Nat.add_sub_cancel_left] at h2
  have h3 := Nat.le_trans (getD_le (timesP a b (i + 1)) (i + k)) (timesP_le a b (i + 1) hi)
  rw [h2] at h3
  generalize a.getD i 0 * b.getD k 0 = p at *
  omega
theorem TmI.done {a b : List Nat} {N : List Nat} (h : TmI a b a.length 0 N) (ha : 0 < a.length) (hb : 0 < b.length) : N = 0 :: timesF a b := by
  have hl := h.l
  have htl := timesF_len a b
  rw [if_neg (by omega)] at htl
  apply List.ext_getElem
  · rw [List.length_cons, htl]; omega
  · intro j h1 h2
    have e : N.getD j 0 = (0 :: timesF a b).getD j 0 := by
      cases j with
      | zero => exact h.z
      | succ j =>
        rw [h.v j, if_neg (by omega), List.getD_cons_succ]
        rfl
    rwa [List.getD_eq_getElem?_getD, List.getElem?_eq_getElem h1, List.getD_eq_getElem?_getD, List.getElem?_eq_getElem h2] at e
set_option maxHeartbeats 8000000 in
theorem timesS_ok {cf : CF} {fuel : Nat} {H : AHeap} {X Y : AV} {a b : List Nat} (hX : RdR 2 H X a.length (zC a)) (hY : RdR 2 H Y b.length (zC b)) (hla : a.length < 400) (hlb : b.length < 400) (ha0 : 0 < a.length) (hb0 : 0 < b.length) (hf : 1000 < fuel) (hbig : a.sum * b.sum < bigN) (hsa : a.sum < bigN) (hsb : b.sum < bigN)
    (h52 : ∀ H, cf 52 [nA 0] H = some (zN 0, H)) (h66 : ∀ m n, m + n < bigN → ∀ H, cf 66 [zN m, zN n] H = some (zN (m + n), H)) (h72 : ∀ m n, m < bigN → n < bigN → ∀ H, cf 72 [zN m, zN n] H = some (zN (m * n), H)) :
    ∃ v H', xfunc cf fuel L55 [X, Y] H = some (v, H') ∧ RowE 2 H' v (0 :: timesF a b).length (zC (0 :: timesF a b)) ∧ KpN H H' v := by
  refine xfunc_ofK rfl (by show 2 ≤ 59; omega) ?_
  have hF := HF.start H
  have hga : ∀ i, a.getD i 0 < bigN := fun i => Nat.lt_of_le_of_lt (getD_le _ _) hsa
  have hgb : ∀ i, b.getD i 0 < bigN := fun i => Nat.lt_of_le_of_lt (getD_le _ _) hsb
  unfold L55
  dsimp only
  repeat' (first | refine WK.seq ?_ | refine WK.block ?_ | (apply WK.reg; (· exact lnn)) | (apply WKO.bsO; (· rfl); (· rfl); (· assumption); (· rfl); (· exact nxx); (· exact nxx); (· exact nxx); intro _ _ _) | refine WKO.nil ?_ | ((first | apply WKO.op); (· first | exact k_mv rfl); (· rfl)) | refine pN ?_ | fail)
  rename_i H1 hF1 hn1
  refine WK.loop (α := Nat × AV) (fun s => [(0, X), (1, Y), (5, s.2), (6, nA s.1)]) (fun s H' => KpN H H' s.2 ∧ RowE 2 H' s.2 (List.replicate s.1 0).length (zC (List.replicate s.1 0)) ∧ s.1 ≤ a.length + b.length) (fun s => a.length + b.length - s.1) (0, .sl (H.bump 1).next 0 0 0) (.cons rfl <| .cons rfl <| .cons rfl <| .cons rfl <| .nil _)
    ⟨⟨by have := hF1.base; have := hF1.le; simp only [next_bump]; omega, fun q hq => (bump_get rfl q).trans (hF1.fr q hq (by simp)), fun q hq => by simp only [AV.own, Option.some.injEq, next_bump] at hq; omega⟩, .inr ⟨rfl, rfl, _, rfl, by have := hF1.lt _ (.head _); have := hF1.le; simp only [next_bump] at *; omega, (bump_get rfl _).trans (hF1.obj _ (.head _))⟩, Nat.zero_le _⟩ (by show a.length + b.length - 0 < fuel; omega) ?_
  rintro ⟨i, u⟩ H3 ⟨⟨k1, k2, k3⟩, hR, hi⟩
  simp only at k1 k2 k3 hR hi ⊢
  clear hF hF1
  repeat' (first | refine WK.seq ?_ | refine WK.skip ?_ | refine WK.exit ?_ | refine WK.block ?_ | (apply WK.reg; (· exact lnn)) | refine WKO.nil ?_ | ((first | apply WKO.op); (· first | exact k_mv rfl | exact k_lenE rfl hX | exact k_lenE rfl hY | (apply k_call; (· rfl); (· rfl); (· exact h52 _)) | exact opA); (· rfl)) | refine pN ?_ | refine pX ?_ | refine bX ?_ | (apply WK.condD; (· rfl); all_goals intro _) | fail)
  · refine WKO.apZI (w := 0) hR rfl (by simp only [next_bump]; omega) (by simp only [next_bump]; omega) (by rw [List.length_replicate]; omega) rfl rfl ?_
    intro v' H4 r4 n4 g4 o4
    repeat' (first | (apply WK.reg; (· exact lnn)) | refine WKO.nil ?_ | ((first | apply WKO.op); (· first | exact k_mv rfl | exact opA); (· rfl)) | refine pN ?_ | refine bN ?_ | fail)
    have e : List.replicate i 0 ++ [0] = List.replicate (i + 1) 0 := List.replicate_succ'.symm
    rw [e] at r4
    refine ⟨(i + 1, v'), (.cons rfl <| .cons rfl <| .cons rfl <| .cons rfl <| .nil _), ⟨⟨by simp only [next_bump] at *; omega, fun q hq => (bump_get rfl q).trans ((g4 q (by omega) (fun w => by have := k3 q w; omega)).trans (k2 q hq)), fun q hq => ?_⟩, r4.frame (by simp only [next_bump]; omega) (fun _ _ => rfl), by show i + 1 ≤ a.length + b.length; omega⟩, by show a.length + b.length - (i + 1) < a.length + b.length - i; omega⟩
    rcases o4 q hq with w | w
    · exact k3 q w
    · omega
  · refine ⟨fun _ => ?_, fun q => absurd rfl q⟩
    have hil : i = a.length + b.length := by omega
    subst hil
    have hRw : Row 2 H3 u (List.replicate (a.length + b.length) 0).length (zC (List.replicate (a.length + b.length) 0)) := by
      rcases hR with q | ⟨q, _⟩
      · exact q
      · rw [List.length_replicate] at q; omega
    repeat' (first | refine WK.seq ?_ | refine WK.block ?_ | (apply WK.reg; (· exact lnn)) | refine WKO.nil ?_ | ((first | apply WKO.op); (· first | exact k_mv rfl); (· rfl)) | refine pN ?_ | fail)
    refine WK.loop (α := Nat × List Nat) (fun s => [(0, X), (1, Y), (5, u), (7, nA s.1)]) (fun s H' => KpN H H' u ∧ Row 2 H' u s.2.length (zC s.2) ∧ TmI a b s.1 0 s.2 ∧ s.1 ≤ a.length) (fun s => a.length - s.1) (0, List.replicate (a.length + b.length) 0) (.cons rfl <| .cons rfl <| .cons rfl <| .cons rfl <| .nil _)
      ⟨⟨by simp only [next_bump]; omega, fun q hq => (bump_get rfl q).trans (k2 q hq), k3⟩, hRw.frame (by simp only [next_bump]; omega) (fun _ _ => rfl), TmI.zero a b, Nat.zero_le _⟩ (by show a.length - 0 < fuel; omega) ?_
    rintro ⟨i, N⟩ H5 ⟨⟨m1, m2, m3⟩, hR5, hI, hi5⟩
    simp only at m1 m2 m3 hR5 hI hi5 ⊢
    clear hR hRw
    repeat' (first | refine WK.seq ?_ | refine WK.skip ?_ | refine WK.exit ?_ | refine WK.block ?_ | (apply WK.reg; (· exact lnn)) | refine WKO.nil ?_ | ((first | apply WKO.op); (· first | exact k_mv rfl | exact k_lenE rfl hX | exact opA); (· rfl)) | refine pN ?_ | refine pX ?_ | refine bX ?_ | (apply WK.condD; (· rfl); all_goals intro _) | fail)
    · refine WK.loop (α := Nat × List Nat) (fun s => [(0, X), (1, Y), (5, u), (7, nA i), (8, nA s.1)]) (fun s H' => KpN H H' u ∧ Row 2 H' u s.2.length (zC s.2) ∧ TmI a b i s.1 s.2 ∧ s.1 ≤ b.length) (fun s => b.length - s.1) (0, N) (.cons rfl <| .cons rfl <| .cons rfl <| .cons rfl <| .cons rfl <| .nil _)
        ⟨⟨by simp only [next_bump]; omega, fun q hq => (bump_get rfl q).trans (m2 q hq), m3⟩, hR5.frame (by simp only [next_bump]; omega) (fun _ _ => rfl), hI, Nat.zero_le _⟩ (by show b.length - 0 < fuel; omega) ?_
      rintro ⟨k, M⟩ H6 ⟨⟨n1, n2, n3⟩, hR6, hJ, hk6⟩
      simp only at n1 n2 n3 hR6 hJ hk6 ⊢
      clear hR5
      have hMl := hJ.l
      have hX6 := hX.frame n1 (fun q hq => n2 q (hX.own_lt hq))
      have hY6 := hY.frame n1 (fun q hq => n2 q (hY.own_lt hq))
      have hU6 : RdR 2 H6 u M.length (zC M) := RdR.of (.inl hR6)
      repeat' (first | refine WK.seq ?_ | refine WK.skip ?_ | refine WK.exit ?_ | refine WK.block ?_ | (apply WK.reg; (· exact lnn)) | refine WKO.nil ?_ | ((first | apply WKO.op); (· first | exact k_mv rfl | exact k_lenE rfl hY | exact opA); (· rfl)) | refine pN ?_ | refine pX ?_ | refine bN ?_ | refine bX ?_ | (apply WK.condD; (· rfl); all_goals intro _) | fail)
      · rename_i hi7 hk7
        have hle := hJ.le hi7 hk7
        refine WK.regC1 23 rfl rfl rfl ?_
        dsimp only [List.take_succ_cons, List.take_zero]
        repeat' (first | refine WKC.nil ?_ | ((first | apply WKC.op); (· first | exact k_mv rfl | exact k_iaE rfl rfl hU6 (by omega) | exact k_iaE rfl rfl hX (by omega) | exact k_iaE rfl rfl hY (by omega) | (apply k_ldZI; (· rfl); (· exact hU6); (· rfl); (· omega)) | (apply k_ldZI; (· rfl); (· exact hX6); (· rfl); (· omega)) | (apply k_ldZI; (· rfl); (· exact hY6); (· rfl); (· omega)) | (apply k_call; (· rfl); (· rfl); (· first | exact h72 _ _ (hga i) (hgb k) _ | exact h66 _ _ (Nat.lt_of_le_of_lt hle hbig) _)) | exact opA); (· rfl)) | fail)
        refine WKO.stZI (b := M) (j := i + k + 1) (w := M.getD (i + k + 1) 0 + a.getD i 0 * b.getD k 0) hR6 rfl (by simp only [next_bump]; omega) (by omega) rfl rfl ?_
        intro H7 r7 nx7 g7
        repeat' (first | (apply WK.reg; (· exact lnn)) | refine WKO.nil ?_ | ((first | apply WKO.op); (· first | exact k_mv rfl | exact opA); (· rfl)) | refine pN ?_ | refine bN ?_ | fail)
        refine ⟨(k + 1, _), (.cons rfl <| .cons rfl <| .cons rfl <| .cons rfl <| .cons rfl <| .nil _), ⟨⟨by simp only [next_bump] at *; omega, fun q hq => (bump_get rfl q).trans ((g7 q (fun w => by have := n3 q w; omega)).trans (n2 q hq)), n3⟩, ?_, hJ.step hi7 hk7, by show k + 1 ≤ b.length; omega⟩, by show b.length - (k + 1) < b.length - k; omega⟩
        show Row 2 (H7.bump 3) u (M.set (i + k + 1) _).length _
        rw [List.length_set]
        exact r7.frame (by simp only [next_bump]; omega) (fun _ _ => rfl)
      · refine ⟨fun _ => ?_, fun q => absurd rfl q⟩
        have hkb : k = b.length := by omega
        subst hkb
        repeat' (first | (apply WK.reg; (· exact lnn)) | refine WKO.nil ?_ | ((first | apply WKO.op); (· first | exact k_mv rfl | exact opA); (· rfl)) | refine pN ?_ | fail)
        exact ⟨(i + 1, M), (.cons rfl <| .cons rfl <| .cons rfl <| .cons rfl <| .nil _), ⟨⟨by simp only [next_bump]; omega, fun q hq => (bump_get rfl q).trans (n2 q hq), n3⟩, hR6.frame (by simp only [next_bump]; omega) (fun _ _ => rfl), hJ.row, by show i + 1 ≤ a.length; omega⟩, by show a.length - (i + 1) < a.length - i; omega⟩
    · refine ⟨fun _ => ?_, fun q => absurd rfl q⟩
      have hia : i = a.length := by omega
      subst hia
      have hd := hI.done ha0 hb0
      subst hd
      repeat' (first | refine WK.seq ?_ | refine WK.ret ?_ | (apply WK.reg; (· exact lnn)) | refine WKO.nil ?_ | ((first | apply WKO.op); (· first | exact k_mv rfl); (· rfl)) | refine pN ?_ | fail)
      exact ⟨fun id q => (by cases q), _, rfl, .inl (hR5.frame (by simp only [next_bump]; omega) (fun _ _ => rfl)), by simp only [next_bump]; omega, fun q hq => (bump_get rfl q).trans (m2 q hq), m3⟩
end Go.Proofs.YtfcgofffalmdfaaGreatDoor.PA
namespace Go.Proofs.YtfcgofffalmdfaaGreatDoor.PA
open Go Go.Eng Go.Proofs
theorem plus_moved (a t : List Nat) : sumP a (0 :: t) (max a.length (0 :: t).length) = plusF a t 1 := by
  apply List.ext_getElem
  · rw [sumP_len, plusF_len, List.length_cons]
  · intro j h1 h2
    have e : (sumP a (0 :: t) (max a.length (0 :: t).length)).getD j 0 = (plusF a t 1).getD j 0 := by
      rw [plusF_get]
      rw [sumP_len] at h1
      unfold sumP
      rw [List.getD_eq_getElem?_getD, List.getElem?_map, List.getElem?_range h1]
      show a.getD j 0 + (0 :: t).getD j 0 = _
      congr 1
      cases j with
      | zero => rfl
      | succ j => rw [if_pos (by omega)]; rfl
    rwa [List.getD_eq_getElem?_getD, List.getElem?_eq_getElem h1, List.getD_eq_getElem?_getD, List.getElem?_eq_getElem h2] at e
def CapOk (v : AV) : Prop := ∃ i l c, v = .sl i 0 l c ∧ (c = openCap ∨ l ≤ c ∧ c < openAt)
structure TabH (sz : Nat → Nat → List Nat) (n : Nat) (H0 : AHeap) (X : AV) (R : List Nat) (done : Nat → Nat → Prop) (H : AHeap) : Prop where
  x : RowE 1 H X R.length (R.map fun r => AV.sl r 0 (n + 1) (n + 1))
  nd : R.Nodup
  lt : ∀ r ∈ R, H0.next ≤ r ∧ r < H.next
  xo : ∀ q, X.own = some q → H0.next ≤ q ∧ q ∉ R
  o : ∀ i, i < R.length → ∃ M : List AV, H.get (R.getD i 0) = some (.cells M none) ∧ M.length = n + 1 ∧ (∀ j, j < n + 1 → done i j → ∃ v, M[j]? = some v ∧ RdR 2 H v (sz i j).length (zC (sz i j)) ∧ CapOk v ∧ ∀ q, v.own = some q → q ∉ R ∧ X.own ≠ some q) ∧ ∀ j, j < n + 1 → ¬ done i j → M[j]? = some .nils
  k1 : H0.next ≤ H.next
  k2 : ∀ q, q < H0.next → H.get q = H0.get q
section
variable {sz : Nat → Nat → List Nat} {n : Nat} {H0 : AHeap} {X : AV} {R : List Nat} {done done' : Nat → Nat → Prop} {H H' : AHeap}
theorem mem_getD {R : List Nat} {i : Nat} (h : i < R.length) : R.getD i 0 ∈ R := by
  rw [List.getD_eq_getElem?_getD, List.getElem?_eq_getElem h]
  exact List.getElem_mem h
theorem TabH.up (h : TabH sz n H0 X R done H) (hn : H.next ≤ H'.next) (hk : ∀ q, q < H.next → H'.get q = H.get q) : TabH sz n H0 X R done H' where
  x := h.x.frame hn (fun q hq => hk q (h.x.own_lt hq))
  nd := h.nd
  lt := fun r hr => by have := h.lt r hr; omega
  xo := h.xo
  o := fun i hi => by
    obtain ⟨M, q1, q2, q3, q4⟩ := h.o i hi
    refine ⟨M, (hk _ (h.lt _ (mem_getD hi)).2).trans q1, q2, fun j hj hd => ?_, q4⟩
    obtain ⟨v, r1, r2, r3, r4⟩ := q3 j hj hd
    exact ⟨v, r1, r2.frame hn (fun q hq => hk q (r2.own_lt hq)), r3, r4⟩
  k1 := by have := h.k1; omega
  k2 := fun q hq => (hk q (by have := h.k1; omega)).trans (h.k2 q hq)
theorem TabH.same (h : TabH sz n H0 X R done H) (hd : ∀ i j, i < R.length → j < n + 1 → (done i j ↔ done' i j)) : TabH sz n H0 X R done' H where
  x := h.x
  nd := h.nd
  lt := h.lt
  xo := h.xo
  o := fun i hi => by
    obtain ⟨M, q1, q2, q3, q4⟩ := h.o i hi
    exact ⟨M, q1, q2, fun j hj hdd => q3 j hj ((hd i j hi hj).2 hdd), fun j hj hdd => q4 j hj (fun e => hdd ((hd i j hi hj).1 e))⟩
  k1 := h.k1
  k2 := h.k2
theorem TabH.row (h : TabH sz n H0 X R done H) {i : Nat} (hi : i < R.length) : (R.map fun r => AV.sl r 0 (n + 1) (n + 1))[i]? = some (.sl (R.getD i 0) 0 (n + 1) (n + 1)) := by
  rw [List.getElem?_map, List.getElem?_eq_getElem hi, List.getD_eq_getElem?_getD, List.getElem?_eq_getElem hi]
  rfl
theorem TabH.put (h : TabH sz n H0 X R done H) {i j : Nat} {v : AV} {M : List AV} (hi : i < R.length) (hj : j < n + 1) (hM : H.get (R.getD i 0) = some (.cells M none)) (hg : H'.get (R.getD i 0) = some (.cells (M.set j v) none)) (hn : H'.next = H.next) (hk : ∀ q, q ≠ R.getD i 0 → H'.get q = H.get q)
    (hv : RdR 2 H v (sz i j).length (zC (sz i j))) (hv2 : CapOk v) (hv3 : ∀ q, v.own = some q → q ∉ R ∧ X.own ≠ some q) : TabH sz n H0 X R (fun a b => done a b ∨ a = i ∧ b = j) H' where
  x := h.x.frame (by omega) (fun q hq => hk q (fun e => (h.xo q hq).2 (e ▸ mem_getD hi)))
  nd := h.nd
  lt := fun r hr => by have := h.lt r hr; omega
  xo := h.xo
  o := fun a ha => by
    have fr : ∀ (w : AV) (l : List Nat), RdR 2 H w l.length (zC l) → (∀ q, w.own = some q → q ∉ R) → RdR 2 H' w l.length (zC l) := fun w l hw ho => hw.frame (by omega) (fun q hq => hk q (fun e => ho q hq (e ▸ mem_getD hi)))
    obtain ⟨M2, q1, q2, q3, q4⟩ := h.o a ha
    by_cases e : a = i
    · subst e
      rw [hM] at q1
      cases q1
      refine ⟨_, hg, by rw [List.length_set]; exact q2, fun b hb hd => ?_, fun b hb hd => ?_⟩
      · rw [List.getElem?_set]
        by_cases e2 : j = b
        · subst e2
          rw [if_pos rfl, if_pos (by omega)]
          exact ⟨v, rfl, fr v _ hv (fun q hq => (hv3 q hq).1), hv2, hv3⟩
        · rw [if_neg e2]
          obtain ⟨w, r1, r2, r3, r4⟩ := q3 b hb (by rcases hd with hd | hd; exact hd; exact absurd hd.2.symm e2)
          exact ⟨w, r1, fr w _ r2 (fun q hq => (r4 q hq).1), r3, r4⟩
      · rw [List.getElem?_set, if_neg (fun e2 => hd (.inr ⟨rfl, e2.symm⟩))]
        exact q4 b hb (fun e2 => hd (.inl e2))
    · have hne : R.getD a 0 ≠ R.getD i 0 := fun e2 => e (by
        have h1 := h.nd
        rw [List.getD_eq_getElem?_getD, List.getElem?_eq_getElem ha, List.getD_eq_getElem?_getD, List.getElem?_eq_getElem hi] at e2
        exact (List.getElem_inj h1).1 e2)
      refine ⟨M2, (hk _ hne).trans q1, q2, fun b hb hd => ?_, fun b hb hd => q4 b hb (fun e2 => hd (.inl e2))⟩
      obtain ⟨w, r1, r2, r3, r4⟩ := q3 b hb (by rcases hd with hd | hd; exact hd; exact absurd hd.1 e)
      exact ⟨w, r1, fr w _ r2 (fun q hq => (r4 q hq).1), r3, r4⟩
  k1 := by have := h.k1; omega
  k2 := fun q hq => (hk q (fun e => by have := (h.lt _ (mem_getD hi)).1; omega)).trans (h.k2 q hq)
end
def dn (L I i j : Nat) : Prop := i ≤ j ∧ (j - i < L ∨ j - i = L ∧ i < I)
end Go.Proofs.YtfcgofffalmdfaaGreatDoor.PA
namespace Go.Proofs.YtfcgofffalmdfaaGreatDoor.PA
open Go Go.Eng Go.Proofs
theorem nils_flat (m : Nat) : (List.replicate m [AV.nils]).flatten = List.replicate m AV.nils := by
  induction m with
  | zero => rfl
  | succ m ih => rw [List.replicate_succ, List.flatten_cons, ih, List.replicate_succ]; rfl
theorem WKO.ap1c {cf : CF} {n m d1 d2 bytes : Nat} {z0 : AV} {H H' : AHeap} {l : KL0} {x y : XO} {v val : AV} {cs : List AV} {r : List XOper} {R : KL0 → AHeap → Prop} (hb : bytes ≤ 2 ^ 16) (hR : RowE 1 H v m cs) (hm : H'.m = H.m) (hn : H.next ≤ H'.next) (hlt : n < H'.next) (hf : v.own ≠ some n) (hl : m < 1000000) (hy : evK l y = some val) (hc : val.cells = [val]) (ho : val.oneCell = true) (hx : evK ((d1, .sl n 0 1 1) :: l) x = some v)
    (k : ∀ v' H1, RowE 1 H1 v' (m + 1) (cs ++ [val]) → H'.next ≤ H1.next → (∀ q, q < H'.next → q ≠ n → v.own ≠ some q → H1.get q = H'.get q) → (∀ i, v'.own = some i → v.own = some i ∨ H'.next ≤ i) → WKO cf r (n + 1 + 1) ((d2, v') :: (d1, .sl n 0 1 1) :: l) H1 R) :
    WKO cf (⟨some d1, .bslice [z0] [(0, 1, y)] 1, none⟩ :: ⟨some d2, .app 1 bytes x (.t d1), none⟩ :: r) n l H' R := by
  have hR' : RowE 1 H' v m cs := hR.frame hn (fun i _ => bump_get hm i)
  refine WKO.append1E (m := m) (v := v) (cs := cs) (new := [val]) hR' hx ?_ (by simp [allSm, XOp.opnds, hy]) (by omega) (by omega) hb rfl (by simp [ho]) hlt hf (fun v' H1 q1 q2 q3 q4 => k v' H1 (.inl q1) q2 (fun q h1 h2 h3 => q3 q h1 h2 h3) q4)
  simp only [evParts, hy, bind, Option.bind_some, fillA, hc]
  simp
theorem WKO.appR {cf : CF} {n d z bytes len len2 : Nat} {H' : AHeap} {l : KL0} {x y : XO} {u X : AV} {cs ds : List AV} {r : List XOper} {R : KL0 → AHeap → Prop} (hx : evK l x = some u) (hy : evK l y = some X) (hR : RowE z H' u len cs) (hX : RdR z H' X len2 ds) (hz : 0 < z) (ho : ds.all AV.oneCell = true) (hl : len + len2 < 1000000) (hb : bytes ≤ 2 ^ 16)
    (k : ∀ v' H1, RowE z H1 v' (len + len2) (cs ++ ds) → H'.next ≤ H1.next → (∀ q, q < H'.next → u.own ≠ some q → H1.get q = H'.get q) → (∀ q, v'.own = some q → u.own = some q ∨ H'.next ≤ q) → WKO cf r (n + 1) ((d, v') :: l) H1 R) : WKO cf (⟨some d, .app z bytes x y, none⟩ :: r) n l H' R := by
  obtain ⟨v', H1, e1, R1, hn1, hg1, ho1⟩ := hR.app0 (bytes := bytes) (n := len2) (y := X) (new := ds) hz (by omega) hb hX.lenA hX.src hX.1 ho
  exact WKO.op (v := v') (H1 := H1) (k_any (by simp only [xval, xop, hx, hy, e1])) (by simp [allSm, XOp.opnds, hx, hy]) (k v' H1 R1 hn1 hg1 ho1)
theorem zC_ones (l : List Nat) : (zC l).all AV.oneCell = true := by
  rw [List.all_eq_true]
  intro x hx
  obtain ⟨c, hc, hx⟩ := List.mem_flatten.1 hx
  obtain ⟨n, _, rfl⟩ := List.mem_map.1 hc
  simp only [zc, List.mem_cons, List.not_mem_nil, or_false] at hx
  rcases hx with rfl | rfl <;> rfl
theorem RowE.capOk {z len : Nat} {H : AHeap} {v : AV} {cs : List AV} (h : RowE z H v len cs) (h0 : 0 < len) : CapOk v := by
  rcases h with ⟨_, ⟨rfl, h⟩ | ⟨i, full, rfl, _⟩⟩ | ⟨h, _⟩
  · omega
  · exact ⟨_, _, _, rfl, .inl rfl⟩
  · omega
def szM (may : Nat → Nat → Bool) (i j : Nat) : List Nat := sizesN may (j - i) i
theorem szF_P (may : Nat → Nat → Bool) {i j : Nat} (h : i < j) : szM may i j = sizesP may (j - i) i (j - i - 1) := by
  unfold szM
  by_cases h2 : 2 ≤ j - i
  · rw [sizesN_ge _ h2]
  · have e : j - i = 1 := by omega
    rw [e, sizesN_lt _ (by omega), sizesP_zero, sizesN_lt _ (by omega)]
theorem xop_ldE {ev : XO → Option AV} {H0 H' : AHeap} {n z len p : Nat} {x : XO} {X v : AV} {cs : List AV} (hx : ev x = some (adE X p)) (hE : RdR z H0 X len cs) (hF : ∀ i, X.own = some i → H'.get i = H0.get i) (h : cs[p]? = some v) : xop ev H' n (.load none x) = .v v := by
  have hp : p < len * z := by
    obtain ⟨hh, _⟩ := List.getElem?_eq_some_iff.1 h
    rw [hE.1] at hh
    exact hh
  obtain ⟨c, h1, h2⟩ := hE.at (H' := H') hF hp
  have h3 : c[0]? = some v := by
    have : (c.take (len * z - p))[0]? = some v := by rw [h2, List.getElem?_drop, Nat.add_zero, h]
    rw [List.getElem?_take] at this
    split at this
    · exact this
    · cases this
  simp only [xop, hx, Option.bind_some, loadA, h1, h3, AR.ofV]
theorem store_one {cf : CF} {n r j : Nat} {H' : AHeap} {l : KL0} {a x : XO} {M : List AV} {v : AV} (ha : evK l a = some (.ptr r j)) (hx : evK l x = some v) (hv : v.oneCell = true) (hg : H'.get r = some (.cells M none)) (hj : j < M.length) : xval cf (evK l) H' n (.store 1 a x) = some (undefA, H'.set r (some (.cells (M.set j v) none))) := by
  have e : M.set j v = overA M j v.cells := by
    rw [one_cells hv, overA, List.set_eq_take_append_cons_drop, if_pos hj]
    simp
  rw [e]
  exact op_store ha hx hg (by rw [one_cells hv]; rfl) (by rw [one_cells hv]; simp [hv]) (by omega)
theorem szF_self (may : Nat → Nat → Bool) (i : Nat) : szM may i i = [1] := by unfold szM; rw [Nat.sub_self, sizesN_lt _ (by omega)]
section
variable {s : List UInt8} {l : List (Int × Int)} {gap : Int} {may : Nat → Nat → Bool}
set_option maxHeartbeats 8000000 in
theorem TabOf_ok {cf : CF} (hcc : CleanCF cf) {fuel : Nat} {H : AHeap} (hcl : Go.Eng.Clean H) (hE : readE s l gap = 0) (hf : 1000 < fuel)
    (h52 : ∀ H, cf 52 [nA 1] H = some (zN 1, H)) (h53 : ∀ i j, i < j → j < s.length → ∀ H, cf 53 [.str s, pairsI l, .int .i64 gap, nA i, nA j] H = some (.bool (may i j), H))
    (h54 : ∀ (X Y : AV) (a b : List Nat) (H : AHeap), RdR 2 H X a.length (zC a) → RdR 2 H Y b.length (zC b) → a.length < 400 → b.length < 400 → a.sum + b.sum < bigN → ∃ v H', cf 54 [X, Y] H = some (v, H') ∧ RowE 2 H' v (sumP a b (max a.length b.length)).length (zC (sumP a b (max a.length b.length))) ∧ KpN H H' v)
    (h55 : ∀ (X Y : AV) (a b : List Nat) (H : AHeap), RdR 2 H X a.length (zC a) → RdR 2 H Y b.length (zC b) → a.length < 400 → b.length < 400 → 0 < a.length → 0 < b.length → a.sum * b.sum < bigN → a.sum < bigN → b.sum < bigN → ∃ v H', cf 55 [X, Y] H = some (v, H') ∧ RowE 2 H' v (0 :: timesF a b).length (zC (0 :: timesF a b)) ∧ KpN H H' v) :
    ∃ v H', xfunc cf fuel L17 [.str s, pairsI l, .int .i64 gap] H = some (v, H') ∧ ∃ R, R.length = s.length + 1 ∧ TabH (szM may) s.length H v R (fun i j => i ≤ j) H' := by
  refine xfunc_ofK rfl (by show 3 ≤ 104; omega) ?_
  have hs40 := (readE_zero hE).1
  generalize hsl : s.length = n at *
  have hslen : ∀ {q : Nat} {Hq : AHeap} {K : KL0} {x : XO}, evK K x = some (.str s) → XV cf K Hq q (.slen x) = some (nA n, Hq) := fun {q Hq K x} hx => by
    have := k_slen (cf := cf) (n := q) (H := Hq) hx
    rwa [hsl] at this
  have hF := HF.start H
  unfold L17
  dsimp only
  repeat' (first | refine WK.seqC (by assumption) ?_ | intro (_ : CleanTo _ _) | refine WK.block ?_ | (apply WK.reg; (· exact lnn)) | (apply WKO.bsO; (· rfl); (· rfl); (· assumption); (· rfl); (· exact nxx); (· exact nxx); (· exact nxx); intro _ _ _) | refine WKO.nil ?_ | ((first | apply WKO.op); (· first | exact k_mv rfl | exact hslen rfl); (· rfl)) | refine pN ?_ | fail)
  rename_i c1 c2 H1 hF1 hn1 c3 c4
  have hcl1 : Go.Eng.Clean (H1.bump 1) := c4.1 (c3.1 (c2.1 (c1.1 hcl)))
  generalize hnb : ((H.bump 1).bump 3).next = nb at hF1 ⊢
  simp only [next_bump] at hnb hn1
  have hb1 := hF1.base
  have hl1 := hF1.le
  have g1 : (H1.bump 1).get nb = some (.cells [] none) := (bump_get rfl _).trans (hF1.obj _ (.head _))
  have hT0 : TabH (szM may) n H (.sl nb 0 0 0) [] (fun _ _ => False) (H1.bump 1) :=
    ⟨.inr ⟨rfl, rfl, nb, rfl, nxx, g1⟩, List.nodup_nil, fun r hr => (by cases hr), fun q hq => (by cases hq; exact ⟨by omega, by simp⟩), fun i hi => absurd hi (Nat.not_lt_zero _), nxx, fun q hq => (bump_get rfl q).trans (hF1.fr q hq (by simp))⟩
  clear hF hF1 c1 c2 c3 c4
  refine WK.loop (α := Nat × AV × List Nat) (fun t => [(0, .str s), (1, pairsI l), (2, .int .i64 gap), (7, nA n), (8, t.2.1), (9, nA t.1)]) (fun t H' => TabH (szM may) n H t.2.1 t.2.2 (fun _ _ => False) H' ∧ t.2.2.length = t.1 ∧ t.1 ≤ n + 1 ∧ Go.Eng.Clean H') (fun t => n + 1 - t.1) (0, .sl nb 0 0 0, []) (.cons rfl <| .cons rfl <| .cons rfl <| .cons rfl <| .cons rfl <| .cons rfl <| .nil _) ⟨hT0, rfl, Nat.zero_le _, hcl1⟩ (by show n + 1 - 0 < fuel; omega) ?_
  rintro ⟨i, X, R⟩ H3 ⟨hT, hRl, hi, hc3⟩
  simp only at hT hRl hi hc3 ⊢
  clear hT0
  refine WK.cl hcc ?_
  repeat' (first | refine WK.seq ?_ | refine WK.skip ?_ | refine WK.exit ?_ | refine WK.block ?_ | (apply WK.reg; (· exact lnn)) | refine WKO.nil ?_ | ((first | apply WKO.op); (· first | exact k_mv rfl | exact opA); (· rfl)) | refine pN ?_ | refine pX ?_ | (apply WK.condD; (· rfl); all_goals intro _) | fail)
  · refine WKO.mkO (m := n + 1) rfl rfl ⟨by omega, by decide⟩ (HF.start H3) rfl nxx ?_
    intro H4 hF4 hn4
    rw [nils_flat] at hF4
    have hX4 := hF4.re hT.x (fun _ _ => by simp)
    generalize hr : ((H3.bump 3).bump 7).next = r at hF4 hn4 ⊢
    simp only [next_bump] at hr
    have hxl : ∀ q, X.own = some q → q < H3.next := fun q hq => hT.x.own_lt hq
    refine WKO.ap1c (bytes := 24) (by decide) hX4 rfl (Nat.le_refl _) nxx (fun e => by have := hxl _ e; simp only [next_bump] at this; omega) (by omega) rfl rfl rfl rfl ?_
    intro v' H5 r5 n5 g5 o5
    simp only [next_bump] at g5
    repeat' (first | (apply WK.reg; (· exact lnn)) | refine WKO.nil ?_ | ((first | apply WKO.op); (· first | exact k_mv rfl | exact opA); (· rfl)) | refine pN ?_ | refine bN ?_ | fail)
    intro hct
    have hk5 : ∀ q, q < H3.next → X.own ≠ some q → H5.get q = H3.get q := fun q hq hx => (g5 q (by omega) (by omega) hx).trans (hF4.fr q hq (by simp))
    have hgr : H5.get r = some (.cells (List.replicate (n + 1) .nils) none) := (g5 r (by omega) (by omega) (fun e => by have := hxl _ e; omega)).trans (hF4.obj _ (.head _))
    refine ⟨fun _ => ?_, fun q => absurd rfl q⟩
    refine ⟨(i + 1, v', R ++ [r]), (.cons rfl <| .cons rfl <| .cons rfl <| .cons rfl <| .cons rfl <| .cons rfl <| .nil _), ⟨⟨?_, ?_, fun q hq => ?_, fun q hq => ?_, fun a ha => ?_, ?_, fun q hq => ?_⟩, by simp [hRl], by show i + 1 ≤ n + 1; omega, hct.1 hc3⟩, by show n + 1 - (i + 1) < n + 1 - i; omega⟩
    · rw [List.length_append, List.map_append]
      exact r5.frame nxx (fun _ _ => rfl)
    · rw [List.nodup_append]
      refine ⟨hT.nd, by simp, fun a ha b hb => ?_⟩
      have := hT.lt a ha
      simp only [List.mem_singleton] at hb
      omega
    · have h1 := hT.k1
      simp only [next_bump]
      rcases List.mem_append.1 hq with q1 | q1
      · have := hT.lt q q1; omega
      · simp only [List.mem_singleton] at q1; omega
    · have h1 := hT.k1
      rw [List.mem_append, List.mem_singleton]
      rcases o5 q hq with w | w
      · have := hT.xo q w
        have := hxl q w
        exact ⟨by omega, by rintro (h | h); exact (hT.xo q w).2 h; omega⟩
      · refine ⟨by omega, ?_⟩
        rintro (h | h)
        · have := hT.lt q h; omega
        · omega
    · rw [List.length_append, List.length_singleton] at ha
      by_cases hal : a < R.length
      · obtain ⟨M, q1, q2, _, q4⟩ := hT.o a hal
        have hm := mem_getD hal
        refine ⟨M, ?_, q2, fun _ _ h => h.elim, q4⟩
        have e : (R ++ [r]).getD a 0 = R.getD a 0 := by rw [List.getD_eq_getElem?_getD, List.getElem?_append_left hal, List.getD_eq_getElem?_getD]
        rw [e]
        exact (bump_get rfl _).trans ((hk5 _ (hT.lt _ hm).2 (fun e => (hT.xo _ e).2 hm)).trans q1)
      · have hal2 : a = R.length := by omega
        subst hal2
        have e : (R ++ [r]).getD R.length 0 = r := by rw [List.getD_eq_getElem?_getD, List.getElem?_append_right (Nat.le_refl _), Nat.sub_self]; rfl
        rw [e]
        refine ⟨_, (bump_get rfl _).trans hgr, by simp, fun _ _ h => h.elim, fun j hj _ => ?_⟩
        rw [List.getElem?_replicate, if_pos hj]
    · have h1 := hT.k1
      simp only [next_bump]; omega
    · have h1 := hT.k1
      exact (bump_get rfl q).trans ((hk5 q (by omega) (fun e => by have := (hT.xo q e).1; omega)).trans (hT.k2 q hq))
  · intro _
    refine ⟨fun q => (by cases q), fun _ => ⟨fun _ _ => ⟨fun _ => ?_, fun q => absurd rfl q⟩, fun q => absurd rfl q⟩⟩
    have hin : i = n + 1 := by omega
    subst hin
    repeat' (first | refine WK.seqC (by assumption) ?_ | intro (_ : CleanTo _ _) | refine WK.block ?_ | (apply WK.reg; (· exact lnn)) | refine WKO.nil ?_ | ((first | apply WKO.op); (· first | exact k_mv rfl); (· rfl)) | refine pN ?_ | fail)
    rename_i hc5
    have hcl5 := hc5.1 ((clean_bump _ 3).1 hc3)
    have hT5 := ((hT.same (done' := dn 0 0) (fun a b _ _ => ⟨fun h => h.elim, fun h => by unfold dn at h; omega⟩)).up (H' := (H3.bump 3)) nxx (fun q _ => rfl))
    clear hT hc3
    refine WK.loop (α := Nat) (fun L => [(0, .str s), (1, pairsI l), (2, .int .i64 gap), (7, nA n), (8, X), (10, nA L)]) (fun L H' => TabH (szM may) n H X R (dn L 0) H' ∧ Go.Eng.Clean H' ∧ L ≤ n + 1) (fun L => n + 1 - L) 0 (.cons rfl <| .cons rfl <| .cons rfl <| .cons rfl <| .cons rfl <| .cons rfl <| .nil _) ⟨hT5.up nxx (fun q _ => rfl), hcl5, Nat.zero_le _⟩ (by show n + 1 - 0 < fuel; omega) ?_
    rintro L H6 ⟨hT6, hc6, hL⟩
    clear hT5 hcl5 hc5
    refine WK.cl hcc ?_
    repeat' (first | refine WK.seqC (by assumption) ?_ | intro (_ : CleanTo _ _) | refine WK.skip ?_ | refine WK.ret ?_ | refine WK.exit ?_ | refine WK.block ?_ | (apply WK.reg; (· exact lnn)) | refine WKO.nil ?_ | ((first | apply WKO.op); (· first | exact k_mv rfl | exact opA); (· rfl)) | refine pN ?_ | refine pX ?_ | refine bX ?_ | (apply WK.condD; (· rfl); all_goals intro _) | fail)
    · rename_i hLn hc7 hc8
      have hcl8 := hc8.1 (hc7.1 hc6)
      refine WK.loop (α := Nat) (fun i => [(0, .str s), (1, pairsI l), (2, .int .i64 gap), (7, nA n), (8, X), (10, nA L), (11, nA i)]) (fun i H' => TabH (szM may) n H X R (dn L i) H' ∧ Go.Eng.Clean H' ∧ i + L ≤ n + 1) (fun i => n + 1 - i) 0 (.cons rfl <| .cons rfl <| .cons rfl <| .cons rfl <| .cons rfl <| .cons rfl <| .cons rfl <| .nil _) ⟨hT6.up nxx (fun q _ => rfl), hcl8, by omega⟩ (by show n + 1 - 0 < fuel; omega) ?_
      rintro i H7 ⟨hT7, hc7', hiL⟩
      clear hT6 hc7 hc8 hcl8
      refine WK.cl hcc ?_
      repeat' (first | refine WK.seqC (by assumption) ?_ | intro (_ : CleanTo _ _) | refine WK.skip ?_ | refine WK.exit ?_ | refine WK.block ?_ | (apply WK.reg; (· exact lnn)) | refine WKO.nil ?_ | ((first | apply WKO.op); (· first | exact k_mv rfl | exact opA); (· rfl)) | refine pN ?_ | refine pX ?_ | refine bN ?_ | refine bX ?_ | (apply WK.condD; (· rfl); all_goals intro _) | fail)
      · have hL0 : L = 0 := by assumption
        have hi7 : i + L < n + 1 := by omega
        subst hL0
        have hnX : ∀ q, X.own = some q → q < H7.next := fun q hq => hT7.x.own_lt hq
        refine WK.regT (k := 9) rfl ?_
        obtain ⟨HB, hHB⟩ : ∃ HB, (((H7.bump 5).bump 4).bump 2) = HB := ⟨_, rfl⟩
        rw [hHB]
        have hBm : HB.m = H7.m := by rw [← hHB]; rfl
        have hBn : HB.next = H7.next + 11 := by rw [← hHB]; rfl
        clear hHB
        have hBg : ∀ k, (HB.bump 9).get k = H7.get k := fun k => (show HB.m.get k = _ by rw [hBm]; rfl)
        have hxB : RowE 1 (HB.bump 9) X R.length (R.map fun r => AV.sl r 0 (n + 1) (n + 1)) := hT7.x.frame (by rw [next_bump]; omega) (fun q _ => hBg q)
        obtain ⟨M, m1, m2, m3, m4⟩ := hT7.o i (by omega)
        have hm := mem_getD (R := R) (i := i) (by omega)
        have hrl := (hT7.lt _ hm).2
        generalize hr : R.getD i 0 = r at m1 hm hrl
        obtain ⟨Ha, hHa⟩ : ∃ Ha, (HB.bump 9).set (HB.next + 6) (some (.cells [.bool false, rowZ (dz 1)] none)) = Ha := ⟨_, rfl⟩
        have hna : Ha.next = HB.next + 9 := by rw [← hHa]; rfl
        have hga : ∀ k, k ≠ HB.next + 6 → Ha.get k = H7.get k := fun k hk => by rw [← hHa, AHeap.get_set, if_neg hk, hBg]
        have hNa : Ha.get (HB.next + 6) = some (.cells [.bool false, rowZ (dz 1)] none) := by rw [← hHa, AHeap.get_set, if_pos rfl]
        obtain ⟨Hb, hHb⟩ : ∃ Hb, Ha.set r (some (.cells (M.set i (.sl (HB.next + 6) 0 1 1)) none)) = Hb := ⟨_, rfl⟩
        have hrow : ∀ {q : Nat} {K : KL0} {x : XO}, evK K x = some (adE X (i * 1)) → XV cf K (HB.bump 9) q (.load none x) = some (.sl r 0 (n + 1) (n + 1), HB.bump 9) := fun {q K x} hx => k_ld1 hx hxB rfl (by have := hT7.row (i := i) (by omega); rwa [hr] at this)
        repeat' (first | ((first | apply WKT.op); (· first | exact k_mv rfl | exact k_iaE rfl rfl (RdR.of hxB) (by omega) | exact hrow rfl | (apply k_call; (· rfl); (· rfl); (· exact h52 _))); (· rfl)) | fail)
        refine WKT.op (v := .sl (HB.next + 6) 0 1 1) (H1 := Ha) (by rw [← hHa]; exact k_bs2 rfl) rfl ?_
        repeat' (first | ((first | apply WKT.op); (· first | exact k_ia1s rfl rfl (by omega)); (· rfl)) | fail)
        refine WKT.opn (v := undefA) (H1 := Hb) (k_any (by rw [← hHb]; exact store_one rfl rfl rfl ((hga r (by omega)).trans m1) (by omega))) rfl ?_
        repeat' (first | refine WKT.nil ?_ | fail)
        have hless : ∀ (Hq : AHeap) (l : List Nat) (k : Nat), k < HB.next → ((Hq.less HB.next [6]).less HB.next l).get k = Hq.get k := fun Hq l k hk => by rw [less_get (H := Hq) l _ (fun i _ => by omega), less_get (H := Hq) [6] _ (fun i _ => by omega)]
        refine ⟨?_, ?_, (_, Hb), rfl, ?_⟩
        · intro q hq
          obtain rfl : q = (3, [5], [6]) := by simpa using hq
          refine ⟨_, _, _, _, .sl r 0 (n + 1) (n + 1), rfl, rfl, rfl, xop_ldE rfl (RdR.of hxB) (fun _ _ => rfl) (by rw [Nat.mul_one]; have := hT7.row (i := i) (by omega); rwa [hr] at this), fun j hj => ?_⟩
          have hj' : j = 3 ∨ j = 5 ∨ j = 6 := by simpa using hj
          rcases hj' with rfl | rfl | rfl <;>
            exact ⟨_, rfl, xop_ldE rfl (RdR.of hxB) (fun q hq => hless _ _ _ (by have := hnX q hq; omega)) (by rw [Nat.mul_one]; have := hT7.row (i := i) (by omega); rwa [hr] at this)⟩
        · intro j hj
          obtain rfl : j = 6 := by simpa using hj
          refine ⟨_, rfl, rfl, fun i' hi' => ?_⟩
          have hi2 : i' = 0 ∨ i' = 1 ∨ i' = 2 ∨ i' = 3 ∨ i' = 4 ∨ i' = 5 ∨ i' = 6 := by omega
          rcases hi2 with rfl | rfl | rfl | rfl | rfl | rfl | rfl <;> exact ⟨_, rfl, (hBg _).trans (hc7' _ (by omega))⟩
        intro ct
        refine ⟨fun _ => ?_, fun q => absurd rfl q⟩
        repeat' (first | intro (_ : CleanTo _ _) | refine WK.exit ?_ | (apply WK.reg; (· exact lnn)) | refine WKO.nil ?_ | ((first | apply WKO.op); (· first | exact k_mv rfl | exact opA); (· rfl)) | refine pN ?_ | refine pX ?_ | refine bX ?_ | fail)
        have hna' : Ha.next = H7.next + 20 := by omega
        have hU := hT7.up (H' := Ha) (by omega) (fun q hq => hga q (by omega))
        have hP := hU.put (H' := Hb) (i := i) (j := i) (v := .sl (HB.next + 6) 0 1 1) (M := M) (by omega) (by omega) (by rw [hr]; exact (hga r (by omega)).trans m1) (by rw [hr, ← hHb, AHeap.get_set, if_pos rfl]) (by rw [← hHb]; rfl) (fun q hq => by rw [← hHb, AHeap.get_set, if_neg (hr ▸ hq)])
          (by rw [szF_self]; exact ⟨rfl, .inr (.inr ⟨HB.next + 6, 1, [.bool false, rowZ (dz 1)], none, rfl, by omega, hNa, rfl, Nat.le_refl _⟩)⟩) ⟨_, _, _, rfl, .inr ⟨Nat.le_refl _, by decide⟩⟩ (fun q hq => by
            cases hq
            refine ⟨fun e => ?_, fun e => ?_⟩
            · have := (hT7.lt _ e).2; omega
            · have := hnX _ e; omega)
        refine ⟨i + 1, (.cons rfl <| .cons rfl <| .cons rfl <| .cons rfl <| .cons rfl <| .cons rfl <| .cons rfl <| .nil _), ⟨(hP.same (fun a b _ _ => by unfold dn; omega)).up nxx (fun q _ => rfl), ?_, by omega⟩, by omega⟩
        rename_i cz
        exact cz.1 hc7'
      · have hi7 : i + L < n + 1 := by omega
        have hL0 : 0 < L := Nat.pos_of_ne_zero (by assumption)
        have hnX : ∀ q, X.own = some q → q < H7.next := fun q hq => hT7.x.own_lt hq
        obtain ⟨HB, hHB⟩ : ∃ HB, (((H7.bump 5).bump 4).bump 2) = HB := ⟨_, rfl⟩
        rw [hHB]
        have hBm : HB.m = H7.m := by rw [← hHB]; rfl
        have hBn : HB.next = H7.next + 11 := by rw [← hHB]; rfl
        have hcB : CleanTo H7 HB := by rw [← hHB]; exact (clean_bump _ 5).trans ((clean_bump _ 4).trans (clean_bump _ 2))
        clear hHB
        refine WKO.bsZ (z' := 2) (by rw [next_bump]; omega) ?_
        intro H8 hr8 hn8 hg8
        rw [next_bump] at hn8
        have hk8 : ∀ q, q < H7.next → H8.get q = H7.get q := fun q hq => (hg8 q (by omega)).trans (show HB.m.get q = _ by rw [hBm]; rfl)
        have hT8 := hT7.up (H' := H8) (by omega) hk8
        obtain ⟨M1, a1, a2, a3, a4⟩ := hT8.o (i + 1) (by omega)
        obtain ⟨u1, b1, b2, b3, b4⟩ := a3 (i + L) (by omega) (by unfold dn; omega)
        have hrow1 := hT8.row (i := i + 1) (by omega)
        have hx8 := hT8.x
        generalize hr1 : R.getD (i + 1) 0 = r1 at a1 hrow1
        repeat' (first | ((first | apply WKO.op); (· first | exact k_mv rfl | exact k_iaE rfl rfl (RdR.of hx8) (by omega) | (apply k_ld1; (· rfl); (· exact hx8); (· rfl); (· exact hrow1)) | exact k_ia1s rfl rfl (by omega) | (apply k_ldX; (· rfl); (· exact a1); (· exact b1)) | exact opA); (· rfl)) | fail)
        have hz0 : (szM may) (i + 1) (i + L) = sizesP may L i 0 := by
          rw [sizesP_zero]
          unfold szM
          rw [show i + L - (i + 1) = L - 1 by omega]
        have hlen1 := lenN_le may (L - 1) (i + 1)
        rw [hz0] at b2
        refine WKO.appR (z := 2) (len := 0) (cs := []) rfl rfl hr8 b2 (by decide) (zC_ones _) (by rw [sizesP_zero]; unfold lenN at hlen1; omega) (by decide) ?_
        intro v H9 r9 n9 g9 o9
        rw [Nat.zero_add, List.nil_append] at r9
        have hk9 : ∀ q, q < H7.next → H9.get q = H7.get q := fun q hq => (g9 q (by omega) (fun e => by simp only [AV.own, Option.some.injEq] at e; omega)).trans (hk8 q hq)
        have hT9 := hT7.up (H' := H9) (by omega) hk9
        have hv9 : ∀ q, v.own = some q → q ∉ R ∧ X.own ≠ some q := fun q hq => by
          have h1 : H7.next ≤ q := by
            rcases o9 q hq with e | e
            · simp only [AV.own, Option.some.injEq] at e; omega
            · omega
          exact ⟨fun hR => by have := (hT7.lt _ hR).2; omega, fun e => by have := hnX _ e; omega⟩
        clear hr8 hn8 hg8 hk8 hT8 a1 a2 a3 a4 b1 b2 b3 b4 hrow1 hx8 hr1 g9 o9
        repeat' (first | refine WK.seqC (by assumption) ?_ | intro (_ : CleanTo _ _) | refine WK.block ?_ | (apply WK.reg; (· exact lnn)) | refine WKO.nil ?_ | ((first | apply WKO.op); (· first | exact k_mv rfl | exact opA); (· rfl)) | refine pN ?_ | fail)
        rename_i cH9 cH9b
        have hc9 := cH9b.1 (cH9.1 (hcB.1 hc7'))
        clear cH9 cH9b
        refine WK.loop (α := Nat × AV) (fun t => [(0, .str s), (1, pairsI l), (2, .int .i64 gap), (7, nA n), (8, X), (10, nA L), (11, nA i), (12, nA (i + L)), (13, t.2), (14, nA (i + 1 + t.1))]) (fun t H' => TabH (szM may) n H X R (dn L i) H' ∧ Go.Eng.Clean H' ∧ RowE 2 H' t.2 (sizesP may L i t.1).length (zC (sizesP may L i t.1)) ∧ (∀ q, t.2.own = some q → q ∉ R ∧ X.own ≠ some q) ∧ t.1 ≤ L - 1) (fun t => L - t.1) (0, v) (.cons rfl <| .cons rfl <| .cons rfl <| .cons rfl <| .cons rfl <| .cons rfl <| .cons rfl <| .cons rfl <| .cons rfl <| .cons rfl <| .nil _) ⟨hT9.up nxx (fun q _ => rfl), hc9, r9.frame nxx (fun _ _ => rfl), hv9, Nat.zero_le _⟩ (by show L - 0 < fuel; omega) ?_
        rintro ⟨k, v⟩ H10 ⟨hT10, hc10, r10, o10, hk10⟩
        simp only at hT10 hc10 r10 o10 hk10 ⊢
        clear hv9 r9 hT9 hc9 hk9 n9
        refine WK.cl hcc ?_
        repeat' (first | refine WK.seqC (by assumption) ?_ | intro (_ : CleanTo _ _) | refine WK.skip ?_ | refine WK.exit ?_ | refine WK.block ?_ | (apply WK.reg; (· exact lnn)) | refine WKO.nil ?_ | ((first | apply WKO.op); (· first | exact k_mv rfl | exact opA); (· rfl)) | refine pN ?_ | refine pX ?_ | refine bX ?_ | (apply WK.condD; (· rfl); all_goals intro _) | fail)
        · rename_i ce cf1 cg ch
          have hkk : k + 1 < L := by omega
          refine WKO.callV rfl rfl rfl (show ∃ v' H', cf 53 [.str s, pairsI l, .int .i64 gap, nA i, nA (i + 1 + k)] ((H10.bump 3).bump 6) = some (v', H') ∧ (v' = .bool (may i (i + 1 + k)) ∧ H' = (H10.bump 3).bump 6) from ⟨_, _, h53 i (i + 1 + k) (by omega) (by omega) _, rfl, rfl⟩) ?_
          rintro _ _ ⟨rfl, rfl⟩
          have hT11 := hT10.up (H' := (H10.bump 3).bump 6) nxx (fun q _ => rfl)
          have r11 := r10.frame (H' := (H10.bump 3).bump 6) nxx (fun q _ => rfl)
          generalize hH11 : (H10.bump 3).bump 6 = H11 at hT11 r11 ⊢
          have hn11 : H10.next ≤ H11.next := by rw [← hH11]; simp only [next_bump]; omega
          have hc11 : Go.Eng.Clean H11 := by rw [← hH11]; exact (clean_bump _ 6).1 ((clean_bump _ 3).1 hc10)
          clear hT10 r10
          cases hm : may i (i + 1 + k) with
          | false =>
            repeat' (first | intro (_ : CleanTo _ _) | refine WK.skip ?_ | (apply WK.reg; (· exact lnn)) | refine WKO.nil ?_ | ((first | apply WKO.op); (· first | exact k_mv rfl | exact opA); (· rfl)) | refine pN ?_ | refine bN ?_ | (apply WK.condF; (· rfl); (· exact dcd)) | fail)
            refine ⟨(k + 1, v), (.cons rfl <| .cons rfl <| .cons rfl <| .cons rfl <| .cons rfl <| .cons rfl <| .cons rfl <| .cons rfl <| .cons rfl <| .cons rfl <| .nil _), ⟨hT11.up nxx (fun q _ => rfl), (clean_bump _ 3).1 hc11, ?_, o10, by show k + 1 ≤ L - 1; omega⟩, by show L - (k + 1) < L - k; omega⟩
            simp only
            rw [sizesP_succ, if_neg (by rw [hm]; simp)]
            exact r11.frame nxx (fun _ _ => rfl)
          | true =>
            obtain ⟨M1, a1, a2, a3, a4⟩ := hT11.o (i + 1) (by omega)
            obtain ⟨u1, b1, b2, b3, b4⟩ := a3 (i + 1 + k) (by omega) (by unfold dn; omega)
            obtain ⟨M2, d1, d2, d3, d4⟩ := hT11.o (i + 1 + k + 1) (by omega)
            obtain ⟨u2, e1, e2, e3, e4⟩ := d3 (i + L) (by omega) (by unfold dn; omega)
            have hrow1 := hT11.row (i := i + 1) (by omega)
            have hrow2 := hT11.row (i := i + 1 + k + 1) (by omega)
            have hx11 := hT11.x
            generalize hr1 : R.getD (i + 1) 0 = r1 at a1 hrow1
            generalize hr2 : R.getD (i + 1 + k + 1) 0 = r2 at d1 hrow2
            have hA : (szM may) (i + 1) (i + 1 + k) = sizesN may k (i + 1) := by unfold szM; rw [show i + 1 + k - (i + 1) = k by omega]
            have hB : (szM may) (i + 1 + k + 1) (i + L) = sizesN may (L - 2 - k) (i + 2 + k) := by unfold szM; rw [show i + L - (i + 1 + k + 1) = L - 2 - k by omega, show i + 1 + k + 1 = i + 2 + k by omega]
            have hsu := sizesP_succ may L i k
            rw [if_pos hm, ← hA, ← hB] at hsu
            have hsum := sizesP_sum may L i (k + 1) (by omega) (by omega) (by omega)
            rw [hsu, plusF_sum] at hsum
            have hbig := pow8 (n := L) (by omega)
            have hts := timesF_sum ((szM may) (i + 1) (i + 1 + k)) ((szM may) (i + 1 + k + 1) (i + L))
            have hAl : ((szM may) (i + 1) (i + 1 + k)).length ≤ 41 := by rw [hA]; have := lenN_le may k (i + 1); unfold lenN at this; omega
            have hBl : ((szM may) (i + 1 + k + 1) (i + L)).length ≤ 41 := by rw [hB]; have := lenN_le may (L - 2 - k) (i + 2 + k); unfold lenN at this; omega
            have hAp : 0 < ((szM may) (i + 1) (i + 1 + k)).length := by rw [hA]; exact sizesN_pos _ _ _
            have hBp : 0 < ((szM may) (i + 1 + k + 1) (i + L)).length := by rw [hB]; exact sizesN_pos _ _ _
            have hAs : ((szM may) (i + 1) (i + 1 + k)).sum < bigN := by rw [hA]; exact Nat.lt_of_le_of_lt (sizesN_sum _ _ _ (by omega)) (pow8 (by omega))
            have hBs : ((szM may) (i + 1 + k + 1) (i + L)).sum < bigN := by rw [hB]; exact Nat.lt_of_le_of_lt (sizesN_sum _ _ _ (by omega)) (pow8 (by omega))
            have hPl := lenP_le1 may L i k (by omega) (by omega)
            have hTl := timesF_len ((szM may) (i + 1) (i + 1 + k)) ((szM may) (i + 1 + k + 1) (i + L))
            generalize (szM may) (i + 1) (i + 1 + k) = sa at *
            generalize (szM may) (i + 1 + k + 1) (i + L) = sb at *
            repeat' (first | intro (_ : CleanTo _ _) | (apply WK.regd0; (· exact lnn)) | refine WKO.nil ?_ | ((first | apply WKO.op); (· first | exact k_mv rfl | exact k_iaE rfl rfl (RdR.of hx11) (by omega) | (apply k_ld1; (· rfl); (· exact hx11); (· rfl); (· exact hrow1)) | (apply k_ld1; (· rfl); (· exact hx11); (· rfl); (· exact hrow2)) | exact k_ia1s rfl rfl (by omega) | (apply k_ldX; (· rfl); (· exact a1); (· exact b1)) | (apply k_ldX; (· rfl); (· exact d1); (· exact e1)) | exact opA); (· rfl)) | refine pN ?_ | (apply WK.condT; (· rfl); (· exact dcd)) | fail)
            obtain ⟨w1, H12, q1, r12, k12⟩ := h55 u1 u2 sa sb (H11.bump 20) (b2.frame nxx (fun _ _ => rfl)) (e2.frame nxx (fun _ _ => rfl)) (by omega) (by omega) hAp hBp (by omega) hAs hBs
            have hx12 : ∀ q, X.own = some q → q < H11.next := fun q hq => hx11.own_lt hq
            have hk12 : ∀ q, q < H11.next → H12.get q = H11.get q := fun q hq => k12.2.1 q nxx
            have hn12 : H11.next ≤ H12.next := by have := k12.1; simp only [next_bump] at this; omega
            obtain ⟨w2, H13, q2, r13, k13⟩ := h54 v w1 (sizesP may L i k) (0 :: timesF sa sb) H12 (RdR.of (r11.frame hn12 (fun q hq => hk12 q (r11.own_lt hq)))) (RdR.of r12) (by omega) (by rw [List.length_cons, hTl]; split <;> omega) (by rw [List.sum_cons]; omega)
            rw [plus_moved, ← hsu] at r13
            refine WKO.callV rfl rfl rfl (show ∃ v' H', cf 55 [u1, u2] (H11.bump 20) = some (v', H') ∧ (v' = w1 ∧ H' = H12) from ⟨_, _, q1, rfl, rfl⟩) ?_
            rintro v5 H5 ⟨e5, e6⟩
            subst v5 H5
            refine WKO.callV rfl rfl rfl (show ∃ v' H', cf 54 [v, w1] H12 = some (v', H') ∧ (v' = w2 ∧ H' = H13) from ⟨_, _, q2, rfl, rfl⟩) ?_
            rintro v5 H5 ⟨e5, e6⟩
            subst v5 H5
            have hk13 : ∀ q, q < H11.next → H13.get q = H11.get q := fun q hq => (k13.2.1 q (by omega)).trans (hk12 q hq)
            have hn13 : H11.next ≤ H13.next := by have := k13.1; omega
            repeat' (first | intro (_ : CleanTo _ _) | (apply WK.reg; (· exact lnn)) | refine WKO.nil ?_ | ((first | apply WKO.op); (· first | exact k_mv rfl | exact opA); (· rfl)) | refine pN ?_ | refine bN ?_ | fail)
            rename_i cz
            refine ⟨(k + 1, w2), (.cons rfl <| .cons rfl <| .cons rfl <| .cons rfl <| .cons rfl <| .cons rfl <| .cons rfl <| .cons rfl <| .cons rfl <| .cons rfl <| .nil _), ⟨hT11.up nxx (fun q hq => (bump_get rfl q).trans (hk13 q hq)), cz.1 hc10, r13.frame nxx (fun _ _ => rfl), fun q hq => ?_, by show k + 1 ≤ L - 1; omega⟩, by show L - (k + 1) < L - k; omega⟩
            have h1 := k13.2.2 q hq
            exact ⟨fun hR => by have := (hT11.lt _ hR).2; omega, fun e => by have := hx12 q e; omega⟩
        · refine ⟨fun _ => ?_, fun q => absurd rfl q⟩
          have hkL : k = L - 1 := by omega
          subst hkL
          have hfin : (szM may) i (i + L) = sizesP may L i (L - 1) := by rw [szF_P _ (by omega), Nat.add_sub_cancel_left]
          obtain ⟨M, m1, m2, m3, m4⟩ := hT10.o i (by omega)
          have hm := mem_getD (R := R) (i := i) (by omega)
          have hrow := hT10.row (i := i) (by omega)
          have hx10 := hT10.x
          obtain ⟨Hb, hHb⟩ : ∃ Hb, ((H10.bump 3).bump 8).set (R.getD i 0) (some (.cells (M.set (i + L) v) none)) = Hb := ⟨_, rfl⟩
          repeat' (first | (apply WK.reg; (· exact lnn)) | ((first | apply WKO.op); (· first | exact k_mv rfl | exact k_iaE rfl rfl (RdR.of hx10) (by omega) | (apply k_ld1; (· rfl); (· exact hx10); (· rfl); (· exact hrow)) | exact k_ia1s rfl rfl (by omega)); (· rfl)) | fail)
          refine WKO.opn (v := undefA) (H1 := Hb) (k_any (by rw [← hHb]; exact store_one (j := i + L) rfl rfl r10.one m1 (by omega))) rfl ?_
          repeat' (first | intro (_ : CleanTo _ _) | (apply WK.reg; (· exact lnn)) | refine WKO.nil ?_ | ((first | apply WKO.op); (· first | exact k_mv rfl | exact opA); (· rfl)) | refine pN ?_ | refine bN ?_ | fail)
          rename_i cz
          have hU := hT10.up (H' := (H10.bump 3).bump 8) nxx (fun q _ => rfl)
          have hnb' : Hb.next = H10.next + 11 := by rw [← hHb]; rfl
          have hP := hU.put (H' := Hb) (i := i) (j := i + L) (v := v) (M := M) (by omega) (by omega) m1 (by rw [← hHb, AHeap.get_set, if_pos rfl]) (by rw [← hHb]; rfl) (fun q hq => by rw [← hHb, AHeap.get_set, if_neg hq])
            (by rw [hfin]; exact (RdR.of r10).frame nxx (fun _ _ => rfl)) (RowE.capOk r10 (by rw [← hfin]; exact sizesN_pos _ _ _)) o10
          exact ⟨i + 1, (.cons rfl <| .cons rfl <| .cons rfl <| .cons rfl <| .cons rfl <| .cons rfl <| .cons rfl <| .nil _), ⟨(hP.same (fun a b _ _ => by unfold dn; omega)).up nxx (fun q _ => rfl), cz.1 hc7', by omega⟩, by omega⟩
      · have hiL2 : i + L = n + 1 := by omega
        exact ⟨L + 1, (.cons rfl <| .cons rfl <| .cons rfl <| .cons rfl <| .cons rfl <| .cons rfl <| .nil _), ⟨(hT7.same (fun a b ha hb => by unfold dn; omega)).up nxx (fun q _ => rfl), (clean_bump _ 3).1 ((clean_bump _ 5).1 hc7'), by omega⟩, by omega⟩
    · have hLn2 : L = n + 1 := by omega
      exact ⟨fun _ q => (by cases q), _, rfl, R, hRl, (hT6.same (fun a b ha hb => by unfold dn; omega)).up nxx (fun q _ => rfl)⟩
end
end Go.Proofs.YtfcgofffalmdfaaGreatDoor.PA
namespace Go.Proofs.YtfcgofffalmdfaaGreatDoor.PA
open Go Go.Eng Go.Proofs
section
variable {cf : CF} {n : Nat} {H : AHeap} {l : KL0} {x y : XO} {a b : Int} {p : Nat}
theorem k_geqII (hx : evK l x = some (zA a)) (hy : evK l y = some (zA b)) : XV cf l H n (.bin .geq x y) = some (.bool (decide (a ≥ b)), H) := k_bin hx hy rfl
theorem k_leqII (hx : evK l x = some (zA a)) (hy : evK l y = some (zA b)) : XV cf l H n (.bin .leq x y) = some (.bool (decide (a ≤ b)), H) := k_bin hx hy rfl
theorem k_lss8 {c : Nat} (hx : evK l x = some (bA p)) : XV cf l H n (.bin .lss x (.k (.int .u8 (.ofNat c)))) = some (.bool (decide (p < c)), H) := by
  have h : XV cf l H n (.bin .lss x (.k (.int .u8 (.ofNat c)))) = some (.bool (decide ((p : Int) < (c : Int))), H) := k_bin hx rfl rfl
  rwa [show decide ((p : Int) < (c : Int)) = decide (p < c) from decide_eq_decide.2 Int.ofNat_lt] at h
theorem k_gtr8 {c : Nat} (hx : evK l x = some (bA p)) : XV cf l H n (.bin .gtr x (.k (.int .u8 (.ofNat c)))) = some (.bool (decide (p > c)), H) := by
  have h : XV cf l H n (.bin .gtr x (.k (.int .u8 (.ofNat c)))) = some (.bool (decide ((p : Int) > (c : Int))), H) := k_bin hx rfl rfl
  rwa [show decide ((p : Int) > (c : Int)) = decide (p > c) from decide_eq_decide.2 Int.ofNat_lt] at h
end
theorem in_ok {cf : CF} {fuel : Nat} {H : AHeap} {x a b : Int} : ∃ v H', xfunc cf fuel L50 [zA x, zA a, zA b] H = some (v, H') ∧ v = .bool (decide (a ≤ x ∧ x ≤ b)) ∧ H' = (H.bump 1).bump 9 := by
  refine xfunc_ofK rfl (by show 3 ≤ 15; omega) ?_
  unfold L50
  dsimp only
  repeat' (first | refine WK.seq ?_ | refine WK.ret ?_ | (apply WK.reg; (· exact lnn)) | refine WKO.nil ?_ | ((first | apply WKO.op | ((first | apply WKO.gop); (· rfl); (· exact dcd))); (· first | exact k_mv rfl | exact k_geqII rfl rfl | exact k_leqII rfl rfl | exact opA); (· rfl)) | ((first | apply WKO.gnoT); (· rfl); (· exact dcd)) | ((first | apply WKO.gsp); (· rfl); all_goals ((fail_if_success (refine known ?_ ?_; (· assumption))); intro _)) | refine pN ?_ | fail)
  · rename_i h
    exact ⟨fun id q => (by cases q), _, rfl, congrArg AV.bool (decide_eq_decide.2 ⟨fun q => ⟨h, q⟩, fun q => q.2⟩), rfl⟩
  · rename_i h
    exact ⟨fun id q => (by cases q), _, rfl, congrArg AV.bool (decide_eq_false (fun q => h q.1)).symm, rfl⟩
theorem badP_iff (p : Int × Int) : badP p = false ↔ (0 ≤ p.1 ∧ p.1 ≤ 3) ∧ 0 ≤ p.2 ∧ p.2 ≤ 3 := by
  simp only [badP, Bool.or_eq_false_iff, decide_eq_false_iff_not]
  omega
theorem any_take {α : Type} {p : α → Bool} {l : List α} {i : Nat} {x : α} (h : l[i]? = some x) (h1 : (l.take i).any p = false) (h2 : p x = false) : (l.take (i + 1)).any p = false := by
  rw [List.take_add_one, h, List.any_append, h1]
  simp [h2]
set_option maxHeartbeats 4000000 in
theorem rules_walk {cf : CF} {fuel : Nat} {H : AHeap} {s : List UInt8} {l : List (Int × Int)} {gap : Int} (hf : 1000 < fuel) (h50 : ∀ (x a b : Int) (H : AHeap), cf 50 [zA x, zA a, zA b] H = some (.bool (decide (a ≤ x ∧ x ≤ b)), (H.bump 1).bump 9)) :
    ∃ v H', xfunc cf fuel L15 [.str s, pairsI l, .int .i64 gap] H = some (v, H') ∧ v = zA (readE s l gap) := by
  refine xfunc_ofK rfl (by show 3 ≤ 58; omega) ?_
  have hr : ∀ {Hq : AHeap}, RdR 2 Hq (pairsI l) l.length (encPairs l) := RdR.imm (encPairs_length l)
  unfold L15
  dsimp only
  repeat' (first | refine WK.seq ?_ | refine WK.skip ?_ | refine WK.ret ?_ | refine WK.block ?_ | (apply WK.reg; (· exact lnn)) | refine WKO.nil ?_ | ((first | apply WKO.op | ((first | apply WKO.gop); (· rfl); (· exact dcd))); (· first | exact k_mv rfl | exact k_slen rfl | exact k_lenE rfl (hr (Hq := H)) | exact opA); (· rfl)) | ((first | apply WKO.gnoF); (· rfl); (· exact dcd)) | ((first | apply WKO.gsp); (· rfl); all_goals ((fail_if_success (refine known ?_ ?_; (· assumption))); intro _)) | refine pN ?_ | refine pR ?_ | (apply WK.condT; (· rfl); (· exact dcd)) | (apply WK.condD; (· rfl); all_goals intro _) | fail)
  · rename_i h
    exact ⟨fun id q => (by cases q), _, rfl, by unfold readE; rw [if_pos (.inl h)]; rfl⟩
  · rename_i h1 h2
    exact ⟨fun id q => (by cases q), _, rfl, by unfold readE; rw [if_pos (.inr h2)]; rfl⟩
  · rename_i h1 h2
    have h3 : ¬ (40 < s.length ∨ 16 < l.length) := by omega
    refine WK.loop (α := Nat) (fun i => [(0, .str s), (1, pairsI l), (2, .int .i64 gap), (7, nA i)]) (fun i H' => i ≤ l.length ∧ (l.take i).any badP = false) (fun i => l.length - i) 0 (.cons rfl <| .cons rfl <| .cons rfl <| .cons rfl <| .nil _) ⟨Nat.zero_le _, rfl⟩ (by show l.length - 0 < fuel; omega) ?_
    rintro i H1 ⟨hi, hb⟩
    by_cases hil : i < l.length
    · obtain ⟨p, hp⟩ : ∃ p, l[i]? = some p := ⟨_, List.getElem?_eq_getElem hil⟩
      obtain ⟨e1, e2⟩ := encP_get hp
      have hbad : ¬ badP p = false → readE s l gap = 1 := fun h => by
        unfold readE
        rw [if_neg h3, if_pos]
        exact List.any_eq_true.2 ⟨p, List.mem_of_getElem? hp, by simpa using h⟩
      repeat' (first | refine WK.seq ?_ | refine WK.skip ?_ | refine WK.ret ?_ | refine WK.block ?_ | (apply WK.reg; (· exact lnn)) | refine WKO.nil ?_ | ((first | apply WKO.op | ((first | apply WKO.gop); (· rfl); (· exact dcd))); (· first | exact k_mv rfl | exact k_lenE rfl (hr (Hq := H)) | exact k_iaM rfl rfl (by omega) | exact k_faP rfl | exact k_ldP rfl e1 | exact k_ldP rfl e2 | (apply k_call; (· rfl); (· rfl); (· exact h50 p.1 0 3 _)) | (apply k_call; (· rfl); (· rfl); (· exact h50 p.2 0 3 _)) | exact opA); (· rfl)) | ((first | apply WKO.gnoF); (· rfl); (· exact dcd)) | ((first | apply WKO.gsp); (· rfl); all_goals ((fail_if_success (refine known ?_ ?_; (· assumption))); intro _)) | refine pN ?_ | refine pR ?_ | refine bN ?_ | refine bR ?_ | (apply WK.condT; (· rfl); (· exact dcd)) | (apply WK.condD; (· rfl); all_goals intro _) | fail)
      · rename_i h
        exact ⟨fun id q => (by cases q), _, rfl, by rw [hbad (fun e => h ((badP_iff p).1 e).1)]; rfl⟩
      · rename_i h1 h2
        exact ⟨fun id q => (by cases q), _, rfl, by rw [hbad (fun e => h2 ((badP_iff p).1 e).2)]; rfl⟩
      · rename_i h1 h2
        exact ⟨i + 1, (.cons rfl <| .cons rfl <| .cons rfl <| .cons rfl <| .nil _), ⟨by omega, any_take hp hb ((badP_iff p).2 ⟨Decidable.not_not.1 h1, Decidable.not_not.1 h2⟩)⟩, by omega⟩
    · have hil2 : i = l.length := by omega
      rw [hil2, List.take_length] at hb
      repeat' (first | refine WK.seq ?_ | refine WK.skip ?_ | refine WK.ret ?_ | refine WK.exit ?_ | refine WK.block ?_ | (apply WK.reg; (· exact lnn)) | refine WKO.nil ?_ | ((first | apply WKO.op); (· first | exact k_mv rfl | exact k_lenE rfl (hr (Hq := H)) | (apply k_call; (· rfl); (· rfl); (· exact h50 gap 0 5 _)) | exact opA); (· rfl)) | refine pN ?_ | refine pR ?_ | refine pX ?_ | refine bX ?_ | (apply WK.condF; (· rfl); (· exact dcd)) | (apply WK.condD; (· rfl); all_goals intro _) | fail)
      · rename_i hg
        exact ⟨fun id q => (by cases q), _, rfl, by unfold readE; rw [if_neg h3, if_neg (by rw [hb]; decide), if_pos (by omega)]; rfl⟩
      · rename_i hg
        have hgg : ¬ (gap < 0 ∨ gap > 5) := by omega
        have hbad : ∀ i : Nat, i < s.length → ¬ inS (s.getD i 97) = true → readE s l gap = 2 := fun i hi h => by
          unfold readE
          rw [if_neg h3, if_neg (by rw [hb]; decide), if_neg hgg, if_neg]
          intro e
          refine h (List.all_eq_true.1 e _ ?_)
          rw [List.getD_eq_getElem?_getD, List.getElem?_eq_getElem hi]
          exact List.getElem_mem hi
        refine WK.loop (α := Nat) (fun i => [(0, .str s), (8, nA i)]) (fun i H' => i ≤ s.length ∧ (s.take i).all inS = true) (fun i => s.length - i) 0 (.cons rfl <| .cons rfl <| .nil _) ⟨Nat.zero_le _, rfl⟩ (by show s.length - 0 < fuel; omega) ?_
        rintro i H1 ⟨hi, ha⟩
        by_cases hil : i < s.length
        · repeat' (first | refine WK.seq ?_ | refine WK.skip ?_ | refine WK.ret ?_ | refine WK.block ?_ | (apply WK.reg; (· exact lnn)) | refine WKO.nil ?_ | ((first | apply WKO.op | ((first | apply WKO.gop); (· rfl); (· exact dcd))); (· first | exact k_mv rfl | exact k_slen rfl | exact k_sidx rfl rfl (by omega) | exact k_lss8 rfl | exact k_gtr8 rfl | exact opA); (· rfl)) | ((first | apply WKO.gnoF); (· rfl); (· exact dcd)) | ((first | apply WKO.gsp); (· rfl); all_goals ((fail_if_success (refine known ?_ ?_; (· assumption))); intro _)) | refine pN ?_ | refine pR ?_ | refine bN ?_ | refine bR ?_ | (apply WK.condT; (· rfl); (· exact dcd)) | (apply WK.condD; (· rfl); all_goals intro _) | fail)
          · rename_i h
            exact ⟨fun id q => (by cases q), _, rfl, by rw [hbad i hil (by unfold inS; simp only [Bool.and_eq_true, decide_eq_true_eq]; omega)]; rfl⟩
          · rename_i h4 h
            exact ⟨fun id q => (by cases q), _, rfl, by rw [hbad i hil (by unfold inS; simp only [Bool.and_eq_true, decide_eq_true_eq]; omega)]; rfl⟩
          · rename_i h4 h
            refine ⟨i + 1, (.cons rfl <| .cons rfl <| .nil _), ⟨by omega, ?_⟩, by omega⟩
            rw [List.take_add_one, List.getElem?_eq_getElem hil, List.all_append, ha]
            have e : s[i] = s.getD i 97 := by rw [List.getD_eq_getElem?_getD, List.getElem?_eq_getElem hil]; rfl
            simp only [Option.toList_some, List.all_cons, List.all_nil, Bool.and_true, Bool.true_and, e]
            unfold inS
            simp only [Bool.and_eq_true, decide_eq_true_eq]
            omega
        · have hil2 : i = s.length := by omega
          rw [hil2, List.take_length] at ha
          repeat' (first | refine WK.seq ?_ | refine WK.ret ?_ | refine WK.exit ?_ | (apply WK.reg; (· exact lnn)) | refine WKO.nil ?_ | ((first | apply WKO.op); (· first | exact k_mv rfl | exact k_slen rfl | exact opA); (· rfl)) | refine pN ?_ | refine pX ?_ | refine bX ?_ | (apply WK.condF; (· rfl); (· exact dcd)) | fail)
          exact ⟨fun id q => (by cases q), _, rfl, by unfold readE; rw [if_neg h3, if_neg (by rw [hb]; decide), if_neg hgg, if_pos ha]; rfl⟩
theorem E15 (s : List UInt8) (l : List (Int × Int)) (gap : Int) (H : AHeap) : KE 15 [.str s, pairsI l, .int .i64 gap] H = some (zA (readE s l gap), H) := by
  obtain ⟨v, H', h, rfl⟩ := rules_walk (cf := xcallK Kno F 3000 1) (fuel := 3000) (H := ⟨.e, 0⟩) (s := s) (l := l) (gap := gap) (by decide) (fun x a b H => by
    obtain ⟨v, H', q1, rfl, rfl⟩ := in_ok (cf := xcallK Kno F 3000 0) (fuel := 3000) (H := H) (x := x) (a := a) (b := b)
    exact (cfstep rfl rfl).trans q1)
  have hc := (xcallK_sound mixed Kno_ok F_ok 3000 2 15 _ _ _ _ ((cfstep rfl rfl).trans h)).pure (H := H) (by simp only [AV.frozL, pairs_froz, AV.froz, Bool.and_self]) (Fz.froz rfl)
  obtain ⟨v', q1, q2⟩ := KE_hit hc (fun s' l' g' e => by
    simp only [List.cons.injEq, AV.str.injEq, AV.int.injEq, and_true, true_and] at e
    obtain ⟨e1, e2, e3⟩ := e
    rw [e1, pairsI_inj e2, e3]
    rfl)
  rw [q1, q2 s l gap rfl]
  rfl
theorem E53 {s : List UInt8} {l : List (Int × Int)} {gap : Int} {i j : Nat} (hE : readE s l gap = 0) (hij : i < j) (hj : j < s.length) (H : AHeap) : KE 53 [.str s, pairsI l, .int .i64 gap, nA i, nA j] H = some (.bool (mayF s (rulesOf l) gap i j), H) := by
  obtain ⟨h1, h2, h3, _⟩ := readE_zero hE
  have h16 : l.length ≤ 16 := by
    refine Nat.le_of_not_lt fun h => ?_
    unfold readE at hE
    rw [if_pos (.inr h)] at hE
    cases hE
  obtain ⟨v, H', h, rfl, _⟩ := RMay_ok (cf := xcallK Kno F 3000 0) (fuel := 3000) (H := ⟨.e, 0⟩) (s := s) (l := l) (gap := gap) (i := i) (j := j) h3 h2 (by omega) hj hij (by omega) (by omega) (by omega)
  have hc := (xcallK_sound mixed Kno_ok F_ok 3000 1 53 _ _ _ _ ((cfstep rfl rfl).trans h)).pure (H := H) (by simp only [AV.frozL, pairs_froz, AV.froz, nA, Bool.and_self]) (Fz.froz rfl)
  obtain ⟨v', q1, q2⟩ := KE_hit hc (fun s' l' g' i' j' e => by
    simp only [List.cons.injEq, AV.str.injEq, AV.int.injEq, and_true, true_and] at e
    obtain ⟨e1, e2, e3, e4, e5⟩ := e
    rw [e1, pairsI_inj e2, e3, nA_inj e4, nA_inj e5])
  rw [q1, q2 s l gap i j rfl]
def cutI (cs : List AV) (len m : Nat) : AV := if len = 0 then .imm [] 0 false else .imm cs m (false && decide (m = len))
theorem cut_imm {ev : XO → Option AV} {x : XO} {cs : List AV} {len m z : Nat} (hm : m ≤ len) (hx : ev x = some (nA m)) : cutA ev z (.imm cs len false) none (some x) none = some (cutI cs len m) := by
  have hb : bndA len (nA m) = some m := bndA_nat hm
  unfold cutI
  by_cases h0 : len = 0
  · subst h0
    simp only [cutA, bounds, obnd, hiBnd, hx, Option.bind_some, hb]
    simp
  · rw [if_neg h0]
    simp only [cutA, bounds, obnd, hiBnd, hx, Option.bind_some, hb]
    rw [if_neg (fun e => h0 e.symm)]
    simp
theorem cutI_src {H' : AHeap} {cs : List AV} {len m z : Nat} (hcl : cs.length = len * z) (hm : m ≤ len) : lenA (cutI cs len m) = some m ∧ srcA H' z m (cutI cs len m) = some (cs.take (m * z)) := by
  unfold cutI
  by_cases h0 : len = 0
  · subst h0
    rw [Nat.zero_mul] at hcl
    have : cs = [] := List.eq_nil_of_length_eq_zero hcl
    subst this
    have : m = 0 := by omega
    subst this
    rw [if_pos rfl]
    exact ⟨rfl, by simp [srcA]⟩
  · have hmz : m * z ≤ cs.length := by rw [hcl]; exact Nat.mul_le_mul_right _ hm
    rw [if_neg h0]
    refine ⟨rfl, ?_⟩
    simp only [srcA]
    rw [if_pos hmz]
theorem k_cut {cf : CF} {n z : Nat} {H : AHeap} {l : KL0} {x y : XO} {v w : AV} (hx : evK l x = some v) (h : cutA (evK l) z v none (some y) none = some w) : XV cf l H n (.cut z x none (some y) none) = some (w, H) := k_any (by simp only [xval, xop, hx, Option.bind_some, h, AR.ofV])
theorem encPairs_take (l : List (Int × Int)) (m : Nat) : (encPairs l).take (m * 2) = encPairs (l.take m) := by
  conv => lhs; rw [← List.take_append_drop m l, encPairs_app]
  by_cases h : m ≤ l.length
  · rw [List.take_append_of_le_length (by rw [encPairs_len, List.length_take]; omega), List.take_of_length_le (by rw [encPairs_len, List.length_take]; omega)]
  · rw [List.drop_of_length_le (by omega)]
    show ((encPairs (l.take m)) ++ []).take (m * 2) = _
    rw [List.append_nil, List.take_of_length_le (by rw [encPairs_len, List.length_take]; omega)]
theorem few_walk (l0 : List (Int × Int)) (gap : Int) : ∃ v H', xfunc (xcallK Kno F 3000 0) 3000 L12 [.agg [pairsI l0, .int .i64 gap]] ⟨.e, 0⟩ = some (v, H') ∧ ∃ u, v = .tup [u, .int .i64 gap] ∧ RowE 2 H' u (l0.take 17).length (encPairs (l0.take 17)) := by
  refine xfunc_ofK rfl (by show 1 ≤ 15; omega) ?_
  have hF := HF.start ⟨.e, 0⟩
  have hcl : Go.Eng.Clean ⟨.e, 0⟩ := fun j _ => get_e0 j
  have hcc : CleanCF (xcallK Kno F 3000 0) := xcallK_clean (fun _ _ _ _ _ h => by cases h) 0
  generalize (⟨.e, 0⟩ : AHeap) = H at hF hcl ⊢
  unfold L12
  dsimp only
  repeat' (first | refine WK.seqC (by assumption) ?_ | intro (_ : CleanTo _ _) | (apply WK.reg; (· exact lnn)) | (apply WKO.boxO; (· rfl); (· assumption); (· rfl); (· exact nxx); (· exact nxx); (· exact nxx); intro _ _ _) | refine WKO.nil ?_ | ((first | apply WKO.op); (· first | exact k_mv rfl); (· rfl)) | refine pN ?_ | fail)
  rename_i H1 hF1 hn1 hc1
  have hC1 : Go.Eng.Clean H1 := hc1.1 hcl
  have g1 : H1.get H.next = some (.cells [pairsI l0, .int .i64 gap] none) := hF1.obj _ (.head _)
  have l1 : H.next < H1.next := by rw [hn1, next_bump]; omega
  clear hF hF1 hc1
  refine WK.regT (k := 13) rfl ?_
  obtain ⟨Ha, hHa⟩ : ∃ Ha, (H1.bump 13).set H1.next (some (.cells [] none)) = Ha := ⟨_, rfl⟩
  have hna : Ha.next = H1.next + 13 := by rw [← hHa]; rfl
  have hga : ∀ k, k ≠ H1.next → Ha.get k = H1.get k := fun k hk => by rw [← hHa, AHeap.get_set, if_neg hk]; rfl
  have hNa : Ha.get H1.next = some (.cells [] none) := by rw [← hHa, AHeap.get_set, if_pos rfl]
  have hEa : RowE 2 Ha (.sl H1.next 0 0 0) 0 [] := .inr ⟨rfl, rfl, H1.next, rfl, by omega, hNa⟩
  have hmin : (l0.take 17).length = min l0.length 17 := by rw [List.length_take, Nat.min_comm]
  obtain ⟨c2, c3⟩ := cutI_src (H' := Ha) (z := 2) (cs := encPairs l0) (encPairs_length l0) (Nat.min_le_left l0.length 17)
  rw [encPairs_take, show l0.take (min l0.length 17) = l0.take 17 from by
      rcases Nat.le_total l0.length 17 with h | h
      · rw [Nat.min_eq_left h, List.take_of_length_le h, List.take_of_length_le (Nat.le_refl _)]
      · rw [Nat.min_eq_right h]] at c3
  have hcut : ∀ {n : Nat} {K : KL0} {x y : XO}, evK K x = some (pairsI l0) → evK K y = some (nA (min l0.length 17)) → XV (xcallK Kno F 3000 0) K Ha n (.cut 2 x none (some y) none) = some (cutI (encPairs l0) l0.length (min l0.length 17), Ha) := fun hx hy => k_cut hx (cut_imm (Nat.min_le_left l0.length 17) hy)
  generalize cutI (encPairs l0) l0.length (min l0.length 17) = Y at c2 c3 hcut
  obtain ⟨v3, H3, e3, R3, hn3, hg3, ho3⟩ := hEa.app0 (bytes := 16) (n := min l0.length 17) (y := Y) (new := encPairs (l0.take 17)) (by omega) (by omega) (by omega) c2 c3 (by rw [encPairs_len, hmin]) (encPairs_ones _)
  rw [Nat.zero_add, List.nil_append, ← hmin] at R3
  have hlen : ∀ {n : Nat} {K : KL0} {x : XO}, evK K x = some (pairsI l0) → XV (xcallK Kno F 3000 0) K Ha n (.len x) = some (nA l0.length, Ha) := fun hx => k_lenE hx (RdR.imm (H := Ha) (encPairs_length l0))
  refine WKT.op (v := .sl H1.next 0 0 0) (H1 := Ha) (by rw [← hHa]; exact k_bs0) rfl ?_
  repeat' (first | ((first | apply WKT.op); (· first | exact k_faddr rfl | (apply k_ldX; (· rfl); (· exact (hga _ (by omega)).trans g1); (· rfl)) | exact hlen rfl | exact k_mnN rfl rfl | exact hcut rfl rfl); (· rfl)) | fail)
  refine WKT.op (v := v3) (H1 := H3) (k_app rfl rfl e3) rfl ?_
  have h3b : ∀ {H' : AHeap}, H'.m = H3.m → H'.get H.next = some (.cells [pairsI l0, .int .i64 gap] none) := fun q => (show (_ : AHeap).m.get H.next = _ by rw [q]; exact (hg3 _ (by omega) (fun e => by simp only [AV.own, Option.some.injEq] at e; omega)).trans ((hga _ (by omega)).trans g1))
  repeat' (first | refine WKT.nil ?_ | ((first | apply WKT.op); (· first | exact k_mv rfl | exact k_faddr rfl | (apply k_ldX; (· rfl); (· exact h3b rfl); (· rfl))); (· rfl)) | fail)
  have hless : ∀ (Hq : AHeap) (l : List Nat) (k : Nat), k < H1.next → ((Hq.less H1.next [0]).less H1.next l).get k = Hq.get k := fun Hq l k hk => by rw [less_get (H := Hq) l _ (fun i _ => by omega), less_get (H := Hq) [0] _ (fun i _ => by omega)]
  refine ⟨?_, ?_, (_, H3), rfl, ?_⟩
  · intro q hq
    have hq' : q = (2, [], [0]) ∨ q = (4, [], [0]) ∨ q = (10, [8], [0]) := by simpa using hq
    have ga : ∀ (Hq : AHeap), Hq.m = Ha.m → ∀ l, ((Hq.less H1.next [0]).less H1.next l).get H.next = some (.cells [pairsI l0, .int .i64 gap] none) := fun Hq hq l => (hless _ _ _ (by omega)).trans ((show Hq.m.get H.next = _ by rw [hq]; rfl).trans ((hga _ (by omega)).trans g1))
    have gb : ∀ (Hq : AHeap), Hq.m = H3.m → ∀ l, ((Hq.less H1.next [0]).less H1.next l).get H.next = some (.cells [pairsI l0, .int .i64 gap] none) := fun Hq hq l => (hless _ _ _ (by omega)).trans (h3b hq)
    rcases hq' with rfl | rfl | rfl
    · refine ⟨_, _, _, _, pairsI l0, rfl, rfl, rfl, xop_ld rfl ((hga _ (by omega)).trans g1) rfl, fun j hj => ?_⟩
      obtain rfl : j = 2 := by simpa using hj
      exact ⟨_, rfl, xop_ld rfl (ga _ rfl _) rfl⟩
    · refine ⟨_, _, _, _, pairsI l0, rfl, rfl, rfl, xop_ld rfl ((hga _ (by omega)).trans g1) rfl, fun j hj => ?_⟩
      obtain rfl : j = 4 := by simpa using hj
      exact ⟨_, rfl, xop_ld rfl (ga _ rfl _) rfl⟩
    · refine ⟨_, _, _, _, .int .i64 gap, rfl, rfl, rfl, xop_ld rfl (h3b rfl) rfl, fun j hj => ?_⟩
      have hj' : j = 10 ∨ j = 8 ∨ j = 9 := by simpa using hj
      rcases hj' with rfl | rfl | rfl
      · exact ⟨_, rfl, xop_ld rfl (gb _ rfl _) rfl⟩
      · exact ⟨_, rfl, xop_ld rfl (ga _ rfl _) rfl⟩
      · exact ⟨_, rfl, xop_ld rfl (gb _ rfl _) rfl⟩
  · intro j hj
    obtain rfl : j = 0 := by simpa using hj
    refine ⟨_, rfl, rfl, fun i hi => ?_⟩
    obtain rfl : i = 0 := by omega
    exact ⟨_, rfl, (show (H1.bump 13).get H1.next = _ from hC1 _ (Nat.le_refl _))⟩
  · intro _
    refine ⟨fun _ => ?_, fun q => absurd rfl q⟩
    clear hcc
    repeat' (first | refine WK.ret ?_ | fail)
    exact ⟨fun id q => (by cases q), _, rfl, v3, rfl, R3.frame nxx (fun _ _ => rfl)⟩
theorem few_pure (l : List (Int × Int)) (gap : Int) (H : AHeap) : CallOK Tryz.prog 12 [.agg [pairsI l, .int .i64 gap]] H (.tup [pairsI (l.take 17), .int .i64 gap]) H := by
  obtain ⟨v, H', h, u, rfl, hR⟩ := few_walk l gap
  have h2 := xcallK_sound mixed Kno_ok F_ok 3000 1 12 _ _ _ _ ((cfstep rfl rfl).trans h)
  refine h2.pure (by simp only [AV.frozL, AV.froz, pairs_froz, Bool.and_self]) (.tup rfl (fun j x y hx hy => ?_))
  match j, hx, hy with
  | 0, hx, hy => cases hx; cases hy; exact pairsI_fz hR (fun i _ => get_e0 i)
  | 1, hx, hy => cases hx; cases hy; exact .int _ _
noncomputable def KV : CF := fun f args H => if f ∈ [13, 17, 36, 37, 38, 54, 55, 75] then none else match f, args with
  | 12, [.agg [P, .int .i64 gap]] => (unP P).map fun l => (.tup [pairsI (l.take 17), .int .i64 gap], H)
  | 16, [] => some (.bool true, H)
  | 25, [.str s, P, .int .i64 gap] => (unP P).map fun l => (.tup [nA (MostV s l gap).1, .int .i64 (MostV s l gap).2], H)
  | 31, [.str s, P, .int .i64 gap] => (unP P).map fun l => (.tup [strI (SizesV s l gap).1, .int .i64 (SizesV s l gap).2], H)
  | 26, [.str s, P, .int .i64 gap] => (unP P).map fun l => (.tup [.str (AllV s l gap).1, .int .i64 (AllV s l gap).2], H)
  | _, _ => KE f args H
theorem KV_ok : CFok Tryz.prog KV := by
  intro f args H v H' h
  unfold KV at h
  split at h
  · cases h
  · split at h
    · obtain ⟨l, h1, h2⟩ := Option.map_eq_some_iff.1 h
      cases h2
      rw [unP_some h1]
      exact few_pure l _ H
    · cases h
      exact lives_call H
    · obtain ⟨l, h1, h2⟩ := Option.map_eq_some_iff.1 h
      cases h2
      rw [unP_some h1]
      exact Most_pure _ l _ H
    · obtain ⟨l, h1, h2⟩ := Option.map_eq_some_iff.1 h
      cases h2
      rw [unP_some h1]
      exact Sizes_call _ l _ H
    · obtain ⟨l, h1, h2⟩ := Option.map_eq_some_iff.1 h
      cases h2
      rw [unP_some h1]
      exact All_call _ l _ H
    · exact KE_ok _ _ _ _ _ h
theorem KV_still : Still KV := by
  intro f args H v H' h
  unfold KV at h
  split at h
  · cases h
  · split at h
    · obtain ⟨l, h1, h2⟩ := Option.map_eq_some_iff.1 h
      cases h2; rfl
    · cases h; rfl
    · obtain ⟨l, h1, h2⟩ := Option.map_eq_some_iff.1 h
      cases h2; rfl
    · obtain ⟨l, h1, h2⟩ := Option.map_eq_some_iff.1 h
      cases h2; rfl
    · obtain ⟨l, h1, h2⟩ := Option.map_eq_some_iff.1 h
      cases h2; rfl
    · exact KE_still _ _ _ _ _ h
theorem KV_none {f : Nat} {args : List AV} {H : AHeap} (h : f ∈ [13, 17, 36, 37, 38, 54, 55, 75]) : KV f args H = none := by
  unfold KV
  rw [if_pos h]
theorem KV_E {f : Nat} {args : List AV} {H : AHeap} {r : AV × AHeap} (h : KE f args H = some r) (h1 : f ∉ [12, 13, 17, 36, 37, 38, 54, 55, 75]) (h2 : f ∉ [24, 16, 25, 31, 26]) : KV f args H = some r := by
  unfold KV
  rw [if_neg (fun e => h1 (List.mem_cons_of_mem _ e))]
  split
  · exact absurd (by decide) h1
  · exact absurd (by decide) h2
  · exact absurd (by decide) h2
  · exact absurd (by decide) h2
  · exact absurd (by decide) h2
  · exact h
theorem KV_few (l : List (Int × Int)) (gap : Int) (H : AHeap) : KV 12 [.agg [pairsI l, .int .i64 gap]] H = some (.tup [pairsI (l.take 17), .int .i64 gap], H) := by
  unfold KV
  rw [if_neg (by decide)]
  show (unP (pairsI l)).map _ = _
  rw [unP_V]
  rfl
def cutS (x : List UInt8) (m : Nat) : List UInt8 := x.take (if x.length > 40 then 41 else m)
theorem cut_walk {cf : CF} {fuel : Nat} {H : AHeap} {x : List UInt8} {m : Nat} : ∃ v H', xfunc cf fuel L13 [.str x, nA m] H = some (v, H') ∧ v = .str (cutS x m) ∧ H'.m = H.m ∧ H.next ≤ H'.next := by
  refine xfunc_ofK rfl (by show 2 ≤ 14; omega) ?_
  have e : ∀ k, x.take (min x.length k) = x.take k := fun k => by
    rcases Nat.le_total x.length k with h | h
    · rw [Nat.min_eq_left h, List.take_of_length_le h, List.take_of_length_le (Nat.le_refl _)]
    · rw [Nat.min_eq_right h]
  unfold L13
  dsimp only
  repeat' (first | refine WK.seq ?_ | refine WK.skip ?_ | refine WK.ret ?_ | (apply WK.reg; (· exact lnn)) | refine WKO.nil ?_ | ((first | apply WKO.op); (· first | exact k_mv rfl | exact k_slen rfl | exact k_mnN rfl rfl | exact k_scT rfl rfl (Nat.min_le_left _ _) | exact opA); (· rfl)) | refine pN ?_ | (apply WK.condD; (· rfl); all_goals intro _) | fail)
  · rename_i h
    exact ⟨fun id q => (by cases q), _, rfl, by unfold cutS; rw [if_pos h, ← e 41, ← e (min x.length 41)]; rfl, rfl, nxx⟩
  · rename_i h
    exact ⟨fun id q => (by cases q), _, rfl, by unfold cutS; rw [if_neg h, ← e m, ← e (min x.length m)]; rfl, rfl, nxx⟩
def topN (b : List Nat) : Nat → Nat
  | 0 => 0
  | k + 1 => if b.getD (k + 1) 0 = 0 then topN b k else k + 1
theorem top_walk {cf : CF} {fuel : Nat} {H : AHeap} {X : AV} {b : List Nat} (hX : RdR 2 H X b.length (zC b)) (h0 : 0 < b.length) (hl : b.length < 400) (hf : 1000 < fuel) (h109 : ∀ n H, cf 109 [zN n] H = some (nA (min n 1), H)) :
    ∃ v H', xfunc cf fuel L75 [X] H = some (v, H') ∧ v = nA (topN b (b.length - 1)) ∧ H'.m = H.m ∧ H.next ≤ H'.next := by
  refine xfunc_ofK rfl (by show 1 ≤ 18; omega) ?_
  have hsub : ∀ {n : Nat} {Hq : AHeap} {K : KL0} {x : XO}, evK K x = some (nA b.length) → XV cf K Hq n (.bin .sub x (.k (.int .i64 (.ofNat 1)))) = some (nA (b.length - 1), Hq) := fun hx => k_subN (b := 1) hx rfl (by omega) (by omega)
  unfold L75
  dsimp only
  repeat' (first | refine WK.seq ?_ | refine WK.block ?_ | (apply WK.reg; (· exact lnn)) | refine WKO.nil ?_ | ((first | apply WKO.op); (· first | exact k_mv rfl | exact k_lenE rfl hX | exact hsub rfl); (· rfl)) | refine pN ?_ | fail)
  refine WK.loop (α := Nat) (fun i => [(0, X), (3, nA i)]) (fun i H' => H'.m = H.m ∧ H.next ≤ H'.next ∧ i < b.length ∧ topN b i = topN b (b.length - 1)) (fun i => i) (b.length - 1) (.cons rfl <| .cons rfl <| .nil _) ⟨rfl, nxx, by omega, rfl⟩ (by omega) ?_
  rintro i H1 ⟨hm, hn, hi, ht⟩
  have hsub2 : i > 0 → ∀ {n : Nat} {Hq : AHeap} {K : KL0} {x : XO}, evK K x = some (nA i) → XV cf K Hq n (.bin .sub x (.k (.int .i64 (.ofNat 1)))) = some (nA (i - 1), Hq) := fun h => fun hx => k_subN (b := 1) hx rfl (by omega) (by omega)
  repeat' (first | refine WK.seq ?_ | refine WK.skip ?_ | refine WK.ret ?_ | refine WK.exit ?_ | refine WK.block ?_ | (apply WK.reg; (· exact lnn)) | refine WKO.nil ?_ | ((first | apply WKO.op); (· first | exact k_mv rfl | exact k_iaE rfl rfl hX (by omega) | (apply k_ldZI; (· rfl); (· exact hX); (· exact hm); (· omega)) | (apply k_call; (· rfl); (· rfl); (· exact h109 _ _)) | exact hsub2 (by assumption) rfl | exact opA); (· rfl)) | refine pN ?_ | refine pR ?_ | refine pX ?_ | refine bN ?_ | refine bR ?_ | refine bX ?_ | (apply WK.condD; (· rfl); all_goals intro _) | fail)
  · rename_i h1 h2
    have e : topN b i = i := by
      cases i with
      | zero => rfl
      | succ k => unfold topN; rw [if_neg (by omega)]
    exact ⟨fun id q => (by cases q), _, rfl, by rw [← ht, e]; rfl, hm, nxx⟩
  · rename_i h1 h2
    have e : topN b i = topN b (i - 1) := by
      cases i with
      | zero => rfl
      | succ k => rw [topN, if_pos (by omega)]; rfl
    exact ⟨i - 1, (.cons rfl <| .cons rfl <| .nil _), ⟨hm, nxx, by omega, by rw [← ht, e]⟩, by omega⟩
  · have h0 : i = 0 := by omega
    subst h0
    exact ⟨fun id q => (by cases q), _, rfl, by rw [← ht]; rfl, hm, nxx⟩
theorem topN_last {b : List Nat} (h : b.getD (b.length - 1) 0 ≠ 0) : topN b (b.length - 1) = b.length - 1 := by
  generalize b.length - 1 = k at h
  cases k with
  | zero => rfl
  | succ k => rw [topN, if_neg h]
set_option maxHeartbeats 4000000 in
theorem sum_walk {cf : CF} {fuel : Nat} {H : AHeap} {X : AV} {b : List Nat} (hX : RdR 2 H X b.length (zC b)) (hf : 1000 < fuel) (hl : b.length < 400) (hs : b.sum < bigN) (h52 : ∀ H, cf 52 [nA 0] H = some (zN 0, H)) (h66 : ∀ m n, m < bigN → n < bigN → ∀ H, cf 66 [zN m, zN n] H = some (zN (m + n), H)) :
    ∃ v H', xfunc cf fuel L37 [X] H = some (v, H') ∧ v = zN b.sum ∧ H.next ≤ H'.next ∧ ∀ q, q < H.next → H'.get q = H.get q := by
  refine xfunc_ofK rfl (by show 1 ≤ 19; omega) ?_
  have hF := HF.start H
  unfold L37
  dsimp only
  repeat' (first | refine WK.seq ?_ | refine WK.block ?_ | (apply WK.reg; (· exact lnn)) | (apply WKO.stO0; (· rfl); (· rfl); (· assumption); (· rfl); (· exact nxx); (· first | exact .inr nxx); (· rfl); (· rfl); (· exact Nat.le_of_ble_eq_true rfl); intro _ _ _) | (apply WKO.alO; (· assumption); (· rfl); (· exact nxx); (· exact nxx); (· exact nxx); intro _ _ _) | refine WKO.nil ?_ | ((first | apply WKO.op); (· first | exact k_mv rfl | (apply k_call; (· rfl); (· rfl); (· exact h52 _))); (· rfl)) | refine pN ?_ | fail)
  rename_i H0 hF0 hn0 H1 hF1 hn1 H2 hF2 hn2
  generalize hp : H0.next + 1 = p at hF2 ⊢
  have hpa : H.next < p := by simp only [next_bump] at *; omega
  have htk : ∀ i, i < b.length → (b.take (i + 1)).sum = (b.take i).sum + b.getD i 0 := fun i h => take_sum b h
  have htl : ∀ i, (b.take i).sum < bigN := fun i => Nat.lt_of_le_of_lt (take_sum_le b i) hs
  have hgl : ∀ i, b.getD i 0 < bigN := fun i => Nat.lt_of_le_of_lt (getD_le _ _) hs
  refine WK.loop (α := Nat) (fun i => [(0, X), (2, .ptr H.next 0), (3, .ptr p 0), (4, nA i)]) (fun i H' => (∃ T, HF H [] T [(p, .cells (zc (b.take i).sum) none), (H.next, .cells [.bool false, .nils] none)] H') ∧ i ≤ b.length) (fun i => b.length - i) 0 (.cons rfl <| .cons rfl <| .cons rfl <| .cons rfl <| .nil _) ⟨⟨_, hF2.up rfl nxx⟩, Nat.zero_le _⟩ (by show b.length - 0 < fuel; omega) ?_
  rintro i H3 ⟨⟨T, hF3⟩, hi⟩
  have hX3 := hF3.rd hX
  clear hF hF0 hF1 hF2
  repeat' (first | refine WK.seq ?_ | refine WK.skip ?_ | refine WK.ret ?_ | refine WK.exit ?_ | refine WK.block ?_ | (apply WK.reg; (· exact lnn)) | (apply WK.regd0; (· exact lnn)) | (apply WKO.stO0; (· rfl); (· rfl); (· assumption); (· rfl); (· exact nxx); (· first | exact .inr nxx); (· rfl); (· rfl); (· exact Nat.le_of_ble_eq_true rfl); intro _ _ _) | (apply WKO.stO1; (· rfl); (· rfl); (· assumption); (· rfl); (· exact nxx); (· first | exact .inr nxx); (· rfl); (· rfl); (· exact Nat.le_of_ble_eq_true rfl); intro _ _ _) | refine WKO.nil ?_ | ((first | apply WKO.op); (· first | exact k_mv rfl | exact k_lenE rfl hX | exact k_iaE rfl rfl hX (by omega) | (apply k_ldZI; (· rfl); (· exact hX3); (· rfl); (· omega)) | (apply k_call; (· rfl); (· rfl); (· exact h66 _ _ (htl i) (hgl i) _)) | (apply k_ldA; (· rfl); (· assumption); (· rfl); (· exact mmb); (· first | rfl)) | exact opA); (· rfl)) | refine pN ?_ | refine pX ?_ | refine bN ?_ | refine bX ?_ | (apply WK.condD; (· rfl); all_goals intro _) | fail)
  · rename_i hib H4 hF4 hn4
    refine ⟨i + 1, (.cons rfl <| .cons rfl <| .cons rfl <| .cons rfl <| .nil _), ⟨⟨T, ?_⟩, by omega⟩, by omega⟩
    rw [htk i hib]
    exact hF4.up rfl nxx
  · rename_i hib H4 hF4 hn4
    have hib2 : i = b.length := by omega
    rw [hib2, List.take_length] at hF4
    exact ⟨fun id q => (by cases q), _, resK_obj rfl (hF4.obj _ (.tail _ (.head _))) rfl, rfl, by have := hF4.base; have := hF4.le; omega, fun q hq => hF4.fr q hq (by simp)⟩
end Go.Proofs.YtfcgofffalmdfaaGreatDoor.PA
namespace Go.Proofs.YtfcgofffalmdfaaGreatDoor.PA
open Go Go.Eng Go.Proofs
theorem qC_app (a b : List Nat) : qC (a ++ b) = qC a ++ qC b := by simp [qC]
theorem qC_drop : ∀ (l : List Nat) (j : Nat), j < l.length → ((qC l).drop (j * 4)).take 4 = [.bool false, rowZ (dz (l.getD j 0)), .bool false, rowZ (dz 1)]
  | a :: l, 0, _ => rfl
  | a :: l, j + 1, h => by
    have e : qC (a :: l) = [.bool false, rowZ (dz a), .bool false, rowZ (dz 1)] ++ qC l := rfl
    rw [e, show (j + 1) * 4 = ([AV.bool false, rowZ (dz a), .bool false, rowZ (dz 1)]).length + j * 4 by simp only [List.length_cons, List.length_nil]; omega, List.drop_length_add_append, List.getD_cons_succ]
    exact qC_drop l j (by simpa using h)
theorem k_ldQ {cf : CF} {n : Nat} {H H' : AHeap} {l : KL0} {x : XO} {X : AV} {b : List Nat} {j : Nat} (hx : evK l x = some (adE X (j * 4))) (hE : RdR 4 H X b.length (qC b)) (hm : H'.m = H.m) (hj : j < b.length) : XV cf l H' n (.load (some 4) x) = some (qN (b.getD j 0), H') := by
  obtain ⟨c, h1, h2⟩ := hE.at (H' := H') (p := j * 4) (fun i _ => by unfold AHeap.get; rw [hm]) (by omega)
  refine k_load hx ?_
  have hl : 4 ≤ b.length * 4 - j * 4 := by omega
  have h3 : c.take 4 = [.bool false, rowZ (dz (b.getD j 0)), .bool false, rowZ (dz 1)] := by
    rw [← qC_drop b j hj, ← h2, List.take_take, Nat.min_eq_left hl]
  simp only [loadA, h1]
  have hlen : 4 ≤ c.length := by
    have : (c.take 4).length = 4 := by rw [h3]; rfl
    rw [List.length_take] at this
    omega
  rw [if_pos hlen, h3]
set_option maxHeartbeats 4000000 in
theorem are_walk {cf : CF} {fuel : Nat} {H : AHeap} {X : AV} {b : List Nat} (hX : RdR 4 H X b.length (qC b)) (hf : 1000 < fuel) (hl : b.length < 400) (h21 : ∀ j, j < b.length → ∀ H, cf 21 [.str (decS (b.getD j 0)), qN (b.getD j 0)] H = some (.bool true, H)) :
    ∃ v H', xfunc cf fuel L38 [strI b, X] H = some (v, H') ∧ v = .bool true ∧ H'.m = H.m ∧ H.next ≤ H'.next := by
  refine xfunc_ofK rfl (by show 2 ≤ 27; omega) ?_
  unfold L38
  dsimp only
  repeat' (first | refine WK.seq ?_ | refine WK.skip ?_ | refine WK.block ?_ | (apply WK.reg; (· exact lnn)) | refine WKO.nil ?_ | ((first | apply WKO.op); (· first | exact k_mv rfl | exact k_lenSI rfl | exact k_lenE rfl hX | exact opA); (· rfl)) | refine pN ?_ | (apply WK.condF; (· rfl); (· exact dcd)) | fail)
  refine WK.loop (α := Nat) (fun i => [(0, strI b), (1, X), (5, nA i)]) (fun i H' => H'.m = H.m ∧ H.next ≤ H'.next ∧ i ≤ b.length) (fun i => b.length - i) 0 (.cons rfl <| .cons rfl <| .cons rfl <| .nil _) ⟨rfl, by simp only [next_bump]; omega, Nat.zero_le _⟩ (by show b.length - 0 < fuel; omega) ?_
  rintro i H1 ⟨hm, hn, hi⟩
  repeat' (first | refine WK.seq ?_ | refine WK.skip ?_ | refine WK.ret ?_ | refine WK.exit ?_ | refine WK.block ?_ | (apply WK.reg; (· exact lnn)) | (apply WK.regC; (· rfl); (· exact lnn); (· decide)) | refine WKC.nil ?_ | refine WKO.nil ?_ | ((first | apply WKC.op | apply WKO.op); (· first | exact k_mv rfl | exact k_lenSI rfl | exact k_iaM rfl rfl (by omega) | exact k_ldP rfl (strC_at (by omega)) | exact k_iaE rfl rfl hX (by omega) | (apply k_ldQ; (· rfl); (· exact hX); (· exact hm); (· omega)) | (apply k_call; (· rfl); (· rfl); (· exact h21 i (by omega) _)) | exact opA); (· rfl)) | refine pN ?_ | refine pX ?_ | refine bN ?_ | refine bX ?_ | (apply WK.condF; (· rfl); (· exact dcd)) | (apply WK.condD; (· rfl); all_goals intro _) | fail)
  · exact ⟨i + 1, (.cons rfl <| .cons rfl <| .cons rfl <| .nil _), ⟨hm, by simp only [next_bump]; omega, by omega⟩, by omega⟩
  · exact ⟨fun id q => (by cases q), _, rfl, rfl, hm, by simp only [next_bump]; omega⟩
theorem cut_ok {H : AHeap} {v : AV} {len z : Nat} {cs : List AV} (h : RdR z H v len cs) (hc : CapOk v) : ∃ w, (∀ (ev : XO → Option AV) (x : XO), ev x = some (nA len) → cutA ev z v none (some x) none = some w) ∧ RdR z H w len cs := by
  obtain ⟨i, l, c, rfl, hc⟩ := hc
  obtain ⟨h0, ⟨f, h⟩ | ⟨h, _⟩ | ⟨j, c', full, opn, e, h1, h2, h3, h4⟩⟩ := h
  · cases h
  · cases h
  · cases e
    rcases hc with rfl | ⟨hc1, hc2⟩
    · refine ⟨.sl i 0 len (openCap), fun ev x hx => ?_, h0, .inr (.inr ⟨i, _, full, opn, rfl, h1, h2, h3, h4⟩)⟩
      have hb : bndA len (nA len) = some len := bndA_nat (Nat.le_refl len)
      simp only [cutA]
      rw [if_neg (by decide)]
      simp only [bounds, obnd, hiBnd, hx, Option.bind_some, hb, Nat.zero_mul, Nat.add_zero, Nat.sub_zero]
      rw [if_pos (by decide)]
    · refine ⟨.sl i 0 len c, fun ev x hx => ?_, h0, .inr (.inr ⟨i, _, full, opn, rfl, h1, h2, h3, h4⟩)⟩
      have hb : bndA c (nA len) = some len := bndA_nat hc1
      simp only [cutA]
      rw [if_pos hc2, if_pos hc1]
      simp only [bounds, obnd, hiBnd, hx, Option.bind_some, hb, Nat.zero_mul, Nat.add_zero, Nat.sub_zero]
      split <;> rfl
set_option maxHeartbeats 4000000 in
theorem sizesT_walk {cf : CF} {fuel n : Nat} {sz : Nat → Nat → List Nat} {H0 H : AHeap} {X : AV} {R : List Nat} (hT : TabH sz n H0 X R (fun i j => i ≤ j) H) (hRl : R.length = n + 1) (hn : n ≤ 40) (hpos : 0 < (sz 0 n).length) (hl : (sz 0 n).length < 400) (hlast : (sz 0 n).getD ((sz 0 n).length - 1) 0 ≠ 0)
    (h75 : ∀ (X : AV) (b : List Nat) (H : AHeap), RdR 2 H X b.length (zC b) → 0 < b.length → b.length < 400 → ∃ v H', cf 75 [X] H = some (v, H') ∧ v = nA (topN b (b.length - 1)) ∧ H'.m = H.m ∧ H.next ≤ H'.next) :
    ∃ v H', xfunc cf fuel L36 [X] H = some (v, H') ∧ RdR 2 H' v (sz 0 n).length (zC (sz 0 n)) ∧ H'.m = H.m ∧ H.next ≤ H'.next := by
  refine xfunc_ofK rfl (by show 1 ≤ 22; omega) ?_
  have hx := hT.x
  obtain ⟨M, a1, a2, a3, a4⟩ := hT.o 0 (by omega)
  obtain ⟨u, b1, b2, b3, b4⟩ := a3 n (by omega) (Nat.zero_le _)
  have hrow := hT.row (i := 0) (by omega)
  generalize hr : R.getD 0 0 = r at a1 hrow
  have hsub : ∀ {q : Nat} {Hq : AHeap} {K : KL0} {x : XO}, evK K x = some (nA R.length) → XV cf K Hq q (.bin .sub x (.k (.int .i64 (.ofNat 1)))) = some (nA n, Hq) := fun {q Hq K x} hx => by
    have := k_subN (cf := cf) (n := q) (H := Hq) (b := 1) (y := .k (.int .i64 (.ofNat 1))) hx rfl (by omega) (by omega)
    rwa [hRl, Nat.add_sub_cancel] at this
  unfold L36
  dsimp only
  repeat' (first | refine WK.seq ?_ | (apply WK.reg; (· exact lnn)) | refine WKO.nil ?_ | ((first | apply WKO.op); (· first | exact k_mv rfl); (· rfl)) | refine pN ?_ | fail)
  refine WK.regT (k := 20) rfl ?_
  repeat' (first | ((first | apply WKT.op); (· first | exact k_mv rfl | exact k_iaE (a := 0) rfl rfl (RdR.of hx) (by omega) | (apply k_ld1 (j := 0); (· rfl); (· exact hx); (· rfl); (· exact hrow)) | exact k_lenE rfl (RdR.of hx) | exact hsub rfl | exact k_ia1s rfl rfl (by omega) | (apply k_ldX; (· rfl); (· exact a1); (· exact b1))); (· rfl)) | fail)
  have hm : ∀ {Hq : AHeap}, Hq.m = H.m → ∀ q, Hq.get q = H.get q := fun e q => (show (_ : AHeap).m.get q = _ by rw [e]; rfl)
  have hl1 : (sz 0 n).length - 1 + 1 = (sz 0 n).length := by omega
  refine WKT.callV rfl rfl rfl (h75 u (sz 0 n) ((H.bump 1).bump 20) (b2.frame (by simp only [next_bump]; omega) (fun _ _ => rfl)) hpos hl) ?_
  rintro v3 H3 ⟨rfl, m3, n3⟩
  have m3' : H3.m = H.m := m3
  rw [topN_last hlast]
  have hadd : ∀ {q : Nat} {Hq : AHeap} {K : KL0} {x : XO}, evK K x = some (nA ((sz 0 n).length - 1)) → XV cf K Hq q (.bin .add x (.k (.int .i64 (.ofNat 1)))) = some (nA (sz 0 n).length, Hq) := fun {q Hq K x} hx => by
    have := k_addN (cf := cf) (n := q) (H := Hq) (b := 1) (y := .k (.int .i64 (.ofNat 1))) hx rfl (by omega)
    rwa [hl1] at this
  repeat' (first | ((first | apply WKT.op); (· first | exact hadd rfl); (· rfl)) | fail)
  obtain ⟨w, hw1, hw2⟩ := cut_ok b2 b3
  have hcut : ∀ {q : Nat} {Hq : AHeap} {K : KL0} {x y : XO}, evK K x = some u → evK K y = some (nA (sz 0 n).length) → XV cf K Hq q (.cut 2 x none (some y) none) = some (w, Hq) := fun hx hy => k_cut hx (hw1 _ _ hy)
  repeat' (first | refine WKT.nil ?_ | ((first | apply WKT.op); (· first | exact k_mv rfl | exact hcut rfl rfl); (· rfl)) | fail)
  refine ⟨?_, fun j hj => (by cases hj), (_, H3), rfl, ?_⟩
  · intro q hq
    have hq' : q = (2, [16], []) ∨ q = (7, [16], []) := by simpa using hq
    have lr : ∀ {Hq : AHeap}, Hq.m = H.m → ∀ {ev : XO → Option AV} {q : Nat} {x : XO}, ev x = some (adE X (0 * 1)) → xop ev Hq q (.load none x) = .v (.sl r 0 (n + 1) (n + 1)) := fun e _ _ _ hx' => xop_ldE hx' (RdR.of hx) (fun q _ => hm e q) hrow
    have lc : ∀ {Hq : AHeap}, Hq.m = H.m → ∀ {ev : XO → Option AV} {q : Nat} {x : XO}, ev x = some (.ptr r n) → xop ev Hq q (.load none x) = .v u := fun e _ _ _ hx' => xop_ld hx' ((hm e r).trans a1) b1
    rcases hq' with rfl | rfl
    · refine ⟨_, _, _, _, .sl r 0 (n + 1) (n + 1), rfl, rfl, rfl, lr (q := 0) rfl rfl, fun j hj => ?_⟩
      have hj' : j = 2 ∨ j = 16 ∨ j = 17 := by simpa using hj
      rcases hj' with rfl | rfl | rfl
      · exact ⟨_, rfl, lr (q := 0) rfl rfl⟩
      · exact ⟨_, rfl, lr (q := 0) rfl rfl⟩
      · exact ⟨_, rfl, lr (q := 0) m3' rfl⟩
    · refine ⟨_, _, _, _, u, rfl, rfl, rfl, lc (q := 0) rfl rfl, fun j hj => ?_⟩
      have hj' : j = 7 ∨ j = 16 ∨ j = 17 := by simpa using hj
      rcases hj' with rfl | rfl | rfl
      · exact ⟨_, rfl, lc (q := 0) rfl rfl⟩
      · exact ⟨_, rfl, lc (q := 0) rfl rfl⟩
      · exact ⟨_, rfl, lc (q := 0) m3' rfl⟩
  · refine ⟨fun _ => ?_, fun q => absurd rfl q⟩
    repeat' (first | refine WK.ret ?_ | fail)
    exact ⟨fun id q => (by cases q), _, rfl, hw2.frame (H' := H3) (by simp only [next_bump] at n3; omega) (fun q _ => hm m3' q), m3', (show H.next ≤ H3.next by simp only [next_bump] at n3; omega)⟩
end Go.Proofs.YtfcgofffalmdfaaGreatDoor.PA
namespace Go.Proofs.YtfcgofffalmdfaaGreatDoor.PA
open Go Go.Eng Go.Proofs
section
variable {cf : CF} {n : Nat} {H' : AHeap} {l : KL0} {x y : XO} {v : AV} {b : List Nat} {r : List XOper} {R : KL0 → AHeap → Prop}
theorem qC_one (n : Nat) : qC [n] = [.bool false, rowZ (dz n), .bool false, rowZ (dz 1)] := rfl
theorem WKO.apQI {d1 d2 w : Nat} (hR : RowE 4 H' v b.length (qC b)) (hlt : n < H'.next) (hf : v.own ≠ some n) (hl : b.length < 1000000) (hy : evK l y = some (qN w)) (hx : evK ((d1, .sl n 0 1 1) :: l) x = some v)
    (k : ∀ v' H1, RowE 4 H1 v' (b ++ [w]).length (qC (b ++ [w])) → H'.next ≤ H1.next → (∀ q, q < H'.next → q ≠ n → v.own ≠ some q → H1.get q = H'.get q) → (∀ i, v'.own = some i → v.own = some i ∨ H'.next ≤ i) → WKO cf r (n + 1 + 1) ((d2, v') :: (d1, .sl n 0 1 1) :: l) H1 R) :
    WKO cf (⟨some d1, .bslice [.bool false, .nils, .bool false, .nils] [(0, 4, y)] 1, none⟩ :: ⟨some d2, .app 4 64 x (.t d1), none⟩ :: r) n l H' R := by
  refine WKO.append1E (m := b.length) (v := v) (cs := qC b) (new := qC [w]) hR hx ?_ (by simp [allSm, XOp.opnds, hy]) (by omega) (by omega) (by decide) rfl (by simp only [qC_one, List.all_cons, List.all_nil, rowZ_one, Bool.and_true]; rfl) hlt hf (fun v' H1 q1 q2 q3 q4 => k v' H1 ?_ q2 (fun q h1 h2 h3 => q3 q h1 h2 h3) q4)
  · simp only [evParts, hy, bind, Option.bind_some]
    rfl
  · rw [qC_app, List.length_append, List.length_singleton]
    exact .inl q1
end
theorem last_pos (s : List UInt8) (l : List (Int × Int)) (gap : Int) : 0 < (szF s (rulesOf l) gap 0 s.length).getD (mostF s (rulesOf l) gap 0 s.length) 0 := sizes_allP _ _ _ _ (by
  have := szF_len s (rulesOf l) gap 0 s.length
  show _ < (szF s (rulesOf l) gap 0 s.length).length
  omega)
theorem mem_sum {l : List Nat} {n : Nat} (h : n ∈ l) : n ≤ l.sum := by
  obtain ⟨a, b, rfl⟩ := List.append_of_mem h
  rw [List.sum_append, List.sum_cons]
  omega
noncomputable abbrev kvn := xcallK KV F 3000
set_option maxHeartbeats 16000000 in
theorem x8 (l0 : List (Int × Int)) (gap : Int) (x : List UInt8) :
    ∃ v H', xfunc (xcallK KV F 3000 2) 3000 L8 [.agg [pairsI l0, .int .i64 gap], .str x] ⟨.e, 0⟩ = some (v, H') ∧ v = .bool true := by
  refine xfunc_ofK rfl (by show 2 ≤ 165; omega) ?_
  have hcc : CleanCF (kvn 2) := xcallK_clean KV_still.clean 2
  have hcl : Go.Eng.Clean ⟨.e, 0⟩ := fun j _ => get_e0 j
  have hF := HF.start ⟨.e, 0⟩
  generalize (⟨.e, 0⟩ : AHeap) = H at hcl hF ⊢
  have c12 : ∀ {H' : AHeap}, kvn 2 12 [.agg [pairsI l0, .int .i64 gap]] H' = some (.tup [pairsI (l0.take 17), .int .i64 gap], H') := cfhit (KV_few _ _ _)
  unfold L8
  dsimp only
  repeat' (first | refine WK.seqC (by assumption) ?_ | intro (_ : CleanTo _ _) | (apply WK.reg; (· exact lnn)) | (apply WKO.boxO; (· rfl); (· assumption); (· rfl); (· exact nxx); (· exact nxx); (· exact nxx); intro _ _ _) | refine WKO.nil ?_ | ((first | apply WKO.op); (· first | exact k_mv rfl | (apply k_call; (· rfl); (· rfl); (· exact c12)) | (apply k_ldA; (· rfl); (· assumption); (· rfl); (· exact mmb); (· first | rfl)) | exact opA); (· rfl)) | refine pN ?_ | fail)
  rename_i H1 hF1 hn1 hc1 hc2
  refine WKO.callV rfl rfl rfl (show ∃ v H', kvn 2 13 [.str x, nA 40] ((H1.bump 7).bump 3) = some (v, H') ∧ v = .str (cutS x 40) ∧ H'.m = ((H1.bump 7).bump 3).m ∧ ((H1.bump 7).bump 3).next ≤ H'.next from by
    obtain ⟨v, H', q1, q2⟩ := cut_walk (cf := kvn 1) (fuel := 3000) (H := (H1.bump 7).bump 3) (x := x) (m := 40)
    exact ⟨v, H', (cfstep (KV_none (by decide)) rfl).trans q1, q2⟩) ?_
  rintro _ H2 ⟨rfl, m2, n2⟩
  have hC1 := hc1.1 hcl
  have hC2 : Go.Eng.Clean H2 := fun j hj => (show H2.m.get j = _ by rw [m2]; exact hC1 j (by simp only [next_bump] at n2; omega))
  clear c12 hF hF1 hc1 hc2 m2
  generalize cutS x 40 = s
  generalize l0.take 17 = l
  have c15 : ∀ {H' : AHeap} {k : Nat}, kvn k 15 [.str s, pairsI l, .int .i64 gap] H' = some (zA (readE s l gap), H') := fun {H' k} => cfhit (KV_E (E15 _ _ _ _) (by decide) (by decide))
  have c35 : ∀ {H' : AHeap} {k : Nat}, kvn k 35 [.str s, pairsI l, .int .i64 gap] H' = some (.tup [.str (BestV s l gap).1, .int .i64 (BestV s l gap).2], H') := fun {H' k} => cfhit (KV_E (E35 _ _ _ _) (by decide) (by decide))
  have c25 : ∀ {H' : AHeap} {k : Nat}, kvn k 25 [.str s, pairsI l, .int .i64 gap] H' = some (.tup [nA (MostV s l gap).1, .int .i64 (MostV s l gap).2], H') := fun {H' k} => cfhit (by
      unfold KV
      rw [if_neg (by decide)]
      show (unP (pairsI l)).map _ = _
      rw [unP_V, Option.map_some])
  have c26 : ∀ {H' : AHeap} {k : Nat}, kvn k 26 [.str s, pairsI l, .int .i64 gap] H' = some (.tup [.str (AllV s l gap).1, .int .i64 (AllV s l gap).2], H') := fun {H' k} => cfhit (by
      unfold KV
      rw [if_neg (by decide)]
      show (unP (pairsI l)).map _ = _
      rw [unP_V, Option.map_some])
  have c31 : ∀ {H' : AHeap} {k : Nat}, kvn k 31 [.str s, pairsI l, .int .i64 gap] H' = some (.tup [strI (SizesV s l gap).1, .int .i64 (SizesV s l gap).2], H') := fun {H' k} => cfhit (by
      unfold KV
      rw [if_neg (by decide)]
      show (unP (pairsI l)).map _ = _
      rw [unP_V, Option.map_some])
  have c16 : ∀ {H' : AHeap} {k : Nat}, kvn k 16 [] H' = some (.bool true, H') := fun {H' k} => cfhit (by
      unfold KV
      rw [if_neg (by decide)]
      rfl)
  by_cases hE : readE s l gap = 0
  · have v1 : MostV s l gap = (mostF s (rulesOf l) gap 0 s.length, 0) := by unfold MostV; rw [if_pos hE]
    have v2 : AllV s l gap = (decS (szF s (rulesOf l) gap 0 s.length).sum, 0) := by unfold AllV; rw [if_pos hE]
    have v3 : BestV s l gap = (decS ((szF s (rulesOf l) gap 0 s.length).getD (mostF s (rulesOf l) gap 0 s.length) 0), 0) := by unfold BestV; rw [if_pos hE]
    have v4 : SizesV s l gap = (szF s (rulesOf l) gap 0 s.length, 0) := by unfold SizesV; rw [if_pos hE]
    simp only [v1] at c25
    simp only [v2] at c26
    simp only [v3] at c35
    simp only [v4] at c31
    rw [hE] at c15
    clear v1 v2 v3 v4
    have hz52 : ∀ (n : Nat), n < 100 → ∀ {k : Nat} (H : AHeap), kvn k 52 [nA n] H = some (zN n, H) := fun n h {k} H => cfhit (KV_E (E52 (by omega) H) (by decide) (by decide))
    have hz66 : ∀ (m n : Nat), m < bigN → n < bigN → ∀ {k : Nat} (H : AHeap), kvn k 66 [zN m, zN n] H = some (zN (m + n), H) := fun m n hm hn {k} H => cfhit (KV_E (E66 (by have := dz_big hm; omega) (by have := dz_big hn; omega) H) (by decide) (by decide))
    have hz72 : ∀ (m n : Nat), m < bigN → n < bigN → ∀ {k : Nat} (H : AHeap), kvn k 72 [zN m, zN n] H = some (zN (m * n), H) := fun m n hm hn {k} H => cfhit (KV_E (E72 (by have := dz_big hm; omega) (by have := dz_big hn; omega) H) (by decide) (by decide))
    have hz22 : ∀ (n : Nat) {k : Nat} (H : AHeap), kvn k 22 [zN n] H = some (qN n, H) := fun n {k} H => cfhit (KV_E (E22 n H) (by decide) (by decide))
    have hz21 : ∀ (n : Nat), n < bigN → ∀ {k : Nat} (H : AHeap), kvn k 21 [.str (decS n), qN n] H = some (.bool true, H) := fun n hn {k} H => cfhit (KV_E (by
      have := E21 (decS n) (n := n) (by have := dz_big hn; omega) (by have := decL_big hn; omega) H
      rwa [decide_eq_true rfl] at this) (by decide) (by decide))
    have h17 : ∀ {H' : AHeap}, Go.Eng.Clean H' → ∃ v H1, kvn 2 17 [.str s, pairsI l, .int .i64 gap] H' = some (v, H1) ∧ ∃ R, R.length = s.length + 1 ∧ TabH (szF s (rulesOf l) gap) s.length H' v R (fun i j => i ≤ j) H1 := fun {H'} hc => by
      obtain ⟨v, H1, q1, q2⟩ := TabOf_ok (cf := kvn 1) (xcallK_clean KV_still.clean 1) (fuel := 3000) hc hE (by decide) (hz52 1 (by decide))
        (fun i j hij hj H => cfhit (KV_E (E53 hE hij hj H) (by decide) (by decide)))
        (fun X Y a b H hX hY ha hb hs => by
          obtain ⟨v, H', p1, p2⟩ := plusS_ok (cf := kvn 0) (fuel := 3000) hX hY ha hb (by decide) (hz52 0 (by decide)) (fun m n hm hn H => hz66 m n (by
            rcases hm with rfl | hm
            · exact Nat.lt_of_le_of_lt (Nat.zero_le _) hs
            · have := mem_sum hm; omega) (by
            rcases hn with hn | hn
            · have := mem_sum hn; omega
            · have := mem_sum hn; omega) H)
          exact ⟨v, H', (cfstep (KV_none (by decide)) rfl).trans p1, p2⟩)
        (fun X Y a b H hX hY ha hb ha0 hb0 hs hsa hsb => by
          obtain ⟨v, H', p1, p2⟩ := timesS_ok (cf := kvn 0) (fuel := 3000) hX hY ha hb ha0 hb0 (by decide) hs hsa hsb (hz52 0 (by decide)) (fun m n hmn H => hz66 m n (by omega) (by omega) H) (fun m n hm hn H => hz72 m n hm hn H)
          exact ⟨v, H', (cfstep (KV_none (by decide)) rfl).trans p1, p2⟩)
      exact ⟨v, H1, (cfstep (KV_none (by decide)) rfl).trans q1, q2⟩
    repeat' (first | refine WK.seqC (by assumption) ?_ | intro (_ : CleanTo _ _) | refine WK.skip ?_ | (apply WK.reg; (· exact lnn)) | refine WKO.nil ?_ | ((first | apply WKO.op); (· first | exact k_mv rfl | (apply k_call; (· rfl); (· rfl); (· first | exact c25 | exact c26 | exact c35 | exact c31 | exact c15)) | exact k_neE rfl | exact opA); (· rfl)) | refine pN ?_ | (apply WK.condF; (· rfl); (· exact dcd)) | fail)
    refine WKO.callV rfl rfl rfl (h17 (fun j hj => hC2 j (by simp only [next_bump] at hj; omega))) ?_
    rintro X H17 ⟨R, hRl, hT⟩
    have hlen := szF_len s (rulesOf l) gap 0 s.length
    have hll := (szF_le s (rulesOf l) gap (readE_zero hE).1).1
    have hbig := szF_big hE
    have hpos := last_pos s l gap
    obtain ⟨X6, H36, e36, r36, m36, n36⟩ : ∃ v H', kvn 2 36 [X] H17 = some (v, H') ∧ RdR 2 H' v (szF s (rulesOf l) gap 0 s.length).length (zC (szF s (rulesOf l) gap 0 s.length)) ∧ H'.m = H17.m ∧ H17.next ≤ H'.next := by
      obtain ⟨v, H', q1, q2⟩ := sizesT_walk (cf := kvn 1) (fuel := 3000) hT hRl (readE_zero hE).1 (by omega) hll (by rw [hlen, Nat.add_sub_cancel]; omega) (fun X b H hX h0 hb => by
        obtain ⟨v, H', p1, p2⟩ := top_walk (cf := kvn 0) (fuel := 3000) hX h0 hb (by decide) (fun n H => cfhit (KV_E (E109 n H) (by decide) (by decide)))
        exact ⟨v, H', (cfstep (KV_none (by decide)) rfl).trans p1, p2⟩)
      exact ⟨v, H', (cfstep (KV_none (by decide)) rfl).trans q1, q2⟩
    refine WKO.callV rfl rfl rfl (show ∃ v H', kvn 2 36 [X] H17 = some (v, H') ∧ (v = X6 ∧ H' = H36) from ⟨_, _, e36, rfl, rfl⟩) ?_
    rintro v5 H5 ⟨e5, e6⟩
    subst v5 H5
    clear hT h17 c15 hC2 hC1
    generalize mostF s (rulesOf l) gap 0 s.length = M at *
    generalize szF s (rulesOf l) gap 0 s.length = z at *
    have hel : ∀ n ∈ z, n < bigN := fun n hn => Nat.lt_of_le_of_lt (mem_sum hn) hbig
    repeat' (first | refine WK.seqC (by assumption) ?_ | intro (_ : CleanTo _ _) | (apply WK.reg; (· exact lnn)) | refine WKO.nil ?_ | ((first | apply WKO.op); (· first | exact k_mv rfl); (· rfl)) | refine pN ?_ | fail)
    obtain ⟨Hc, hHc⟩ : ∃ Hc, H36.bump 2 = Hc := ⟨_, rfl⟩
    have hnc : Hc.next = H36.next + 2 := by rw [← hHc]; rfl
    have r36c : RdR 2 Hc X6 z.length (zC z) := by rw [← hHc]; exact r36.frame nxx (fun _ _ => rfl)
    have hX6 : ∀ q, X6.own = some q → q < H36.next := fun q hq => r36.own_lt hq
    rw [hHc]
    refine WKO.bsZ (z' := 4) (by omega) ?_
    intro H37 r37 n37 g37
    repeat' (first | refine WK.seqC (by assumption) ?_ | intro (_ : CleanTo _ _) | refine WK.block ?_ | (apply WK.reg; (· exact lnn)) | refine WKO.nil ?_ | ((first | apply WKO.op); (· first | exact k_mv rfl); (· rfl)) | refine pN ?_ | fail)
    have r37' : RdR 2 H37 X6 z.length (zC z) := r36c.frame (by omega) (fun q hq => g37 q (by have := hX6 q hq; omega))
    refine WK.loop (α := Nat × AV) (fun t => [(8, nA M), (9, zA 0), (10, .str (decS z.sum)), (11, zA 0), (12, .str (decS (z.getD M 0))), (13, zA 0), (14, strI z), (15, zA 0), (17, X6), (18, t.2), (19, nA t.1)])
      (fun t H' => RdR 2 H' X6 z.length (zC z) ∧ RowE 4 H' t.2 (z.take t.1).length (qC (z.take t.1)) ∧ (∀ q, t.2.own = some q → H36.next ≤ q) ∧ H36.next ≤ H'.next ∧ t.1 ≤ z.length) (fun t => z.length - t.1) (0, .sl H36.next 0 0 0) (.cons rfl <| .cons rfl <| .cons rfl <| .cons rfl <| .cons rfl <| .cons rfl <| .cons rfl <| .cons rfl <| .cons rfl <| .cons rfl <| .cons rfl <| .nil _) ⟨r37'.frame nxx (fun _ _ => rfl), r37.frame nxx (fun _ _ => rfl), fun q hq => by simp only [AV.own, Option.some.injEq] at hq; omega, nxx, Nat.zero_le _⟩ (by show z.length - 0 < 3000; omega) ?_
    rintro ⟨i, v⟩ H38 ⟨r38, t38, o38, n38, i38⟩
    simp only at r38 t38 o38 n38 i38 ⊢
    clear r37 r37' r36 r36c
    repeat' (first | refine WK.seq ?_ | refine WK.skip ?_ | refine WK.exit ?_ | refine WK.block ?_ | (apply WK.reg; (· exact lnn)) | refine WKO.nil ?_ | ((first | apply WKO.op); (· first | exact k_mv rfl | exact k_lenE rfl r38 | exact k_iaE rfl rfl r38 (by omega) | (apply k_ldZI; (· rfl); (· exact r38); (· rfl); (· omega)) | (apply k_call; (· rfl); (· rfl); (· exact hz22 _ _)) | exact opA); (· rfl)) | refine pN ?_ | refine pX ?_ | refine bX ?_ | (apply WK.condD; (· rfl); all_goals intro _) | fail)
    · rename_i hiz
      have hbu : ((H38.bump 4).bump 9).next = H38.next + 13 := by simp only [next_bump]
      refine WKO.apQI (w := z.getD i 0) (b := z.take i) (t38.frame (by omega) (fun _ _ => rfl)) nxx (fun e => by have := t38.own_lt e; simp only [next_bump] at this; omega) (by rw [List.length_take]; omega) rfl rfl ?_
      intro v' H39 r39 n39 g39 o39
      have htk : z.take i ++ [z.getD i 0] = z.take (i + 1) := by rw [List.take_add_one, List.getElem?_eq_getElem hiz, List.getD_eq_getElem?_getD, List.getElem?_eq_getElem hiz]; rfl
      rw [htk] at r39
      repeat' (first | (apply WK.reg; (· exact lnn)) | refine WKO.nil ?_ | ((first | apply WKO.op); (· first | exact k_mv rfl | exact opA); (· rfl)) | refine pN ?_ | refine bN ?_ | fail)
      refine ⟨(i + 1, v'), (.cons rfl <| .cons rfl <| .cons rfl <| .cons rfl <| .cons rfl <| .cons rfl <| .cons rfl <| .cons rfl <| .cons rfl <| .cons rfl <| .cons rfl <| .nil _), ⟨?_, r39.frame nxx (fun _ _ => rfl), fun q hq => ?_, nxx, by show i + 1 ≤ z.length; omega⟩, by show z.length - (i + 1) < z.length - i; omega⟩
      · exact r38.frame nxx (fun q hq => (bump_get rfl q).trans ((g39 q (by have := hX6 q hq; omega) (by have := hX6 q hq; simp only [next_bump]; omega) (fun e => by have := o38 q e; have := hX6 q hq; omega)).trans rfl))
      · rcases o39 q hq with w | w
        · exact o38 q w
        · omega
    · have hiz : i = z.length := by omega
      subst hiz
      rw [List.take_length] at t38
      have hsub : ∀ {n : Nat} {Hq : AHeap} {K : KL0} {x : XO}, evK K x = some (nA z.length) → XV (kvn 2) K Hq n (.bin .sub x (.k (.int .i64 (.ofNat 1)))) = some (nA M, Hq) := fun {n Hq K x} hx => by
        have := k_subN (cf := kvn 2) (n := n) (H := Hq) (b := 1) (y := .k (.int .i64 (.ofNat 1))) hx rfl (by omega) (by omega)
        rwa [hlen, Nat.add_sub_cancel] at this
      have q1 : ∀ {n : Nat} {Hq : AHeap} {K : KL0} {x y : XO} {z : Int}, evK K x = some (.int .i64 z) → evK K y = some (.int .i64 z) → XV (kvn 2) K Hq n (.bin .eql x y) = some (.bool true, Hq) := fun hx hy => k_bin hx hy (by simp [binA, intCmpA])
      obtain ⟨v40, H40, e40, rfl, n40, k40⟩ : ∃ v H', kvn 2 37 [X6] ((H38.bump 4).bump 47) = some (v, H') ∧ v = zN z.sum ∧ ((H38.bump 4).bump 47).next ≤ H'.next ∧ ∀ q, q < ((H38.bump 4).bump 47).next → H'.get q = ((H38.bump 4).bump 47).get q := by
        obtain ⟨v, H', p1, p2⟩ := sum_walk (cf := kvn 1) (fuel := 3000) (H := (H38.bump 4).bump 47) (r38.frame nxx (fun _ _ => rfl)) (by decide) hll hbig (hz52 0 (by decide)) (fun m n hm hn H => hz66 m n hm hn H)
        exact ⟨v, H', (cfstep (KV_none (by decide)) rfl).trans p1, p2⟩
      have t40 : RowE 4 H40 v z.length (qC z) := t38.frame (by simp only [next_bump] at n40; omega) (fun q hq => k40 q (by have := t38.own_lt hq; simp only [next_bump]; omega))
      obtain ⟨v41, H41, e41, rfl, m41, n41⟩ : ∃ v' H', kvn 2 38 [strI z, v] H40 = some (v', H') ∧ v' = .bool true ∧ H'.m = H40.m ∧ H40.next ≤ H'.next := by
        obtain ⟨v, H', p1, p2⟩ := are_walk (cf := kvn 1) (fuel := 3000) (H := H40) (RdR.of t40) (by decide) hll (fun j hj H => hz21 _ (hel _ (by rw [List.getD_eq_getElem?_getD, List.getElem?_eq_getElem hj]; exact List.getElem_mem hj)) H)
        exact ⟨v, H', (cfstep (KV_none (by decide)) rfl).trans p1, p2⟩
      have hM : z.getD M 0 < bigN := hel _ (by rw [List.getD_eq_getElem?_getD, List.getElem?_eq_getElem (show M < z.length by omega)]; exact List.getElem_mem _)
      intro _
      refine ⟨fun _ => ?_, fun q => absurd rfl q⟩
      clear hcc
      repeat' (first | refine WK.seq ?_ | refine WK.ret ?_ | (apply WK.reg; (· exact lnn)) | refine WKO.nil ?_ | ((first | apply WKO.op | ((first | apply WKO.gop); (· rfl); (· exact dcd))); (· first | exact k_mv rfl | exact k_lenE rfl r38 | exact k_lenE rfl (RdR.of t40) | exact hsub rfl | exact q1 rfl rfl | (apply k_call; (· rfl); (· rfl); (· first | exact e40 | exact e41 | exact hz22 _ _ | exact hz21 _ hbig _ | exact hz21 _ hM _ | exact c16)) | exact k_iaE rfl rfl (RdR.of t40) (by omega) | (apply k_ldQ; (· rfl); (· exact RdR.of t40); (· rfl); (· omega)) | exact opA); (· rfl)) | refine pN ?_ | fail)
      exact ⟨fun id q => (by cases q), _, rfl, rfl⟩
  · have v1 : MostV s l gap = (0, readE s l gap) := by unfold MostV; rw [if_neg hE]
    have v2 : AllV s l gap = ([], readE s l gap) := by unfold AllV; rw [if_neg hE]
    have v3 : BestV s l gap = ([], readE s l gap) := by unfold BestV; rw [if_neg hE]
    have v4 : SizesV s l gap = ([], readE s l gap) := by unfold SizesV; rw [if_neg hE]
    simp only [v1] at c25
    simp only [v2] at c26
    simp only [v3] at c35
    simp only [v4] at c31
    generalize readE s l gap = e at *
    have q1 : ∀ {n : Nat} {Hq : AHeap} {K : KL0} {x y : XO} {z : Int}, evK K x = some (.int .i64 z) → evK K y = some (.int .i64 z) → XV (kvn 2) K Hq n (.bin .eql x y) = some (.bool true, Hq) := fun hx hy => k_bin hx hy (by simp [binA, intCmpA])
    have q2 : ∀ {n : Nat} {Hq : AHeap} {K : KL0} {x : XO}, evK K x = some (.str []) → XV (kvn 2) K Hq n (.bin .eql x (.k (.str []))) = some (.bool true, Hq) := fun hx => k_bin hx rfl rfl
    repeat' (first | refine WK.seqC (by assumption) ?_ | intro (_ : CleanTo _ _) | refine WK.ret ?_ | (apply WK.reg; (· exact lnn)) | refine WKO.nil ?_ | ((first | apply WKO.op | ((first | apply WKO.gop); (· rfl); (· exact dcd))); (· first | exact k_mv rfl | exact q1 rfl rfl | exact q2 rfl | (apply k_call; (· rfl); (· rfl); (· first | exact c25 | exact c26 | exact c35 | exact c31 | exact c15 | exact c16)) | exact k_neE rfl | exact k_lenSI rfl | exact opA); (· rfl)) | refine pN ?_ | refine pR ?_ | (apply WK.condT; (· rfl); (· exact dcd)) | fail)
    exact ⟨fun id q => (by cases q), _, rfl, rfl⟩
end Go.Proofs.YtfcgofffalmdfaaGreatDoor.PA
namespace Go.Proofs.YtfcgofffalmdfaaGreatDoor.PA
open Go Go.Eng Go.Proofs Go.RowKit Go.ChangeShapes Go.Deep
section
variable {H : Type} {enc : TypeId × Value → H} {P : Program} {w : World} {base : Nat} {held : Bool}
end
end Go.Proofs.YtfcgofffalmdfaaGreatDoor.PA
namespace Go.Proofs.YtfcgofffalmdfaaGreatDoor.PA
open Go Go.Eng Go.Proofs Go.RowKit Go.ChangeShapes Go.WideShapes Go.Deep Go.Joins
open Go.ChangeMaps (open_string)
theorem pairs_cells {E : Env} {w : World} {b : Nat} : ∀ (l : List (Int × Int)) (s : Nat), (∀ i p, l[i]? = some p → w.cell? ⟨b, s + i * 2, none⟩ = some (.int .i64 p.1) ∧ w.cell? ⟨b, s + i * 2 + 1, none⟩ = some (.int .i64 p.2)) →
    ∃ us, (∀ j u, us[j]? = some u → w.cell? ⟨b, s + j, none⟩ = some u) ∧ AVRelL E w (encPairs l) us
  | [], s, _ => ⟨[], fun j u h => (by cases h), by simp [encPairs, AVRelL]⟩
  | p :: l, s, h => by
    obtain ⟨us, h1, h2⟩ := pairs_cells (E := E) l (s + 2) (fun i q hq => by
      have := h (i + 1) q (by simpa using hq)
      rw [show s + (i + 1) * 2 = s + 2 + i * 2 by omega] at this
      exact this)
    obtain ⟨p1, p2⟩ := h 0 p rfl
    refine ⟨.int .i64 p.1 :: .int .i64 p.2 :: us, fun j u hu => ?_, ?_⟩
    · match j, hu with
      | 0, hu => cases hu; simpa using p1
      | 1, hu => cases hu; simpa using p2
      | j + 2, hu =>
        have := h1 j u hu
        rwa [show s + 2 + j = s + (j + 2) by omega] at this
    · have e : encPairs (p :: l) = [.int .i64 p.1, .int .i64 p.2] ++ encPairs l := rfl
      rw [e]
      simp only [List.cons_append, List.nil_append, AVRelL, AVRel]
      exact ⟨_, _, rfl, rfl, _, _, rfl, rfl, h2⟩
section
variable {H : Type} {enc : TypeId × Value → H} {w : World} {base : Nat} {held : Bool}
theorem read_pairs {v : Value} {x : DataW H × List MemPlace} {fuel : Nat} (hf : DataW.trod enc Tryz.prog w base (fun _ => true) held fuel 22 [v] = some x) : ∃ l : List (Int × Int), AVRel (E0 w) w (pairsI l) v := by
  have c59 : Tryz.prog.cellsOf 59 = 2 := by kernel_rfl
  have c3 : Tryz.prog.cellsOf 3 = 1 := by kernel_rfl
  rcases open_slice Tryz.underlying22 hf with ⟨h0, _⟩ | ⟨a, len, cap, m, n, D, Pl, h0, hb, hl, hm, hmm, _, hx⟩
  · cases h0
    refine ⟨[], ?_⟩
    unfold pairsI
    simp only [AVRel]
    exact .inl ⟨rfl, rfl, none, 0, rfl, by simp⟩
  · cases h0
    by_cases hz : len = 0
    · subst hz
      refine ⟨[], ?_⟩
      unfold pairsI
      simp only [AVRel]
      exact .inl ⟨rfl, rfl, some a, cap, rfl, by simp⟩
    · have hmc : m = cap := by simpa using hmm
      obtain ⟨f, hfn⟩ := choose_lt (n := len) (p := fun i (p : Int × Int) => w.cell? (a.add (i * 2)) = some (.int .i64 p.1) ∧ w.cell? (a.add (i * 2 + 1)) = some (.int .i64 p.2)) (fun i hi => by
        obtain ⟨cs', h1, h2⟩ := hx i (by omega)
        rw [c59] at h1
        obtain ⟨y0, y1, n2, _, hlen, t0, t1⟩ := trod_struct2 Tryz.underlying59 h2
        obtain ⟨_, hcl, hcell⟩ := World.cells?_some h1
        rw [c3] at t0 t1
        obtain ⟨z0, e0, _⟩ := DataW.trod_int Tryz.underlying3 t0
        obtain ⟨z1, e1, _⟩ := DataW.trod_int Tryz.underlying3 t1
        match cs', hcl with
        | [u0, u1], _ =>
          simp at e0 e1
          have q0 := hcell 0 (by omega)
          have q1 := hcell 1 (by omega)
          subst e0 e1
          exact ⟨(z0, z1), by simpa [Go.Deep.add_add] using q0, by simpa [Go.Deep.add_add] using q1⟩)
      have hs : a.spot = none := by
        have h0 := (hfn 0 (by omega)).1
        have h0' : w.cell? a = some (.int .i64 (f 0).1) := by simpa [Addr.add] using h0
        unfold World.cell? at h0'
        split at h0'
        · split at h0'
          · cases h0'
          · rename_i q
            simpa using q
        · cases h0'
      obtain ⟨b, s, sp⟩ := a
      simp only at hs
      subst hs
      have hadd : ∀ j, (⟨b, s, none⟩ : Addr).add j = ⟨b, s + j, none⟩ := fun j => by
        unfold Addr.add
        split
        · rename_i q; subst q; rfl
        · rfl
      obtain ⟨us, u1, u2⟩ := pairs_cells (E := E0 w) (w := w) (b := b) ((List.range len).map f) s (fun i p hp => by
        rw [List.getElem?_map, Option.map_eq_some_iff] at hp
        obtain ⟨i', h1, rfl⟩ := hp
        have hi' : i < len := by
          rcases Nat.lt_or_ge i len with q | q
          · exact q
          · rw [List.getElem?_eq_none (by simpa using q)] at h1; cases h1
        rw [List.getElem?_range hi'] at h1
        cases h1
        have := hfn _ hi'
        rw [hadd, hadd, ← Nat.add_assoc] at this
        exact this)
      refine ⟨(List.range len).map f, ?_⟩
      unfold pairsI
      simp only [AVRel, List.length_map, List.length_range]
      refine .inr ⟨b, s, cap, us, rfl, ?_, u1, u2, by omega, by simp⟩
      have h0 := (hfn 0 (by omega)).1
      rw [hadd] at h0
      exact World.block_lt_of_cell? _ _ h0
set_option maxRecDepth 100000 in
theorem read_rules {dm : Reach} {b2 : Nat} {v : Value} {d : DataW H} {ps : List MemPlace} (hv : Value.okWide Tryz.prog w dm b2 24 v) (h : DataW.Trod enc Tryz.prog w base (fun _ => true) held 24 v d ps) :
    ∃ (l : List (Int × Int)) (gap : Int), AVRel (E0 w) w (.agg [pairsI l, .int .i64 gap]) v := by
  obtain ⟨c0, c1, y0, y1, n, rfl, hd0, hp0, t0, t1⟩ := open_agg2 Tryz.underlying24 (by kernel_rfl) (by kernel_rfl) hv h
  obtain ⟨l, hl⟩ := read_pairs t0
  obtain ⟨gap, hg, _⟩ := DataW.trod_int Tryz.underlying3 t1
  simp only [List.cons.injEq, and_true] at hg
  subst hg
  refine ⟨l, gap, ?_⟩
  simp only [AVRel, AVRelL]
  exact ⟨_, rfl, _, _, rfl, hl, _, _, rfl, rfl, rfl⟩
set_option maxRecDepth 100000 in
theorem read_str {t : TypeId} {dm : Reach} {b2 : Nat} {v : Value} {d : DataW H} {ps : List MemPlace} (ht : Tryz.prog.underlying t = some .string) (hv : Value.okWide Tryz.prog w dm b2 t v) (h : DataW.Trod enc Tryz.prog w base (fun _ => true) held t v d ps) :
    ∃ s : List UInt8, AVRel (E0 w) w (.str s) v := by
  obtain ⟨a1, rfl, _⟩ := open_string ht hv h
  exact ⟨a1.data.toList, by simp only [AVRel]; exact ⟨_, rfl, rfl⟩⟩
end
end Go.Proofs.YtfcgofffalmdfaaGreatDoor.PA
namespace Go.Proofs.YtfcgofffalmdfaaGreatDoor.ropeCounts
open Go Go.ChangeShapes Go.WideShapes Go.ChangeAt Go.RowKit Go.Deep Go.Joins Go.Eng
theorem own : ownKnob Tryz.prog.godebug = none := by kernel_rfl
theorem laidOut : laidOutB Tryz.prog = true := by kernel_rfl
theorem call (w : World) {ps : List (Int × Int)} {gap : Int} {s1 : List UInt8} {v0 v1 : Value} (h0 : AVRel (E0 w) w (.agg [PA.pairsI ps, .int .i64 gap]) v0) (h1 : AVRel (E0 w) w (.str s1) v1) :
    Calls Tryz.prog 8 #[v0, v1] w fun e w' => e = .returned (.bool true) ∧ Below w.heap.size w w' := by
  obtain ⟨v, H', q1, rfl⟩ := PA.x8 ps gap s1
  have h3 := (xfunc_sound PA.mixed (xcallK_sound PA.mixed PA.KV_ok PA.F_ok 3000 2) 3000 (PA.F_ok 8 PA.L8 rfl) q1).2 (E0 w) w [v0, v1] (rel0 w) (by
    simp only [AVRelL]
    exact ⟨_, _, rfl, h0, ⟨_, _, rfl, h1, rfl⟩⟩)
  refine h3.mono fun e w' ⟨u, E', he, hs, hr⟩ => ?_
  simp only [AVRel] at hr
  subst hr
  exact ⟨he, below0 hs⟩
set_option maxRecDepth 100000 in
theorem lifted (os : Os) (started : os.Started) (H : Type) (enc : TypeId × Value → H) :
    ReturnsInHanded {} Tryz.checked os 8 .any (fun w args => (Rows.ropeCountsSpec.pre enc Tryz.prog Tryz.f8 Rows.ropeCountsRow.domain false w args ∧ laidMetH Tryz.prog Rows.ropeCountsRow.laid w) ∧ sizedMet enc Tryz.prog Tryz.f8 (OpenSpec.ofChange Rows.ropeCountsSpec) false w args)
      (Rows.ropeCountsSpec.post enc Tryz.prog Tryz.f8 false true false false) := by
  refine returnsInHanded_of_change_and (C := Tryz.checked) (X := fun w _ => laidMetH Tryz.prog Rows.ropeCountsRow.laid w) (fun _ _ _ hh h => h.of_heap hh) own started (by kernel_rfl) Tryz.func8
    (ChangeSpec.witness_shaped (enc := enc) (C := Tryz.checked) (os := os) (X := fun w _ => laidMetH Tryz.prog Rows.ropeCountsRow.laid w) false (World.laidAll Tryz.prog os Rows.ropeCountsRow.laid) #[.agg #[.slice none 0 0, .int .i64 0], .string ByteArray.empty] 8 (World.laidAll_os _ _ _)
      (World.shaped_of_ZipB (by kernel_rfl) (by kernel_rfl)) (by kernel_rfl) (by kernel_rfl) (by kernel_rfl)
      (by rw [MakeChecks.laidMetH_plain _ _ _ (by kernel_rfl)]; exact laidMet_laidAll _ (by kernel_rfl) (by kernel_rfl))) ?_
  intro W base args ds gs before hval0 hW hcnd _ _ _
  have hval : ∀ (j : Nat) t v, Tryz.f8.params[j]? = some t → args[j]? = some v → Value.okWide Tryz.prog W .any base t v := hval0
  have hW' := hW
  obtain ⟨p, q, hA0, hV, rfl, hfz, hnd⟩ := hW
  have hA : DataW.TrodAll enc Tryz.prog W 0 (fun _ => true) true Tryz.f8.params.toList args.toList ds p := hA0
  rw [Tryz.params8] at hA hval
  obtain ⟨v0, vs0, d0, ds0, p0, q0, hargs, rfl, rfl, h0, r0⟩ := trodAll_cons hA
  obtain ⟨v1, vs1, d1, ds1, p1, q1, rfl, rfl, rfl, h1, r1⟩ := trodAll_cons r0
  obtain ⟨rfl, rfl, rfl⟩ := trodAll_nil r1
  obtain rfl : args = #[v0, v1] := by cases args; simp_all
  obtain ⟨rfl, rfl⟩ := trodVars_none hV
  have k0 := h0
  have lt0 : ∀ x ∈ p0, x.block < W.heap.size := by obtain ⟨m, hm⟩ := k0; exact DataW.trod_lt m _ _ _ hm
  have k1 := h1
  have lt1 : ∀ x ∈ p1, x.block < W.heap.size := by obtain ⟨m, hm⟩ := k1; exact DataW.trod_lt m _ _ _ hm
  obtain ⟨ps, gap, r0x⟩ := PA.read_rules (hval 0 24 v0 rfl rfl) h0
  obtain ⟨s1, r1x⟩ := PA.read_str (Tryz.underlying9) (hval 1 9 v1 rfl rfl) h1
  clear hA0 hval0
  refine (call W   r0x r1x).mono fun e W' ⟨he, bel⟩ => ?_
  subst he
  exact ⟨_, rfl, _, _, _, [], _, [], hW', trodAll_mk1 (shut_bool Tryz.underlying4 _), (trodAll_cons_mk (Below.trod laidOut (by kernel_rfl) (of_decide_eq_true (by kernel_rfl)) k0 bel lt0) (trodAll_cons_mk (Below.trod laidOut (by kernel_rfl) (of_decide_eq_true (by kernel_rfl)) k1 bel lt1) trodAll_mk0)), rfl, bel.frame _, fun h => by cases h⟩
theorem over : Rows.RopeCountsSaid :=
  OpenClaim.holds_of_wide 8 Tryz.f8 rfl rfl rfl rfl rfl rfl rfl ⟨rfl, rfl, rfl, rfl, rfl⟩ rfl rfl rfl rfl rfl (by kernel_rfl) Tryz.func8 (by kernel_rfl)
    (of_decide_eq_true (by kernel_rfl)) (by unfold Func.isWrapper; first | (rw [if_pos (by decide +kernel)]; kernel_rfl) | (rw [if_neg (by decide +kernel)]; exact ⟨rfl, rfl⟩))
    (fun os started H enc _ => lifted os started H enc)
end Go.Proofs.YtfcgofffalmdfaaGreatDoor.ropeCounts
namespace Go.Proofs.YtfcgofffalmdfaaGreatDoor
open Go
theorem ropeCounts_card : Rows.RopeCountsCardSaid :=
  Claim7.holds_tied_plain_at .later [] [.data, .pinned] true (true, "5e7abd25e6fdffa6dc8dfc12cd5002f17c6143cad05b03ef55e8e1654f75baf7") false ropeCounts.over (fun _ h => by cases h) (by kernel_rfl) (fun _ h => by cases h) ropeCounts_row_tie rfl ⟨rfl, rfl⟩ (by kernel_rfl) rfl
    (fun f fn hf hfn => by
      obtain rfl : f = 8 := Option.some.inj ((show Tryz.prog.funcNamed "woggle/wogglelaw03.RopeCounts" = some 8 by kernel_rfl).symm.trans hf) |>.symm
      obtain rfl : fn = Tryz.f8 := (Option.some.inj (Tryz.func8.symm.trans hfn)).symm
      exact ⟨by kernel_rfl, fun j t ht => by
        rw [Tryz.params8] at ht
        have hm : t ∈ [24, 9] := by simpa using Array.mem_of_getElem? ht
        have hall : ([24, 9].all fun u => !Tryz.prog.wantsStandIn u) = true := by kernel_rfl
        exact (show Tryz.prog.wantsStandIn t = false by simpa using List.all_eq_true.1 hall t hm)⟩)
    (by kernel_rfl)
#print axioms ropeCounts_card
end Go.Proofs.YtfcgofffalmdfaaGreatDoor
