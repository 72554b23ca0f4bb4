/- RopeFirsts: First returns the first of the foldings of the greatest size, or the error that the document names, for ropes of at most 16 letters. The row and its tied card. No condition. -/
import Derived.Test.YtfcgofffalmdfaaGreatDoorJE
import Derived.Test.YtfcgofffalmdfaaGreatDoorJB
import Derived.Test.YtfcgofffalmdfaaGreatDoorJC
import Derived.Test.YtfcgofffalmdfaaGreatDoorJD
import Derived.ProofKit
import Derived.OpenShut
import Derived.Deep.Slices
import Derived.Deep.SlicePairs
import Derived.Deep.Fields
import Derived.ShutString
import Derived.ChangeMaps
import Derived.Lib.SmallJoins
import Derived.Test.YtfcgofffalmdfaaGreatDoorRows
import Derived.Test.YtfcgofffalmdfaaGreatDoorCards
import Derived.Test.YtfcgofffalmdfaaGreatDoorTie
import Derived.LaidMore
import Derived.Lay
import Derived.SevenTiedAt
import Derived.Stop.Joined
import Derived.SizedLaws
import Derived.Carry
import Derived.ChangeSame
set_option linter.unusedSectionVars false
set_option linter.unusedVariables false
set_option linter.unusedSimpArgs false
namespace Go.Proofs.YtfcgofffalmdfaaGreatDoor.PA
open Go Go.Eng Go.Proofs
theorem nA_cells (n : Nat) : (nA n).cells = [nA n] := rfl
theorem nA_one (n : Nat) : (nA n).oneCell = true := rfl
theorem replicate_nA (m : Nat) : (List.replicate m [AV.int .i64 (.ofNat 0)]).flatten = (List.replicate m 0).map nA := by
  rw [List.map_replicate]
  induction m with
  | zero => rfl
  | succ m ih => rw [List.replicate_succ, List.flatten_cons, ih, List.replicate_succ]; rfl
theorem map_nA' {N : List Nat} {p : Nat} (h : p < N.length) : (N.map nA)[p]? = some (nA (N.getD p 0)) := by
  have := map_nA h
  rwa [Nat.mul_one] at this
set_option maxHeartbeats 4000000 in
theorem mul_walkZ {m n : Nat} (hm : (dz m).length < 400) (hn : (dz n).length < 400) : ∃ v H', xfunc (xcallK Kno F 2000 1) 2000 L72 [zN m, zN n] ⟨.e, 0⟩ = some (v, H') ∧ ∃ u, v = .agg [.bool false, u] ∧ RowE 1 H' u (dz (m * n)).length ((dz (m * n)).map nA) := by
  refine xfunc_ofK rfl (by show 2 ≤ 80; omega) ?_
  have hF := HF.start ⟨.e, 0⟩
  generalize (⟨.e, 0⟩ : AHeap) = H at hF ⊢
  have hd1 := digZ_dz m
  have hd2 := digZ_dz n
  have hv1 := valZ_dz m
  have hv2 := valZ_dz n
  have ez : ∀ k, zN k = .agg [.bool false, rowZ (dz k)] := fun k => rfl
  simp only [ez]
  generalize dz m = a at hm hd1 hv1 ⊢
  generalize dz n = b at hn hd2 hv2 ⊢
  unfold L72
  dsimp only
  repeat' (first | refine WK.seq ?_ | (apply WK.reg; (· exact lnn)) | (apply WKO.boxO; (· rfl); (· assumption); (· rfl); (· exact nxx); (· exact nxx); (· exact nxx); intro _ _ _) | (apply WKO.alO; (· assumption); (· rfl); (· exact nxx); (· exact nxx); (· exact nxx); intro _ _ _) | refine WKO.nil ?_ | ((first | apply WKO.op); (· first | exact k_lenZ rfl | (apply k_ldO; (· rfl); (· assumption); (· rfl); (· exact mmb); (· rfl)) | exact k_faddr rfl | exact opA); (· rfl)) | refine pN ?_ | fail)
  rename_i H1 hF1 hn1 H2 hF2 hn2 H3 hF3 hn3
  refine WKO.mkO (m := a.length + b.length + 1) rfl rfl ⟨by omega, by decide⟩ hF3 rfl (by simp only [next_bump]; omega) ?_
  intro H4 hF4 hn4
  rw [replicate_nA] at hF4
  repeat' (first | refine WK.seq ?_ | refine WK.block ?_ | (apply WK.reg; (· exact lnn)) | refine WKO.nil ?_ | ((first | apply WKO.op); (· first | exact k_mv rfl); (· rfl)) | refine pN ?_ | fail)
  generalize hpo : (H3.bump 10).next = po at hF4 ⊢
  have hb3 := hF3.base
  have hle3 := hF3.le
  have hpo2 : H.next ≤ po := by simp only [next_bump] at hpo; omega
  have hpo3 : H.next + 1 + 1 + 1 ≤ po := by simp only [next_bump] at hpo; omega
  clear hF hF1 hF2 hF3
  refine WK.loop (α := Nat × List Nat) (fun s => [(2, .ptr H.next 0), (3, .ptr (H.next + 1) 0), (4, .ptr (H.next + 1 + 1) 0), (5, .sl po 0 (a.length + b.length + 1) (a.length + b.length + 1)), (6, nA s.1)])
    (fun s H' => (∃ T, HF H [] T [(po, .cells (s.2.map nA) none), (H.next + 1 + 1, .cells [.bool false, .nils] none), (H.next + 1, .cells [.bool false, rowZ b] none), (H.next, .cells [.bool false, rowZ a] none)] H') ∧ MulO a b s.1 s.2 ∧ s.1 ≤ a.length) (fun s => a.length - s.1) (0, List.replicate (a.length + b.length + 1) 0) (.cons rfl <| .cons rfl <| .cons rfl <| .cons rfl <| .cons rfl <| .nil _) ⟨⟨_, hF4.up rfl (by simp only [next_bump]; omega)⟩, MulO.zero a b, Nat.zero_le _⟩ (by show a.length - 0 < 2000; omega) ?_
  rintro ⟨i, N⟩ H5 ⟨⟨T5, hF5⟩, hO, hi⟩
  simp only at hF5 hO hi ⊢
  clear hF4
  repeat' (first | refine WK.seq ?_ | refine WK.skip ?_ | refine WK.exit ?_ | refine WK.block ?_ | (apply WK.reg; (· exact lnn)) | refine WKO.nil ?_ | ((first | apply WKO.op); (· first | exact k_mv rfl | exact k_lenZ rfl | (apply k_ldO; (· rfl); (· assumption); (· rfl); (· exact mmb); (· rfl)) | exact k_faddr rfl | exact opA); (· rfl)) | refine pN ?_ | refine pX ?_ | refine bX ?_ | (apply WK.condD; (· rfl); all_goals intro _) | fail)
  · refine WK.loop (α := Nat × Nat × List Nat) (fun s => [(2, .ptr H.next 0), (3, .ptr (H.next + 1) 0), (4, .ptr (H.next + 1 + 1) 0), (5, .sl po 0 (a.length + b.length + 1) (a.length + b.length + 1)), (6, nA i), (7, nA s.2.1), (8, nA s.1)])
      (fun s H' => (∃ T, HF H [] T [(po, .cells (s.2.2.map nA) none), (H.next + 1 + 1, .cells [.bool false, .nils] none), (H.next + 1, .cells [.bool false, rowZ b] none), (H.next, .cells [.bool false, rowZ a] none)] H') ∧ MulI a b i s.1 s.2.1 s.2.2) (fun s => b.length + 1 - s.1) (0, 0, N) (.cons rfl <| .cons rfl <| .cons rfl <| .cons rfl <| .cons rfl <| .cons rfl <| .cons rfl <| .nil _) ⟨⟨_, hF5.up rfl (by simp only [next_bump]; omega)⟩, hO.row⟩ (by show b.length + 1 - 0 < 2000; omega) ?_
    rintro ⟨k, c, M⟩ H6 ⟨⟨T6, hF6⟩, hI⟩
    simp only at hF6 hI ⊢
    clear hF5
    have hMl := hI.l
    have hc1 := hI.c1
    have hk1 := hI.k1
    have hke := hI.e
    have hB : BZ = 10000 := rfl
    rw [hB] at hc1
    have hdg := digZ_get hI.d (i + k)
    have hda := digZ_get hd1 i
    have hdb := digZ_get hd2 k
    rw [hB] at hda hdb
    have hmul : a.getD i 0 * b.getD k 0 ≤ 9999 * 9999 := Nat.mul_le_mul (by omega) (by omega)
    rw [hB] at hdg
    repeat' (first | refine WK.seq ?_ | refine WK.skip ?_ | refine WK.exit ?_ | refine WK.block ?_ | (apply WK.reg; (· exact lnn)) | (apply WK.regC; (· rfl); (· exact lnn); (· decide)) | refine WKC.nil ?_ | refine WKO.nil ?_ | ((first | apply WKC.op | apply WKO.op | ((first | apply WKO.gop); (· rfl); (· exact dcd))); (· first | exact k_mv rfl | exact k_lenZ rfl | exact k_ia1s rfl rfl (by omega) | (apply k_ldO; (· rfl); (· exact hF6); (· rfl); (· exact .head _); (· exact map_nA' (by omega))) | exact k_iaZ rfl rfl (by omega) | exact k_ldZ rfl (by omega) | exact k_mulN rfl rfl (by omega) | exact k_remN rfl rfl (by decide) | exact k_quoN rfl rfl (by decide) (by omega) | (apply k_ldO; (· rfl); (· assumption); (· rfl); (· exact mmb); (· rfl)) | exact k_faddr rfl | exact opA); (· rfl)) | ((first | apply WKO.gnoF); (· rfl); (· exact dcd)) | ((first | apply WKO.gsp); (· rfl); all_goals ((fail_if_success (refine known ?_ ?_; (· assumption))); intro _)) | refine pN ?_ | refine pX ?_ | refine bN ?_ | refine bX ?_ | (apply WK.condT; (· rfl); (· exact dcd)) | (apply WK.condF; (· rfl); (· exact dcd)) | (apply WK.condD; (· rfl); all_goals intro _) | fail)
    · refine WKO.stN (f := nA) (N := M) (p := i + k) rfl rfl (nA_cells _) (nA_one _) hF6 rfl nxx (.inr hpo2) (by omega) ?_
      intro H7 hF7 hn7
      repeat' (first | (apply WK.reg; (· exact lnn)) | refine WKO.nil ?_ | ((first | apply WKO.op); (· first | exact k_mv rfl | exact opA); (· rfl)) | refine pN ?_ | refine bN ?_ | fail)
      obtain ⟨q1, q2⟩ := hI.step hd1 hd2 (by assumption) (by assumption) rfl
      exact ⟨(k + 1, _, _), (.cons rfl <| .cons rfl <| .cons rfl <| .cons rfl <| .cons rfl <| .cons rfl <| .cons rfl <| .nil _), ⟨⟨T6, hF7.up rfl (by simp only [next_bump]; omega)⟩, q1⟩, by show b.length + 1 - (k + 1) < b.length + 1 - k; omega⟩
    · have hkb : k = b.length := by omega
      subst hkb
      obtain ⟨q0, q1⟩ := hI.last (by assumption)
      refine WKO.stN (f := nA) (N := M) (p := i + b.length) rfl rfl (nA_cells _) (nA_one _) hF6 rfl nxx (.inr hpo2) (by omega) ?_
      intro H7 hF7 hn7
      repeat' (first | (apply WK.reg; (· exact lnn)) | refine WKO.nil ?_ | ((first | apply WKO.op); (· first | exact k_mv rfl | exact opA); (· rfl)) | refine pN ?_ | refine bN ?_ | fail)
      have e1 : (M.getD (i + b.length) 0 + c) / 10000 = 0 := by omega
      have e2 : (M.getD (i + b.length) 0 + c) % 10000 = c := by omega
      rw [e2] at hF7
      rw [e1]
      exact ⟨(b.length + 1, 0, _), (.cons rfl <| .cons rfl <| .cons rfl <| .cons rfl <| .cons rfl <| .cons rfl <| .cons rfl <| .nil _), ⟨⟨T6, hF7.up rfl (by simp only [next_bump]; omega)⟩, q1⟩, by show b.length + 1 - (b.length + 1) < b.length + 1 - b.length; omega⟩
    · refine ⟨fun _ => ?_, fun q => absurd rfl q⟩
      repeat' (first | (apply WK.reg; (· exact lnn)) | refine WKO.nil ?_ | ((first | apply WKO.op); (· first | exact k_mv rfl | exact opA); (· rfl)) | refine pN ?_ | fail)
      exact ⟨(i + 1, M), (.cons rfl <| .cons rfl <| .cons rfl <| .cons rfl <| .cons rfl <| .nil _), ⟨⟨T6, hF6.up rfl (by simp only [next_bump]; omega)⟩, hI.done (by assumption) (by omega), by show i + 1 ≤ a.length; omega⟩, by show a.length - (i + 1) < a.length - i; omega⟩
  · refine ⟨fun _ => ?_, fun q => absurd rfl q⟩
    repeat' (first | refine WK.seq ?_ | (apply WK.reg; (· exact lnn)) | ((first | apply WKO.op); (· first | exact k_mv rfl | exact k_neB rfl rfl | (apply k_ldO; (· rfl); (· assumption); (· rfl); (· exact mmb); (· rfl)) | exact k_faddr rfl | exact opA); (· rfl)) | fail)
    have hvN := hO.done (by assumption)
    have hNl := hO.l
    have hpl := hF5.lt _ (.head _)
    have hle5 := hF5.le
    simp only at hpl
    have hfrt : Frt ((H5.bump 5).bump 9) (.sl po 0 (a.length + b.length + 1) (a.length + b.length + 1)) N := .inr (.inl ⟨po, by rw [hNl], by simp only [next_bump]; omega, hF5.obj _ (.head _), by omega⟩)
    refine WKO.callV rfl rfl rfl (show ∃ v H', xcallK Kno F 2000 1 83 [.agg [.bool false, .sl po 0 (a.length + b.length + 1) (a.length + b.length + 1)]] ((H5.bump 5).bump 9) = some (v, H') ∧ _ from by
      obtain ⟨v, H', q1, q2⟩ := lean_ok (cf := xcallK Kno F 2000 0) (fuel := 2000) hfrt hO.d (by omega) (by omega)
      exact ⟨v, H', (cfstep rfl rfl).trans q1, q2⟩) ?_
    rintro v H7 ⟨u, rfl, hR, hfr, hn7, hown⟩
    have ho := hR.one
    simp only [next_bump] at hfr hn7 hown
    have hF7 : HF H7 [H.next + 1 + 1] H7.next [(H.next + 1 + 1, .cells [.bool false, .nils] none)] H7 := HF.add ⟨fun p hp => (by cases hp), fun p hp => (by cases hp), by simp, Nat.le_refl _, Nat.le_refl _, fun _ _ _ => rfl⟩ ((hfr _ (by omega)).trans (hF5.obj (H.next + 1 + 1, _) (.tail _ (.head _)))) (by omega) (by simp)
    clear hF5
    repeat' (first | refine WK.ret ?_ | (apply WKO.p0; (· rfl); (· rfl); (· first | rfl); (· first | assumption); (· assumption); (· rfl); (· exact nxx); (· first | exact .inl (by simp)); intro _ _ _) | refine WKO.nil ?_ | refine pN ?_ | fail)
    rename_i H9 hF9 hn9
    rw [hvN, hv1, hv2] at hR
    exact ⟨fun id q => (by cases q), _, resK_obj rfl (hF9.obj _ (.head _)) rfl, u, rfl, hR.frame (Nat.le_trans hF9.base hF9.le) (fun q hq => hF9.fr q (hR.own_lt hq) (by have := hown q hq; simp only [List.mem_singleton]; omega))⟩
theorem E72 {m n : Nat} (hm : (dz m).length < 400) (hn : (dz n).length < 400) (H : AHeap) : KE 72 [zN m, zN n] H = some (zN (m * n), H) := by
  obtain ⟨v, H', h, u, rfl, hR⟩ := mul_walkZ hm hn
  have hc := (xfunc_sound mixed (xcallK_sound mixed Kno_ok F_ok 2000 1) 2000 (F_ok 72 L72 rfl) h).pure (H := H) (v' := zN (m * n)) (by simp only [AV.frozL, zN_froz, Bool.and_self]) (.agg rfl (fun j x y hx hy => by
    match j, hx, hy with
    | 0, hx, hy => cases hx; cases hy; exact .bool _
    | 1, hx, hy => cases hx; cases hy; exact rowZ_fz hR (fun i _ => get_e0 i)))
  obtain ⟨v', q1, q2⟩ := KE_hit hc (fun m' n' e => by
    simp only [List.cons.injEq, and_true] at e
    rw [zN_inj e.1, zN_inj e.2])
  rw [q1, q2 m n rfl]
end Go.Proofs.YtfcgofffalmdfaaGreatDoor.PA
namespace Go.Proofs.YtfcgofffalmdfaaGreatDoor.PA
theorem decV_acc : ∀ (l : List Nat) (v : Nat), l.foldl (fun v c => 10 * v + (c - 48)) v = v * 10 ^ l.length + decV l
  | [], v => by simp [decV]
  | c :: l, v => by
    have e : decV (c :: l) = l.foldl (fun v c => 10 * v + (c - 48)) (10 * 0 + (c - 48)) := rfl
    rw [e, List.foldl_cons, decV_acc l, decV_acc l (10 * 0 + (c - 48)), List.length_cons, Nat.pow_succ, Nat.add_mul, Nat.add_mul, Nat.mul_comm 10 v, Nat.mul_assoc v 10, Nat.mul_comm 10 (10 ^ l.length)]
    omega
theorem decV_app (a b : List Nat) : decV (a ++ b) = decV a * 10 ^ b.length + decV b := by
  have : decV (a ++ b) = b.foldl (fun v c => 10 * v + (c - 48)) (decV a) := by unfold decV; rw [List.foldl_append]
  rw [this, decV_acc]
theorem decV_lt : ∀ {l : List Nat}, (∀ c ∈ l, 48 ≤ c ∧ c < 58) → decV l < 10 ^ l.length
  | [], _ => by simp [decV]
  | c :: l, h => by
    have h1 := decV_lt (l := l) (fun x hx => h x (by simp [hx]))
    have h2 := h c (by simp)
    have e : decV (c :: l) = (c - 48) * 10 ^ l.length + decV l := by
      have : decV (c :: l) = l.foldl (fun v c => 10 * v + (c - 48)) (10 * 0 + (c - 48)) := rfl
      rw [this, decV_acc, Nat.mul_zero, Nat.zero_add]
    have h3 : (c - 48) * 10 ^ l.length ≤ 9 * 10 ^ l.length := Nat.mul_le_mul_right _ (by omega)
    rw [e, List.length_cons, Nat.pow_succ]
    omega
def grp (L : List Nat) (i j : Nat) : List Nat := (L.take j).drop i
theorem grp_lt {L : List Nat} (h : ∀ c ∈ L, 48 ≤ c ∧ c < 58) {i j : Nat} (hij : i ≤ j) (h4 : j ≤ i + 4) : decV (grp L i j) < 10000 := by
  have h1 := decV_lt (l := grp L i j) (fun c hc => h c (List.mem_of_mem_take (List.mem_of_mem_drop hc)))
  have h2 : (grp L i j).length ≤ 4 := by unfold grp; rw [List.length_drop, List.length_take]; omega
  have h3 : 10 ^ (grp L i j).length ≤ 10 ^ 4 := Nat.pow_le_pow_right (by decide) h2
  have h4 : (10 : Nat) ^ 4 = 10000 := rfl
  omega
structure ReadZ (L : List Nat) (n at_ : Nat) (o : List Nat) : Prop where
  v : valZ o + BZ ^ o.length * decV (L.take at_) = n
  d : digZ o
  l : o.length + at_ ≤ L.length
theorem ReadZ.next {L : List Nat} {n at_ : Nat} {o : List Nat} (h : ReadZ L n at_ o) (hL : ∀ c ∈ L, 48 ≤ c ∧ c < 58) (h0 : 0 < at_) : ReadZ L n (at_ - 4) (o ++ [decV (grp L (at_ - 4) at_)]) := by
  have hl := h.l
  refine ⟨?_, digZ_snoc h.d (by rw [BZ_eq]; exact grp_lt hL (by omega) (by omega)), by rw [List.length_append, List.length_singleton]; omega⟩
  rw [valZ_snoc, ← h.v, List.length_append, List.length_singleton, Nat.pow_succ, Nat.mul_assoc, Nat.add_assoc, ← Nat.mul_add]
  congr 2
  have e : L.take at_ = L.take (at_ - 4) ++ grp L (at_ - 4) at_ := by
    unfold grp
    have := List.take_append_drop (at_ - 4) (L.take at_)
    rw [List.take_take, Nat.min_eq_left (by omega)] at this
    exact this.symm
  rw [e, decV_app, BZ_eq]
  by_cases h4 : 4 ≤ at_
  · have : (grp L (at_ - 4) at_).length = 4 := by unfold grp; rw [List.length_drop, List.length_take]; omega
    rw [this]
    omega
  · rw [show at_ - 4 = 0 by omega, List.take_zero]
    simp [decV]
theorem ReadZ.done {L : List Nat} {n : Nat} {o : List Nat} (h : ReadZ L n 0 o) : valZ o = n := by
  have := h.v
  rw [List.take_zero, show decV [] = 0 from rfl, Nat.mul_zero, Nat.add_zero] at this
  exact this
end Go.Proofs.YtfcgofffalmdfaaGreatDoor.PA
namespace Go.Proofs.YtfcgofffalmdfaaGreatDoor.PA
open Go Go.Eng Go.Proofs
theorem HF.back {H0 Hc H1 : AHeap} {T : Nat} {fs fs' : List (Nat × AObj)} {p : Nat} (h0 : HF H0 [] T fs Hc) (h1 : HF Hc [p] Hc.next fs' H1) (hp : H0.next ≤ p) (he : fs'.map (·.1) = fs.map (·.1)) : HF H0 [] T fs' H1 where
  obj := h1.obj
  lt := fun q hq => by
    have : q.1 ∈ fs.map (·.1) := by rw [← he]; exact List.mem_map_of_mem hq
    obtain ⟨q', hq', e⟩ := List.mem_map.1 this
    have := h0.lt q' hq'
    omega
  nd := h1.nd
  base := h0.base
  le := Nat.le_trans h0.le (Nat.le_trans h1.base h1.le)
  fr := fun k hk hm => (h1.fr k (by have := h0.base; have := h0.le; omega) (by simp only [List.mem_singleton]; omega)).trans (h0.fr k hk hm)
theorem HF.here {H0 H : AHeap} {T : Nat} {fs : List (Nat × AObj)} {mod : List Nat} (m : List Nat) (h : HF H0 mod T fs H) : HF H m H.next fs H :=
  ⟨h.obj, fun p hp => Nat.lt_of_lt_of_le (h.lt p hp) h.le, h.nd, Nat.le_refl _, Nat.le_refl _, fun _ _ _ => rfl⟩
section
variable {cf : CF} {n m : Nat} {H0 H H' : AHeap} {T : Nat} {fs : List (Nat × AObj)} {l : KL0} {R : KL0 → AHeap → Prop} {r : List XOper} {x y : XO}
theorem WKO.apF {d1 d2 d3 bytes p : Nat} {z0 c1 u val : AV} {cs : List AV} {pX : XO} (hF : HF H0 [] T ((p, .cells [c1, u] none) :: fs) H) (hR : RowE 1 H u m cs) (ho : ∀ q, u.own = some q → H0.next ≤ q ∧ q ∉ p :: fs.map (·.1)) (hp0 : H0.next ≤ p) (hb : bytes ≤ 2 ^ 16) (hm : H'.m = H.m) (hn : H.next ≤ n) (hlt : n < H'.next) (hl : m < 1000000)
    (hy : evK l y = some val) (hc : val.cells = [val]) (hov : val.oneCell = true) (hx : evK ((d1, .sl n 0 1 1) :: l) x = some u) (hpx : ∀ v', evK ((d2, v') :: (d1, .sl n 0 1 1) :: l) pX = some (.ptr p 0))
    (hst : ∀ v', evK ((d3, .ptr p (0 + 1)) :: (d2, v') :: (d1, .sl n 0 1 1) :: l) (.t d2) = some v')
    (k : ∀ v' H1, HF H0 [] T ((p, .cells [c1, v'] none) :: fs) H1 → RowE 1 H1 v' (m + 1) (cs ++ [val]) → (∀ q, v'.own = some q → H0.next ≤ q ∧ q ∉ p :: fs.map (·.1)) → H'.next ≤ H1.next → WKO cf r (n + 1 + 1 + 1 + 1) ((d3, .ptr p (0 + 1)) :: (d2, v') :: (d1, .sl n 0 1 1) :: l) H1 R) :
    WKO cf (⟨some d1, .bslice [z0] [(0, 1, y)] 1, none⟩ :: ⟨some d2, .app 1 bytes x (.t d1), none⟩ :: ⟨some d3, .faddr 1 pX, none⟩ :: ⟨none, .store 1 (.t d3) (.t d2), none⟩ :: r) n l H' R := by
  have hR' : RowE 1 H' u m cs := hR.frame (by omega) (fun i _ => bump_get hm i)
  have hb0 := hF.base
  have hle := hF.le
  have hown : ∀ q, u.own = some q → q < H.next := fun q hq => hR.own_lt hq
  refine WKO.append1E (m := m) (v := u) (cs := cs) (new := [val]) hR' hx ?_ (by simp [allSm, XOp.opnds, hy]) (by omega) (by omega) hb rfl (by simp [hov]) hlt (fun e => by have := hown n e; omega) (fun v' H1 q1 q2 q3 q4 => ?_)
  · simp only [evParts, hy, bind, Option.bind_some, fillA, hc]
    simp
  · have hF1 : HF H0 [] T ((p, .cells [c1, u] none) :: fs) H1 := (hF.up hm (by omega)).call (H' := H1) (mod' := n :: ownL u) (fun q h1 h2 => by
        simp only [List.mem_cons, not_or] at h2
        exact q3 q h1 h2.1 (fun e => h2.2 (mem_ownL.2 e))) q2 (fun q hq => .inr (by
        rcases List.mem_cons.1 hq with e | e
        · omega
        · exact (ho q (mem_ownL.1 e)).1)) (fun q hq => by
        have hqT := hF.lt q hq
        intro hmem
        rcases List.mem_cons.1 hmem with e | e
        · omega
        · have := (ho _ (mem_ownL.1 e)).2
          apply this
          rcases List.mem_cons.1 hq with e2 | e2
          · rw [e2]; exact .head _
          · exact .tail _ (List.mem_map_of_mem e2))
    have hv1 : v'.oneCell = true := (show RowE 1 H1 v' (m + 1) (cs ++ [val]) from .inl q1).one
    refine WKO.op (k_faddr (hpx v')) (by simp [allSm, XOp.opnds, hpx v']) ?_
    refine WKO.c0 (c := [c1, u]) (show evK _ (.t d3) = some (.ptr p (0 + 1)) from by simp [evK, Go.Eng.look]) (hst v') hv1 (HF.here [p] hF1) rfl (Nat.le_refl _) (.inl (.head _)) (by simp) ?_
    intro H2 hF2 hn2
    have hpT := hF.lt _ (.head _)
    simp only at hpT
    have hown' : ∀ q, v'.own = some q → H0.next ≤ q ∧ q ∉ p :: fs.map (·.1) := fun q hq => by
      rcases q4 q hq with e | e
      · exact ho q e
      · refine ⟨by omega, fun hmem => ?_⟩
        have : q < T := by
          rcases List.mem_cons.1 hmem with e2 | e2
          · omega
          · obtain ⟨q', hq', e3⟩ := List.mem_map.1 e2
            have := hF.lt q' (.tail _ hq')
            omega
        omega
    refine k v' H2 (HF.back hF1 hF2 hp0 (by simp)) ((show RowE 1 H1 v' (m + 1) (cs ++ [val]) from .inl q1).frame (Nat.le_trans hF2.base hF2.le) (fun q hq => hF2.fr q (by
      have := (show RowE 1 H1 v' (m + 1) (cs ++ [val]) from .inl q1).own_lt hq
      exact this) (by
      have := (hown' q hq).2
      simp only [List.mem_cons, not_or] at this
      simp only [List.mem_singleton]
      exact this.1))) hown' (by omega)
end
end Go.Proofs.YtfcgofffalmdfaaGreatDoor.PA
namespace Go.Proofs.YtfcgofffalmdfaaGreatDoor.PA
open Go Go.Eng Go.Proofs
section
variable {cf : CF} {n a c m : Nat} {z : Int} {H : AHeap} {l : KL0} {x y : XO}
end
theorem Z_fz {H : AHeap} {u : AV} {n : Nat} (hR : RowE 1 H u (dz n).length ((dz n).map nA)) : Fz H ⟨.e, 0⟩ (fun _ => False) (.agg [.bool false, u]) (zN n) :=
  .agg rfl (fun j x y hx hy => by
    match j, hx, hy with
    | 0, hx, hy => cases hx; cases hy; exact .bool _
    | 1, hx, hy => cases hx; cases hy; exact rowZ_fz hR (fun i _ => get_e0 i))
end Go.Proofs.YtfcgofffalmdfaaGreatDoor.PA
namespace Go.Proofs.YtfcgofffalmdfaaGreatDoor.PA
open Go Go.Eng Go.Proofs
set_option maxHeartbeats 4000000 in
theorem intZ_walk {n : Nat} (hn : n < 4611686018427387905) : ∃ v H', xfunc (xcallK Kno F 3000 1) 3000 L52 [nA n] ⟨.e, 0⟩ = some (v, H') ∧ ∃ u, v = .agg [.bool false, u] ∧ RowE 1 H' u (dz n).length ((dz n).map nA) := by
  refine xfunc_ofK rfl (by show 1 ≤ 25; omega) ?_
  have hF := HF.start ⟨.e, 0⟩
  generalize (⟨.e, 0⟩ : AHeap) = H at hF ⊢
  have hdl : (dz n).length ≤ 5 := dz_len 5 n (by show n < 10000 ^ 5; omega)
  have hb0 : decide (n < 0) = false := decide_eq_false (Nat.not_lt_zero n)
  unfold L52
  dsimp only
  repeat' (first | refine WK.seq ?_ | refine WK.block ?_ | (apply WK.reg; (· exact lnn)) | (apply WKO.p0; (· rfl); (· rfl); (· first | rfl); (· first | rfl); (· assumption); (· rfl); (· exact nxx); (· first | exact .inr nxx); intro _ _ _) | (apply WKO.alO; (· assumption); (· rfl); (· exact nxx); (· exact nxx); (· exact nxx); intro _ _ _) | refine WKO.nil ?_ | ((first | apply WKO.op); (· first | exact k_mv rfl | exact opA); (· rfl)) | refine pN ?_ | fail)
  rename_i H1 hF1 hn1 H2 hF2 hn2 H3 hF3 hn3
  generalize hp3 : H1.next + 1 + 1 + 1 = p3 at hF2 hF3 ⊢
  have hp3a : H.next < p3 := by simp only [next_bump] at *; omega
  refine WK.loop (α := Nat × List Nat × AV) (fun s => [(0, nA s.1), (2, .ptr H.next 0), (3, .ptr p3 0)])
    (fun s H' => (∃ T, HF H [] T [(p3, .cells [.bool false, s.2.2] none), (H.next, .cells [.bool false, .nils] none)] H') ∧ RowE 1 H' s.2.2 s.2.1.length (s.2.1.map nA) ∧ (∀ q, s.2.2.own = some q → H.next ≤ q ∧ q ∉ p3 :: [H.next]) ∧ s.2.1 ++ dz s.1 = dz n ∧ s.1 ≤ n) (fun s => (dz s.1).length) (n, [], .nils) (.cons rfl <| .cons rfl <| .cons rfl <| .nil _)
    ⟨⟨_, by rw [hb0] at hF3; exact hF3⟩, .inl ⟨rfl, .inl ⟨rfl, rfl⟩⟩, fun q hq => by simp [AV.own] at hq, rfl, Nat.le_refl _⟩ (by show (dz n).length < 3000; omega) ?_
  rintro ⟨m, o, u⟩ H5 ⟨⟨T5, hF5⟩, hR, ho, hd, hm⟩
  simp only at hF5 hR ho hd hm ⊢
  have hb5 := hF5.base
  have hle5 := hF5.le
  have hol : o.length ≤ 5 := by
    have := congrArg List.length hd
    rw [List.length_append] at this
    omega
  clear hF hF1 hF2 hF3
  repeat' (first | refine WK.seq ?_ | refine WK.skip ?_ | refine WK.exit ?_ | refine WK.block ?_ | (apply WK.reg; (· exact lnn)) | refine WKO.nil ?_ | ((first | apply WKO.op); (· first | exact k_mv rfl | exact k_remN rfl rfl (by decide) | exact k_faddr rfl | (apply k_ldO; (· rfl); (· exact hF5); (· rfl); (· exact .head _); (· rfl)) | exact opA); (· rfl)) | refine pN ?_ | refine pX ?_ | refine bX ?_ | (apply WK.condF; (· rfl); (· exact dcd)) | (apply WK.condD; (· rfl); all_goals intro _) | fail)
  · refine WKO.apF (H0 := H) (hF5.up (H' := _) rfl nxx) (hR.frame (H' := _) nxx (fun q _ => rfl)) ho (by omega) (by decide) rfl (by simp only [next_bump]; omega) (by simp only [next_bump]; omega) (by omega) rfl rfl rfl rfl (fun _ => rfl) (fun _ => rfl) ?_
    intro v7 H7 hF7 hR7 ho7 hn7
    repeat' (first | (apply WK.reg; (· exact lnn)) | refine WKO.nil ?_ | ((first | apply WKO.op); (· first | exact k_mv rfl | exact k_quoN rfl rfl (by decide) (by omega)); (· rfl)) | refine pN ?_ | refine bN ?_ | fail)
    have hm0 : m ≠ 0 := by assumption
    refine ⟨(m / 10000, o ++ [m % 10000], v7), (.cons rfl <| .cons rfl <| .cons rfl <| .nil _), ⟨⟨T5, hF7.up rfl (by simp only [next_bump]; omega)⟩, ?_, ho7, ?_, by show m / 10000 ≤ n; omega⟩, ?_⟩
    · have hR8 : RowE 1 H7 v7 (o ++ [m % 10000]).length ((o ++ [m % 10000]).map nA) := by simpa using hR7
      exact hR8.frame (by simp only [next_bump]; omega) (fun _ _ => rfl)
    · show (o ++ [m % 10000]) ++ dz (m / 10000) = dz n
      rw [← hd, dz_pos hm0, List.append_assoc]
      rfl
    · show (dz (m / 10000)).length < (dz m).length
      rw [dz_pos hm0, List.length_cons]
      exact Nat.lt_succ_self _
  · refine ⟨fun _ => ?_, fun q => absurd rfl q⟩
    have hm0 : m = 0 := by omega
    subst hm0
    rw [dz_zero, List.append_nil] at hd
    subst hd
    repeat' (first | refine WK.seq ?_ | (apply WK.reg; (· exact lnn)) | ((first | apply WKO.op); (· first | (apply k_ldA; (· rfl); (· exact hF5); (· rfl); (· exact .head _); (· rfl))); (· rfl)) | fail)
    have hou := hR.one
    have hF6 := HF.here [H.next] (hF5.sub (gs := [(H.next, .cells [.bool false, .nils] none)]) (.cons _ (.refl _)) (Nat.le_refl _) hF5.le)
    refine WKO.p0 rfl rfl rfl hou hF6 rfl nxx (.inl (.head _)) ?_
    intro H9 hF9 hn9
    repeat' (first | refine WK.ret ?_ | refine WKO.nil ?_ | refine pN ?_ | fail)
    exact ⟨fun id q => (by cases q), _, resK_obj rfl (hF9.obj _ (.head _)) rfl, u, rfl, hR.frame (Nat.le_trans hF9.base hF9.le) (fun q hq => hF9.fr q (hR.own_lt hq) (by have := (ho q hq).2; simp only [List.mem_cons, not_or] at this; simp only [List.mem_singleton]; exact this.2.1))⟩
theorem E52 {n : Nat} (hn : n < 4611686018427387905) (H : AHeap) : KE 52 [nA n] H = some (zN n, H) := by
  obtain ⟨v, H', h, u, rfl, hR⟩ := intZ_walk hn
  have hc := (xfunc_sound mixed (xcallK_sound mixed Kno_ok F_ok 3000 1) 3000 (F_ok 52 L52 rfl) h).pure (H := H) rfl (Z_fz hR)
  obtain ⟨v', q1, q2⟩ := KE_hit hc (fun n' e => by
    simp only [List.cons.injEq, and_true] at e
    rw [nA_inj e])
  rw [q1, q2 n rfl]
end Go.Proofs.YtfcgofffalmdfaaGreatDoor.PA
namespace Go.Proofs.YtfcgofffalmdfaaGreatDoor.PA
open Go Go.Eng Go.Proofs
end Go.Proofs.YtfcgofffalmdfaaGreatDoor.PA
namespace Go.Proofs.YtfcgofffalmdfaaGreatDoor.PA
open Go Go.Eng Go.Proofs
theorem dz_big {n : Nat} (h : n < bigN) : (dz n).length < 60 := by
  have := dz_len 55 n (by
    rw [bigN_def] at h
    exact Nat.lt_of_lt_of_le h (by show 4294967296 ^ 20 ≤ 10000 ^ 55; decide))
  omega
def Still (K : CF) : Prop := ∀ f args H v H', K f args H = some (v, H') → H' = H
theorem Still.clean {K : CF} (h : Still K) : CleanCF K := fun f args H v H' q => by rw [h _ _ _ _ _ q]; exact CleanTo.refl H
theorem KE_still : Still KE := by
  intro f args H v H' h
  unfold KE at h
  split at h
  · cases h; rfl
  · cases h
section
variable {H : AHeap} {s : List UInt8} {P : AV} {l : List (Int × Int)} {gap : Int}
end
theorem encPairs_app (a b : List (Int × Int)) : encPairs (a ++ b) = encPairs a ++ encPairs b := by simp [encPairs]
theorem encPairs_len (l : List (Int × Int)) : (encPairs l).length = l.length * 2 := by
  induction l with
  | nil => rfl
  | cons p l ih => simp [encPairs] at ih ⊢; omega
theorem encPairs_ones (l : List (Int × Int)) : (encPairs l).all AV.oneCell = true := by
  induction l with
  | nil => rfl
  | cons p l ih => simp [encPairs, AV.oneCell] at ih ⊢
end Go.Proofs.YtfcgofffalmdfaaGreatDoor.PA
namespace Go.Eng
variable {P : Program}
inductive FzP (H : AHeap) : AV → AV → Prop
  | plain {v : AV} (h : AV.plain v = true) : FzP H v v
  | agg {l m : List AV} (hl : m.length = l.length) (h : ∀ (j : Nat) (x y : AV), l[j]? = some x → m[j]? = some y → FzP H x y) : FzP H (.agg l) (.agg m)
  | tup {l m : List AV} (hl : m.length = l.length) (h : ∀ (j : Nat) (x y : AV), l[j]? = some x → m[j]? = some y → FzP H x y) : FzP H (.tup l) (.tup m)
  | fsl {i o l c k : Nat} {cs ds : List AV} {opn : Option Nat} (hg : H.get i = some (.cells cs opn)) (hd : (cs.drop o).take k = ds) (hp : AV.plainL ds = true) (h0 : l = 0 → ds = []) : FzP H (.sl i o l c) (.imm ds l false)
  | fnil : FzP H .nils (.imm [] 0 false)
theorem FzP.sound {E E'' : Env} {w : World} {H : AHeap} (hR : Rel E H w) (hF : ∀ i o L, H.get i = some o → E.ρ i = some L → E''.I L.b) : ∀ {v v' : AV}, FzP H v v' → ∀ u, AVRel E w v u → AVRel E'' w v' u := by
  intro v v' h
  induction h with
  | plain hp => intro u h; exact plain_rel hp h
  | agg hl _ ih =>
    intro u h
    simp only [AVRel] at h ⊢
    obtain ⟨us, h1, h2⟩ := h
    exact ⟨us, h1, h2.fz hl ih⟩
  | tup hl _ ih =>
    intro u h
    simp only [AVRel] at h ⊢
    obtain ⟨us, h1, h2⟩ := h
    exact ⟨us, h1, h2.fz hl ih⟩
  | @fsl i o l c k cs ds opn hg hd hp h0 =>
    intro u h
    subst hd
    obtain ⟨L, ad, c', C, t, fz, us, hρ', rfl, hsl, hlc, hb, hr, hcell, _⟩ := row_sound hR h hg
    simp only [AVRel]
    by_cases q : l = 0
    · exact .inl ⟨q, h0 q, some ad, c', by rw [q], fun q => by cases q⟩
    · obtain rfl := hsl.addr hlc q
      refine .inr ⟨L.b, L.s + o, c', (us.drop o).take k, rfl, hF i _ L hg hρ', fun j x hj => ?_, plain_relL hp ((hr.drop o).take k), hlc, fun q => by cases q⟩
      rw [List.getElem?_take] at hj
      split at hj
      · rw [List.getElem?_drop] at hj
        have := hcell _ x hj
        simp only [World.cell?, hb]
        rw [show L.s + o + j = L.s + (o + j) by omega]
        exact this
      · cases hj
  | fnil =>
    intro u h
    simp only [AVRel] at h ⊢
    exact .inl ⟨trivial, trivial, none, 0, h, fun q => by cases q⟩
end Go.Eng
namespace Go.Proofs.YtfcgofffalmdfaaGreatDoor.PA
structure DivI (a : List Nat) (B i : Nat) (N : List Nat) (r : Nat) : Prop where
  v : valZ (a.drop i) = valZ (N.drop i) * B + r
  r : r < B
  l : N.length = a.length
  d : digZ N
  i : i ≤ a.length
theorem DivI.zero (a : List Nat) {B : Nat} (hB : 0 < B) : DivI a B a.length (List.replicate a.length 0) 0 := by
  refine ⟨?_, hB, by simp, fun x hx => ?_, Nat.le_refl _⟩
  · rw [List.drop_length, List.drop_eq_nil_of_le (by simp)]
    simp [valZ]
  · rw [List.eq_of_mem_replicate hx]
    decide
theorem DivI.step {a : List Nat} {B i low : Nat} {N : List Nat} {r : Nat} (h : DivI a B (i + 1) N r) (hl : low < BZ) (h1 : B * low ≤ a.getD i 0 + BZ * r) (h2 : a.getD i 0 + BZ * r < B * (low + 1)) : DivI a B i (N.set i low) (a.getD i 0 + BZ * r - B * low) := by
  have hi := h.i
  have hlN := h.l
  have hv := h.v
  refine ⟨?_, ?_, by rw [List.length_set, h.l], digZ_set h.d i hl, by omega⟩
  · rw [valZ_drop a i, valZ_drop (N.set i low) i, getZ_set N i low i (by omega), if_pos rfl]
    have e : (N.set i low).drop (i + 1) = N.drop (i + 1) := by
      rw [List.drop_set_of_lt (by omega)]
    rw [e, hv, Nat.mul_add, Nat.add_mul]
    have e2 : BZ * (valZ (N.drop (i + 1)) * B) = BZ * valZ (N.drop (i + 1)) * B := by rw [Nat.mul_assoc]
    rw [e2, Nat.mul_comm low B]
    omega
  · rw [Nat.mul_add, Nat.mul_one] at h2
    omega
theorem DivI.done {a : List Nat} {B : Nat} {N : List Nat} {r : Nat} (h : DivI a B 0 N r) : valZ N = valZ a / B ∧ r = valZ a % B := by
  have hv := h.v
  rw [List.drop_zero, List.drop_zero] at hv
  have := h.r
  rw [hv]
  constructor
  · rw [Nat.mul_comm, Nat.mul_add_div (by omega), Nat.div_eq_of_lt this, Nat.add_zero]
  · rw [Nat.mul_comm, Nat.mul_add_mod, Nat.mod_eq_of_lt this]
end Go.Proofs.YtfcgofffalmdfaaGreatDoor.PA
namespace Go.Proofs.YtfcgofffalmdfaaGreatDoor.PA
open Go Go.Eng Go.Proofs
theorem RdR.src {z len : Nat} {H : AHeap} {X : AV} {cs : List AV} (h : RdR z H X len cs) : srcA H z len X = some cs := by
  obtain ⟨h0, ⟨f, rfl⟩ | ⟨rfl, rfl⟩ | ⟨i, c, full, opn, rfl, h1, h2, h3, h4⟩⟩ := h
  · simp only [srcA]
    rw [if_pos (by omega), List.take_of_length_le (by omega)]
  · have : cs = [] := List.eq_nil_of_length_eq_zero (by omega)
    subst this
    rfl
  · simp only [srcA, h2, Nat.zero_add, List.drop_zero]
    rw [if_pos h4, h3]
theorem RdR.inj {z len len' : Nat} {H : AHeap} {X : AV} {cs cs' : List AV} (h : RdR z H X len cs) (h' : RdR z H X len' cs') : cs = cs' := by
  have e := h.len
  rw [h'.len] at e
  cases e
  have := h.src
  rw [h'.src] at this
  exact (Option.some.inj this).symm
theorem RdR.lenA {z len : Nat} {H : AHeap} {X : AV} {cs : List AV} (h : RdR z H X len cs) : Go.Eng.lenA X = some len := by
  obtain ⟨h0, ⟨f, rfl⟩ | ⟨rfl, rfl⟩ | ⟨i, c, full, opn, rfl, h1, h2, h3, h4⟩⟩ := h <;> rfl
theorem RdR.nstr {z len : Nat} {H : AHeap} {X : AV} {cs : List AV} (h : RdR z H X len cs) : ∀ s, X ≠ .str s := by
  obtain ⟨h0, ⟨f, rfl⟩ | ⟨rfl, rfl⟩ | ⟨i, c, full, opn, rfl, h1, h2, h3, h4⟩⟩ := h <;> intro s e <;> cases e
theorem _root_.Go.Eng.HF.swap {H0 H : AHeap} {mod : List Nat} {T : Nat} {a b : Nat × AObj} {fs : List (Nat × AObj)} (h : HF H0 mod T (a :: b :: fs) H) : HF H0 mod T (b :: a :: fs) H :=
  ⟨fun p hp => h.obj p (by simp only [List.mem_cons] at hp ⊢; rcases hp with q | q | q; exact .inr (.inl q); exact .inl q; exact .inr (.inr q)), fun p hp => h.lt p (by simp only [List.mem_cons] at hp ⊢; rcases hp with q | q | q; exact .inr (.inl q); exact .inl q; exact .inr (.inr q)), by
    have := h.nd
    simp only [List.map_cons, List.nodup_cons, List.mem_cons, not_or] at this ⊢
    exact ⟨⟨fun e => this.1.1 e.symm, this.2.1⟩, this.1.2, this.2.2⟩, h.base, h.le, h.fr⟩
section
variable {cf : CF} {n : Nat} {H0 H H' : AHeap} {mod : List Nat} {T : Nat} {fs : List (Nat × AObj)} {l : KL0} {R : KL0 → AHeap → Prop} {r : List XOper} {x y : XO}
end
section
variable {cf : CF} {n : Nat} {z : Int} {H : AHeap} {l : KL0} {x : XO}
end
end Go.Proofs.YtfcgofffalmdfaaGreatDoor.PA
namespace Go.Proofs.YtfcgofffalmdfaaGreatDoor.PA
open Go Go.Eng Go.Proofs
theorem RdR.one {z len : Nat} {H : AHeap} {X : AV} {cs : List AV} (h : RdR z H X len cs) : X.oneCell = true := by
  obtain ⟨h0, ⟨f, rfl⟩ | ⟨rfl, rfl⟩ | ⟨i, c, full, opn, rfl, h1, h2, h3, h4⟩⟩ := h <;> rfl
theorem _root_.Go.Eng.WKT.stG {cf : CF} {n : Nat} {H0 H H' : AHeap} {mod : List Nat} {T : Nat} {fs gs : List (Nat × AObj)} {l : KL0} {Q : List (KL0 × AHeap) → Prop} {r : List XOper} {i p m : Nat} {c : List AV} {opn : Option Nat} {v : AV} {a x : XO} (ha : evK l a = some (.ptr i p)) (hx : evK l x = some v) (hF : HF H0 mod T (gs ++ (i, .cells c opn) :: fs) H) (hm : H'.m = H.m) (hn : H.next ≤ H'.next) (hi : i ∈ mod ∨ H0.next ≤ i) (hl : v.cells.length = m) (h1 : v.cells.all AV.oneCell = true) (hf : p + m ≤ c.length)
    (k : ∀ H1, HF H0 mod T (gs ++ (i, .cells (overA c p v.cells) opn) :: fs) H1 → H1.next = H'.next → (∀ q, q ≠ i → H1.get q = H'.get q) → WKT cf r (n + 1) l H1 fun ps => Q ((l, H') :: ps)) : WKT cf (⟨none, .store m a x, none⟩ :: r) n l H' Q := by
  have hF' := hF.up hm hn
  have hst := op_store (cf := cf) (m := n) (n := m) (i := i) (o := p) (v := v) (H := H') (ev := evK l) ha hx (hF'.obj (i, _) (List.mem_append.2 (.inr (List.mem_cons_self ..)))) hl h1 hf
  exact WKT.opn (k_any hst) (by simp [allSm, XOp.opnds, ha, hx]) (k _ (hF'.put hi rfl (by rw [AHeap.get_set, if_pos rfl]) (fun k hk => by rw [AHeap.get_set, if_neg hk])) rfl (fun q hq => by rw [AHeap.get_set, if_neg hq]))
end Go.Proofs.YtfcgofffalmdfaaGreatDoor.PA
namespace Go.Proofs.YtfcgofffalmdfaaGreatDoor.PA
end Go.Proofs.YtfcgofffalmdfaaGreatDoor.PA
namespace Go.Proofs.YtfcgofffalmdfaaGreatDoor.PA
open Go Go.Eng Go.Proofs
end Go.Proofs.YtfcgofffalmdfaaGreatDoor.PA
namespace Go.Proofs.YtfcgofffalmdfaaGreatDoor.PA
end Go.Proofs.YtfcgofffalmdfaaGreatDoor.PA
namespace Go.Proofs.YtfcgofffalmdfaaGreatDoor.PA
open Go Go.Eng Go.Proofs
section
variable {cf : CF} {n a : Nat} {H : AHeap} {l : KL0} {x : XO}
end
end Go.Proofs.YtfcgofffalmdfaaGreatDoor.PA
namespace Go.Proofs.YtfcgofffalmdfaaGreatDoor.PA
open Go Go.Eng Go.Proofs
end Go.Proofs.YtfcgofffalmdfaaGreatDoor.PA
namespace Go.Proofs.YtfcgofffalmdfaaGreatDoor.PA
open Go Go.Eng Go.Proofs
def zc (n : Nat) : List AV := [.bool false, rowZ (dz n)]
def zC (l : List Nat) : List AV := (l.map zc).flatten
theorem zC_len (l : List Nat) : (zC l).length = l.length * 2 := by
  induction l with
  | nil => rfl
  | cons n l ih =>
    simp only [zC, List.map_cons, List.flatten_cons, List.length_append] at ih ⊢
    rw [ih]
    simp [zc]
    omega
theorem zC_app (a b : List Nat) : zC (a ++ b) = zC a ++ zC b := by simp [zC]
theorem zC_one (n : Nat) : zC [n] = zc n := by simp [zC]
theorem zC_at : ∀ (l : List Nat) (j : Nat), j < l.length → (zC l)[j * 2]? = some (.bool false) ∧ (zC l)[j * 2 + 1]? = some (rowZ (dz (l.getD j 0)))
  | [], j, h => by simp at h
  | x :: l, 0, h => ⟨rfl, rfl⟩
  | x :: l, j + 1, h => by
    obtain ⟨h1, h2⟩ := zC_at l j (by simpa using h)
    have e : zC (x :: l) = zc x ++ zC l := by simp [zC]
    rw [e]
    refine ⟨?_, ?_⟩
    · rw [List.getElem?_append_right (by simp [zc]; omega), ← h1]
      congr 1
      simp [zc]
      omega
    · rw [List.getElem?_append_right (by simp [zc]; omega), List.getD_cons_succ, ← h2]
      congr 1
      simp [zc]
      omega
theorem zC_set : ∀ (l : List Nat) (j n : Nat), j < l.length → overA (zC l) (j * 2) (zc n) = zC (l.set j n)
  | [], j, n, h => by simp at h
  | x :: l, 0, n, h => by
    have e : ∀ y, zC (y :: l) = zc y ++ zC l := fun y => by simp [zC]
    rw [List.set_cons_zero, e, e]
    simp [overA, zc]
  | x :: l, j + 1, n, h => by
    have ih := zC_set l j n (by simpa using h)
    have e : ∀ y l, zC (y :: l) = zc y ++ zC l := fun y l => by simp [zC]
    rw [List.set_cons_succ, e, e, ← ih]
    unfold overA
    have h2 : (zc x).length = 2 := rfl
    have h3 : (zc n).length = 2 := rfl
    rw [show (j + 1) * 2 = 2 + j * 2 by omega]
    rw [show 2 + j * 2 = (zc x).length + j * 2 by rw [h2], List.take_length_add_append, List.append_assoc, List.append_assoc, Nat.add_assoc, List.drop_length_add_append, List.append_assoc]
section
variable {cf : CF} {n : Nat} {H H' : AHeap} {l : KL0} {x y a : XO} {X v : AV} {b : List Nat} {j : Nat} {r : List XOper} {R : KL0 → AHeap → Prop}
theorem zC_take {b : List Nat} {j : Nat} (h : j < b.length) : ((zC b).drop (j * 2)).take 2 = [.bool false, rowZ (dz (b.getD j 0))] := by
  obtain ⟨h1, h2⟩ := zC_at b j h
  have hl := zC_len b
  apply List.ext_getElem?
  intro i
  rw [List.getElem?_take, List.getElem?_drop]
  match i with
  | 0 => rw [if_pos (by omega), Nat.add_zero, h1]; rfl
  | 1 => rw [if_pos (by omega), h2]; rfl
  | i + 2 => rw [if_neg (by omega)]; rfl
theorem k_ldZI (hx : evK l x = some (adE X (j * 2))) (hE : RdR 2 H X b.length (zC b)) (hm : H'.m = H.m) (hj : j < b.length) : XV cf l H' n (.load (some 2) x) = some (zN (b.getD j 0), H') := by
  obtain ⟨c, h1, h2⟩ := hE.at (H' := H') (p := j * 2) (fun i _ => by unfold AHeap.get; rw [hm]) (by omega)
  refine k_load hx ?_
  have hl : 2 ≤ b.length * 2 - j * 2 := by omega
  have h3 : c.take 2 = [.bool false, rowZ (dz (b.getD j 0))] := by
    rw [← zC_take hj, ← h2, List.take_take, Nat.min_eq_left hl]
  simp only [loadA, h1]
  have hlen : 2 ≤ c.length := by
    have : (c.take 2).length = 2 := by rw [h3]; rfl
    rw [List.length_take] at this
    omega
  rw [if_pos hlen, h3]
theorem WKO.stZI {w : Nat} (hR : Row 2 H v b.length (zC b)) (hm : H'.m = H.m) (hn : H.next ≤ H'.next) (hj : j < b.length) (ha : evK l a = some (adE v (j * 2))) (hx : evK l x = some (zN w))
    (k : ∀ H1, Row 2 H1 v b.length (zC (b.set j w)) → H1.next = H'.next → (∀ q, v.own ≠ some q → H1.get q = H'.get q) → WKO cf r (n + 1) l H1 R) : WKO cf (⟨none, .store 2 a x, none⟩ :: r) n l H' R := by
  obtain ⟨h0, ⟨rfl, h⟩ | ⟨i, full, rfl, hg, hf, hfl, hi⟩⟩ := hR
  · omega
  · have hg' : H'.get i = some (.cells full (some 2)) := by unfold AHeap.get; rw [hm]; exact hg
    have ha' : evK l a = some (.ptr i (j * 2)) := by
      rw [ha]
      show some (AV.ptr i (0 + j * 2)) = _
      rw [Nat.zero_add]
    have hst := op_store (cf := cf) (m := n) (n := 2) (i := i) (o := j * 2) (v := zN w) (H := H') (ev := evK l) ha' hx hg' rfl (by simp only [AV.cells, List.all_cons, List.all_nil, rowZ_one, Bool.and_true]; rfl) (by omega)
    refine WKO.opn (k_any hst) (by simp [allSm, XOp.opnds, ha, hx]) (k _ ⟨by rw [zC_len, List.length_set], .inr ⟨i, _, rfl, by rw [AHeap.get_set, if_pos rfl], ?_, ?_, by rw [next_set]; omega⟩⟩ rfl (fun q hq => by rw [AHeap.get_set, if_neg (fun e => hq (by rw [e]; rfl))]))
    · rw [← zC_set _ _ _ hj, ← hf]
      have e : (zN w).cells = zc w := rfl
      rw [e]
      have h2 : (zc w).length = 2 := rfl
      unfold overA
      rw [h2, List.append_assoc, List.take_append, List.take_append, List.length_take, h2]
      rw [Nat.min_eq_left (show j * 2 ≤ full.length by omega)]
      rw [List.take_take, List.take_take, Nat.min_comm, List.take_of_length_le (show (zc w).length ≤ b.length * 2 - j * 2 by rw [h2]; omega), List.drop_take, Nat.sub_sub, List.append_assoc]
    · unfold overA
      have h2 : (zN w).cells.length = 2 := rfl
      rw [List.length_append, List.length_append, List.length_take, List.length_drop, h2]
      omega
theorem WKO.apZI {d1 d2 w : Nat} (hR : RowE 2 H v b.length (zC b)) (hm : H'.m = H.m) (hn : H.next ≤ n) (hlt : n < H'.next) (hl : b.length < 1000000) (hy : evK l y = some (zN w)) (hx : evK ((d1, .sl n 0 1 1) :: l) x = some v)
    (k : ∀ v' H1, RowE 2 H1 v' (b ++ [w]).length (zC (b ++ [w])) → H'.next ≤ H1.next → (∀ q, q < H.next → v.own ≠ some q → H1.get q = H.get q) → (∀ i, v'.own = some i → v.own = some i ∨ H.next ≤ i) → WKO cf r (n + 1 + 1) ((d2, v') :: (d1, .sl n 0 1 1) :: l) H1 R) :
    WKO cf (⟨some d1, .bslice [.bool false, .nils] [(0, 2, y)] 1, none⟩ :: ⟨some d2, .app 2 32 x (.t d1), none⟩ :: r) n l H' R := by
  have hR' : RowE 2 H' v b.length (zC b) := hR.frame (by omega) (fun i _ => by unfold AHeap.get; rw [hm])
  refine WKO.append1E (m := b.length) (v := v) (cs := zC b) (new := zc w) hR' hx ?_ (by simp [allSm, XOp.opnds, hy]) (by omega) (by omega) (by decide) rfl (by simp only [zc, List.all_cons, List.all_nil, rowZ_one, Bool.and_true]; rfl) hlt (fun e => ?_) (fun v' H1 q1 q2 q3 q4 => k v' H1 ?_ q2 (fun q h1 h2 => ?_) (fun i hi => ?_))
  · simp only [evParts, hy, bind, Option.bind_some]
    rfl
  · have := hR.own_lt e
    omega
  · rw [zC_app, zC_one, List.length_append, List.length_singleton]
    exact .inl q1
  · rw [q3 q (by omega) (by omega) h2]
    unfold AHeap.get
    rw [hm]
  · rcases q4 i hi with q | q
    · exact .inl q
    · exact .inr (by omega)
end
theorem WKO.apL {cf : CF} {n d i len bytes z : Nat} {H' : AHeap} {l : KL0} {x y : XO} {u : AV} {cs new : List AV} {R : KL0 → AHeap → Prop} {r : List XOper} (hx : evK l x = some u) (hy : evK l y = some (.sl i 0 1 1)) (hR : RowE z H' u len cs) (hg : H'.get i = some (.cells new none)) (hz : 0 < z) (hnl : new.length = z) (ho : new.all AV.oneCell = true) (hl : len < 1000000) (hb : bytes ≤ 2 ^ 16)
    (k : ∀ v' H1, RowE z H1 v' (len + 1) (cs ++ new) → H'.next ≤ H1.next → (∀ q, q < H'.next → u.own ≠ some q → H1.get q = H'.get q) → (∀ q, v'.own = some q → u.own = some q ∨ H'.next ≤ q) → WKO cf r (n + 1) ((d, v') :: l) H1 R) : WKO cf (⟨some d, .app z bytes x y, none⟩ :: r) n l H' R := by
  obtain ⟨v', H1, e1, R1, hn1, hg1, ho1⟩ := hR.app0 (bytes := bytes) (n := 1) (y := .sl i 0 1 1) (new := new) hz (by omega) hb rfl (by simp only [srcA, hg, Nat.zero_add, Nat.one_mul, List.drop_zero]; rw [if_pos (by omega), List.take_of_length_le (by omega)]) (by omega) ho
  exact WKO.op (v := v') (H1 := H1) (k_any (by simp only [xval, xop, hx, hy, e1])) (by simp [allSm, XOp.opnds, hx, hy]) (k v' H1 R1 hn1 hg1 ho1)
theorem _root_.Go.Eng.HF.re {H0 H : AHeap} {mod : List Nat} {T : Nat} {fs : List (Nat × AObj)} {z len : Nat} {X : AV} {cs : List AV} (hF : HF H0 mod T fs H) (h : RowE z H0 X len cs) (hm : ∀ i, X.own = some i → i ∉ mod) : RowE z H X len cs := h.frame (Nat.le_trans hF.base hF.le) (fun i hi => hF.fr i (h.own_lt hi) (hm i hi))
theorem _root_.Go.Eng.HF.rd {H0 H : AHeap} {T : Nat} {fs : List (Nat × AObj)} {z len : Nat} {X : AV} {cs : List AV} (hF : HF H0 [] T fs H) (h : RdR z H0 X len cs) : RdR z H X len cs := h.frame (Nat.le_trans hF.base hF.le) (fun i hi => hF.fr i (h.own_lt hi) (by simp))
end Go.Proofs.YtfcgofffalmdfaaGreatDoor.PA
namespace Go.Proofs.YtfcgofffalmdfaaGreatDoor.PA
open Go Go.Eng Go.Proofs
def sumP (a b : List Nat) (i : Nat) : List Nat := (List.range i).map fun j => a.getD j 0 + b.getD j 0
theorem sumP_succ (a b : List Nat) (i : Nat) : sumP a b (i + 1) = sumP a b i ++ [a.getD i 0 + b.getD i 0] := by
  unfold sumP
  rw [List.range_succ, List.map_append]
  rfl
theorem sumP_len (a b : List Nat) (i : Nat) : (sumP a b i).length = i := by simp [sumP]
def KpN (H H' : AHeap) (v : AV) : Prop := H.next ≤ H'.next ∧ (∀ q, q < H.next → H'.get q = H.get q) ∧ ∀ q, v.own = some q → H.next ≤ q
set_option maxHeartbeats 4000000 in
theorem plusS_ok {cf : CF} {fuel : Nat} {H : AHeap} {X Y : AV} {a b : List Nat} (hX : RdR 2 H X a.length (zC a)) (hY : RdR 2 H Y b.length (zC b)) (hla : a.length < 400) (hlb : b.length < 400) (hf : 1000 < fuel)
    (h52 : ∀ H, cf 52 [nA 0] H = some (zN 0, H)) (h66 : ∀ m n, (m = 0 ∨ m ∈ a) → n ∈ a ∨ n ∈ b → ∀ H, cf 66 [zN m, zN n] H = some (zN (m + n), H)) :
    ∃ v H', xfunc cf fuel L54 [X, Y] H = some (v, H') ∧ RowE 2 H' v (sumP a b (max a.length b.length)).length (zC (sumP a b (max a.length b.length))) ∧ KpN H H' v := by
  refine xfunc_ofK rfl (by show 2 ≤ 44; omega) ?_
  have hF := HF.start H
  have hga : ∀ i, i < a.length → a.getD i 0 ∈ a := fun i h => by rw [List.getD_eq_getElem?_getD, List.getElem?_eq_getElem h]; exact List.getElem_mem h
  have hgb : ∀ i, i < b.length → b.getD i 0 ∈ b := fun i h => by rw [List.getD_eq_getElem?_getD, List.getElem?_eq_getElem h]; exact List.getElem_mem h
  unfold L54
  dsimp only
  repeat' (first | refine WK.seq ?_ | refine WK.block ?_ | (apply WK.reg; (· exact lnn)) | (apply WKO.bsO; (· rfl); (· rfl); (· assumption); (· rfl); (· exact nxx); (· exact nxx); (· exact nxx); intro _ _ _) | refine WKO.nil ?_ | ((first | apply WKO.op); (· first | exact k_mv rfl); (· rfl)) | refine pN ?_ | fail)
  rename_i H1 hF1 hn1
  refine WK.loop (α := Nat × AV) (fun s => [(0, X), (1, Y), (5, s.2), (6, nA s.1)]) (fun s H' => KpN H H' s.2 ∧ RowE 2 H' s.2 s.1 (zC (sumP a b s.1)) ∧ s.1 ≤ max a.length b.length) (fun s => max a.length b.length - s.1) (0, .sl (H.bump 1).next 0 0 0) (.cons rfl <| .cons rfl <| .cons rfl <| .cons rfl <| .nil _)
    ⟨⟨by have := hF1.base; have := hF1.le; simp only [next_bump]; omega, fun q hq => (bump_get rfl q).trans (hF1.fr q hq (by simp)), fun q hq => by simp only [AV.own, Option.some.injEq, next_bump] at hq; omega⟩, .inr ⟨rfl, rfl, _, rfl, by have := hF1.lt _ (.head _); have := hF1.le; simp only [next_bump] at *; omega, (bump_get rfl _).trans (hF1.obj _ (.head _))⟩, Nat.zero_le _⟩ (by show max a.length b.length - 0 < fuel; omega) ?_
  rintro ⟨i, u⟩ H3 ⟨⟨k1, k2, k3⟩, hR, hi⟩
  simp only at k1 k2 k3 hR hi ⊢
  have hX3 := hX.frame k1 (fun q hq => k2 q (hX.own_lt hq))
  have hY3 := hY.frame k1 (fun q hq => k2 q (hY.own_lt hq))
  clear hF hF1
  have hF3 := HF.start H3
  have fin : ∀ (Hz : AHeap) (T : Nat) (fs : List (Nat × AObj)) (v' : AV) (H1 : AHeap) (w : Nat), HF H3 [] T fs Hz → w = a.getD i 0 + b.getD i 0 → RowE 2 H1 v' (i + 1) (zC (sumP a b i) ++ zc w) → Hz.next ≤ H1.next → (∀ q, q < Hz.next → u.own ≠ some q → H1.get q = Hz.get q) → (∀ q, v'.own = some q → u.own = some q ∨ Hz.next ≤ q) → KpN H (H1.bump 3) v' ∧ RowE 2 (H1.bump 3) v' (i + 1) (zC (sumP a b (i + 1))) := fun Hz T fs v' H1 w hFz hw hR1 hn1 hk1 ho1 => by
    have hb := hFz.base
    have hl := hFz.le
    refine ⟨⟨by simp only [next_bump]; omega, fun q hq => (bump_get rfl q).trans ((hk1 q (by omega) (fun e => by have := k3 q e; omega)).trans ((hFz.fr q (by omega) (by simp)).trans (k2 q hq))), fun q hq => ?_⟩, ?_⟩
    · rcases ho1 q hq with e | e
      · exact k3 q e
      · omega
    · rw [sumP_succ, zC_app, zC_one, ← hw]
      exact hR1.frame (by simp only [next_bump]; omega) (fun _ _ => rfl)
  repeat' (first | refine WK.seq ?_ | refine WK.skip ?_ | refine WK.exit ?_ | refine WK.block ?_ | (apply WK.reg; (· exact lnn)) | (apply WK.regd0; (· exact lnn)) | (apply WKO.stO0; (· rfl); (· rfl); (· assumption); (· rfl); (· exact nxx); (· first | exact .inr nxx); (· rfl); (· rfl); (· exact Nat.le_of_ble_eq_true rfl); intro _ _ _) | (apply WKO.alO; (· assumption); (· rfl); (· exact nxx); (· exact nxx); (· exact nxx); intro _ _ _) | (apply WKO.bsO; (· rfl); (· rfl); (· assumption); (· rfl); (· exact nxx); (· exact nxx); (· exact nxx); intro _ _ _) | refine WKO.nil ?_ | ((first | apply WKO.op); (· first | exact k_mv rfl | exact k_lenE rfl hX | exact k_lenE rfl hY | exact k_mxN rfl rfl | (apply k_call; (· rfl); (· rfl); (· exact h52 _)) | exact k_iaE rfl rfl hX (by omega) | exact k_iaE rfl rfl hY (by omega) | (apply k_ldZI; (· rfl); (· exact HF.rd (by assumption) hX3); (· rfl); (· omega)) | (apply k_ldZI; (· rfl); (· exact HF.rd (by assumption) hY3); (· rfl); (· omega)) | (apply k_call; (· rfl); (· rfl); (· first | exact h66 0 (a.getD i 0) (.inl rfl) (.inl (hga _ (by omega))) _ | exact h66 (0 + a.getD i 0) (b.getD i 0) (.inr (by rw [Nat.zero_add]; exact hga _ (by omega))) (.inr (hgb _ (by omega))) _ | exact h66 0 (b.getD i 0) (.inl rfl) (.inr (hgb _ (by omega))) _)) | (apply k_ldA; (· rfl); (· assumption); (· rfl); (· exact mmb); (· first | rfl)) | exact opA); (· rfl)) | refine pN ?_ | refine pX ?_ | refine bX ?_ | (apply WK.condT; (· rfl); (· exact dcd)) | (apply WK.condD; (· rfl); all_goals intro _) | fail)
  · rename_i Hz hFz hnz
    refine WKO.apL (new := zc (0 + a.getD i 0 + b.getD i 0)) rfl rfl (hFz.re hR (by simp)) (hFz.obj (_, _) (.head _)) (by decide) rfl rfl (by omega) (by decide) ?_
    intro v' H1 r1 n1 g1 o1
    repeat' (first | (apply WK.reg; (· exact lnn)) | refine WKO.nil ?_ | ((first | apply WKO.op); (· first | exact k_mv rfl | exact opA); (· rfl)) | refine pN ?_ | refine bN ?_ | fail)
    have q := fin Hz _ _ v' H1 _ hFz (by rw [Nat.zero_add]) r1 n1 g1 o1
    exact ⟨(i + 1, v'), (.cons rfl <| .cons rfl <| .cons rfl <| .cons rfl <| .nil _), ⟨q.1, q.2, by show i + 1 ≤ max a.length b.length; omega⟩, by show max a.length b.length - (i + 1) < max a.length b.length - i; omega⟩
  · rename_i Hz hFz hnz
    refine WKO.apL (new := zc (0 + a.getD i 0)) rfl rfl (hFz.re hR (by simp)) (hFz.obj (_, _) (.head _)) (by decide) rfl rfl (by omega) (by decide) ?_
    intro v' H1 r1 n1 g1 o1
    repeat' (first | (apply WK.reg; (· exact lnn)) | refine WKO.nil ?_ | ((first | apply WKO.op); (· first | exact k_mv rfl | exact opA); (· rfl)) | refine pN ?_ | refine bN ?_ | fail)
    have q := fin Hz _ _ v' H1 _ hFz (by rw [Nat.zero_add, getZ_none (l := b) (i := i) (by assumption), Nat.add_zero]) r1 n1 g1 o1
    exact ⟨(i + 1, v'), (.cons rfl <| .cons rfl <| .cons rfl <| .cons rfl <| .nil _), ⟨q.1, q.2, by show i + 1 ≤ max a.length b.length; omega⟩, by show max a.length b.length - (i + 1) < max a.length b.length - i; omega⟩
  · rename_i Hz hFz hnz
    refine WKO.apL (new := zc (0 + b.getD i 0)) rfl rfl (hFz.re hR (by simp)) (hFz.obj (_, _) (.head _)) (by decide) rfl rfl (by omega) (by decide) ?_
    intro v' H1 r1 n1 g1 o1
    repeat' (first | (apply WK.reg; (· exact lnn)) | refine WKO.nil ?_ | ((first | apply WKO.op); (· first | exact k_mv rfl | exact opA); (· rfl)) | refine pN ?_ | refine bN ?_ | fail)
    have q := fin Hz _ _ v' H1 _ hFz (by rw [getZ_none (l := a) (i := i) (by assumption)]) r1 n1 g1 o1
    exact ⟨(i + 1, v'), (.cons rfl <| .cons rfl <| .cons rfl <| .cons rfl <| .nil _), ⟨q.1, q.2, by show i + 1 ≤ max a.length b.length; omega⟩, by show max a.length b.length - (i + 1) < max a.length b.length - i; omega⟩
  · refine ⟨fun _ => ?_, fun q => absurd rfl q⟩
    have him : i = max a.length b.length := by omega
    repeat' (first | refine WK.seq ?_ | refine WK.ret ?_ | (apply WK.reg; (· exact lnn)) | refine WKO.nil ?_ | ((first | apply WKO.op); (· first | exact k_mv rfl); (· rfl)) | refine pN ?_ | fail)
    exact ⟨fun id q => (by cases q), _, rfl, by rw [sumP_len, ← him]; exact hR.frame (by simp only [next_bump]; omega) (fun _ _ => rfl), by simp only [next_bump]; omega, fun q hq => (bump_get rfl q).trans (k2 q hq), k3⟩
theorem conv_get (a b : List Nat) (i j : Nat) : (timesP a b (i + 1)).getD j 0 = (timesP a b i).getD j 0 + if i ≤ j then a.getD i 0 * b.getD (j - i) 0 else 0 := by
  rw [timesP_succ, plusF_get]
  congr 1
  split
  · generalize a.getD i 0 = c
    rw [List.getD_eq_getElem?_getD, List.getElem?_map, List.getD_eq_getElem?_getD]
    cases b[j - i]? with
    | none => simp
    | some x => rfl
  · rfl
structure TmI (a b : List Nat) (i k : Nat) (N : List Nat) : Prop where
  l : N.length = a.length + b.length
  z : N.getD 0 0 = 0
  v : ∀ j, N.getD (j + 1) 0 = (timesP a b i).getD j 0 + if i ≤ j ∧ j - i < k then a.getD i 0 * b.getD (j - i) 0 else 0
theorem TmI.zero (a b : List Nat) : TmI a b 0 0 (List.replicate (a.length + b.length) 0) := by
  have hr : ∀ p, (List.replicate (a.length + b.length) 0).getD p 0 = 0 := fun p => by
    rw [List.getD_eq_getElem?_getD, List.getElem?_replicate]
    split <;> rfl
  exact ⟨by simp, hr 0, fun j => by rw [hr, if_neg (by omega)]; rfl⟩
theorem TmI.row {a b : List Nat} {i : Nat} {N : List Nat} (h : TmI a b i b.length N) : TmI a b (i + 1) 0 N := by
  refine ⟨h.l, h.z, fun j => ?_⟩
  rw [h.v j, conv_get, if_neg (show ¬ (i + 1 ≤ j ∧ j - (i + 1) < 0) by omega), Nat.add_zero]
  congr 1
  by_cases h1 : i ≤ j
  · by_cases h2 : j - i < b.length
    · rw [if_pos ⟨h1, h2⟩, if_pos h1]
    · rw [if_neg (by omega), if_pos h1, getZ_none h2, Nat.mul_zero]
  · rw [if_neg (by omega), if_neg h1]
theorem TmI.step {a b : List Nat} {i k : Nat} {N : List Nat} (h : TmI a b i k N) (hi : i < a.length) (hk : k < b.length) : TmI a b i (k + 1) (N.set (i + k + 1) (N.getD (i + k + 1) 0 + a.getD i 0 * b.getD k 0)) := by
  have hl := h.l
  refine ⟨by rw [List.length_set, hl], by rw [getZ_set _ _ _ _ (by omega), if_neg (by omega), h.z], fun j => ?_⟩
  rw [getZ_set _ _ _ _ (by omega)]
  by_cases e : j = i + k
  · subst e
    rw [if_pos rfl, h.v, if_neg (by omega), if_pos (by omega), Nat.add_sub_cancel_left]
    rfl
  · rw [if_neg (by omega), h.v]
    congr 1
    by_cases h1 : i ≤ j ∧ j - i < k
    · rw [if_pos h1, if_pos (by omega)]
    · rw [if_neg h1, if_neg (by omega)]
theorem TmI.le {a b : List Nat} {i k : Nat} {N : List Nat} (h : TmI a b i k N) (hi : i < a.length) (hk : k < b.length) : N.getD (i + k + 1) 0 + a.getD i 0 * b.getD k 0 ≤ a.sum * b.sum := by
  have h1 := h.v (i + k)
  rw [if_neg (by omega), Nat.add_zero] at h1
  have h2 := conv_get a b i (i + k)
  rw [if_pos (by omega), Nat.add_sub_cancel_left] at h2
  have h3 := Nat.le_trans (getD_le (timesP a b (i + 1)) (i + k)) (timesP_le a b (i + 1) hi)
  rw [h2] at h3
  generalize a.getD i 0 * b.getD k 0 = p at *
  omega
theorem TmI.done {a b : List Nat} {N : List Nat} (h : TmI a b a.length 0 N) (ha : 0 < a.length) (hb : 0 < b.length) : N = 0 :: timesF a b := by
  have hl := h.l
  have htl := timesF_len a b
  rw [if_neg (by omega)] at htl
  apply List.ext_getElem
  · rw [List.length_cons, htl]; omega
  · intro j h1 h2
    have e : N.getD j 0 = (0 :: timesF a b).getD j 0 := by
      cases j with
      | zero => exact h.z
      | succ j =>
        rw [h.v j, if_neg (by omega), List.getD_cons_succ]
        rfl
    rwa [List.getD_eq_getElem?_getD, List.getElem?_eq_getElem h1, List.getD_eq_getElem?_getD, List.getElem?_eq_getElem h2] at e
set_option maxHeartbeats 8000000 in
theorem timesS_ok {cf : CF} {fuel : Nat} {H : AHeap} {X Y : AV} {a b : List Nat} (hX : RdR 2 H X a.length (zC a)) (hY : RdR 2 H Y b.length (zC b)) (hla : a.length < 400) (hlb : b.length < 400) (ha0 : 0 < a.length) (hb0 : 0 < b.length) (hf : 1000 < fuel) (hbig : a.sum * b.sum < bigN) (hsa : a.sum < bigN) (hsb : b.sum < bigN)
    (h52 : ∀ H, cf 52 [nA 0] H = some (zN 0, H)) (h66 : ∀ m n, m + n < bigN → ∀ H, cf 66 [zN m, zN n] H = some (zN (m + n), H)) (h72 : ∀ m n, m < bigN → n < bigN → ∀ H, cf 72 [zN m, zN n] H = some (zN (m * n), H)) :
    ∃ v H', xfunc cf fuel L55 [X, Y] H = some (v, H') ∧ RowE 2 H' v (0 :: timesF a b).length (zC (0 :: timesF a b)) ∧ KpN H H' v := by
  refine xfunc_ofK rfl (by show 2 ≤ 59; omega) ?_
  have hF := HF.start H
  have hga : ∀ i, a.getD i 0 < bigN := fun i => Nat.lt_of_le_of_lt (getD_le _ _) hsa
  have hgb : ∀ i, b.getD i 0 < bigN := fun i => Nat.lt_of_le_of_lt (getD_le _ _) hsb
  unfold L55
  dsimp only
  repeat' (first | refine WK.seq ?_ | refine WK.block ?_ | (apply WK.reg; (· exact lnn)) | (apply WKO.bsO; (· rfl); (· rfl); (· assumption); (· rfl); (· exact nxx); (· exact nxx); (· exact nxx); intro _ _ _) | refine WKO.nil ?_ | ((first | apply WKO.op); (· first | exact k_mv rfl); (· rfl)) | refine pN ?_ | fail)
  rename_i H1 hF1 hn1
  refine WK.loop (α := Nat × AV) (fun s => [(0, X), (1, Y), (5, s.2), (6, nA s.1)]) (fun s H' => KpN H H' s.2 ∧ RowE 2 H' s.2 (List.replicate s.1 0).length (zC (List.replicate s.1 0)) ∧ s.1 ≤ a.length + b.length) (fun s => a.length + b.length - s.1) (0, .sl (H.bump 1).next 0 0 0) (.cons rfl <| .cons rfl <| .cons rfl <| .cons rfl <| .nil _)
    ⟨⟨by have := hF1.base; have := hF1.le; simp only [next_bump]; omega, fun q hq => (bump_get rfl q).trans (hF1.fr q hq (by simp)), fun q hq => by simp only [AV.own, Option.some.injEq, next_bump] at hq; omega⟩, .inr ⟨rfl, rfl, _, rfl, by have := hF1.lt _ (.head _); have := hF1.le; simp only [next_bump] at *; omega, (bump_get rfl _).trans (hF1.obj _ (.head _))⟩, Nat.zero_le _⟩ (by show a.length + b.length - 0 < fuel; omega) ?_
  rintro ⟨i, u⟩ H3 ⟨⟨k1, k2, k3⟩, hR, hi⟩
  simp only at k1 k2 k3 hR hi ⊢
  clear hF hF1
  repeat' (first | refine WK.seq ?_ | refine WK.skip ?_ | refine WK.exit ?_ | refine WK.block ?_ | (apply WK.reg; (· exact lnn)) | refine WKO.nil ?_ | ((first | apply WKO.op); (· first | exact k_mv rfl | exact k_lenE rfl hX | exact k_lenE rfl hY | (apply k_call; (· rfl); (· rfl); (· exact h52 _)) | exact opA); (· rfl)) | refine pN ?_ | refine pX ?_ | refine bX ?_ | (apply WK.condD; (· rfl); all_goals intro _) | fail)
  · refine WKO.apZI (w := 0) hR rfl (by simp only [next_bump]; omega) (by simp only [next_bump]; omega) (by rw [List.length_replicate]; omega) rfl rfl ?_
    intro v' H4 r4 n4 g4 o4
    repeat' (first | (apply WK.reg; (· exact lnn)) | refine WKO.nil ?_ | ((first | apply WKO.op); (· first | exact k_mv rfl | exact opA); (· rfl)) | refine pN ?_ | refine bN ?_ | fail)
    have e : List.replicate i 0 ++ [0] = List.replicate (i + 1) 0 := List.replicate_succ'.symm
    rw [e] at r4
    refine ⟨(i + 1, v'), (.cons rfl <| .cons rfl <| .cons rfl <| .cons rfl <| .nil _), ⟨⟨by simp only [next_bump] at *; omega, fun q hq => (bump_get rfl q).trans ((g4 q (by omega) (fun w => by have := k3 q w; omega)).trans (k2 q hq)), fun q hq => ?_⟩, r4.frame (by simp only [next_bump]; omega) (fun _ _ => rfl), by show i + 1 ≤ a.length + b.length; omega⟩, by show a.length + b.length - (i + 1) < a.length + b.length - i; omega⟩
    rcases o4 q hq with w | w
    · exact k3 q w
    · omega
  · refine ⟨fun _ => ?_, fun q => absurd rfl q⟩
    have hil : i = a.length + b.length := by omega
    subst hil
    have hRw : Row 2 H3 u (List.replicate (a.length + b.length) 0).length (zC (List.replicate (a.length + b.length) 0)) := by
      rcases hR with q | ⟨q, _⟩
      · exact q
      · rw [List.length_replicate] at q; omega
    repeat' (first | refine WK.seq ?_ | refine WK.block ?_ | (apply WK.reg; (· exact lnn)) | refine WKO.nil ?_ | ((first | apply WKO.op); (· first | exact k_mv rfl); (· rfl)) | refine pN ?_ | fail)
    refine WK.loop (α := Nat × List Nat) (fun s => [(0, X), (1, Y), (5, u), (7, nA s.1)]) (fun s H' => KpN H H' u ∧ Row 2 H' u s.2.length (zC s.2) ∧ TmI a b s.1 0 s.2 ∧ s.1 ≤ a.length) (fun s => a.length - s.1) (0, List.replicate (a.length + b.length) 0) (.cons rfl <| .cons rfl <| .cons rfl <| .cons rfl <| .nil _)
      ⟨⟨by simp only [next_bump]; omega, fun q hq => (bump_get rfl q).trans (k2 q hq), k3⟩, hRw.frame (by simp only [next_bump]; omega) (fun _ _ => rfl), TmI.zero a b, Nat.zero_le _⟩ (by show a.length - 0 < fuel; omega) ?_
    rintro ⟨i, N⟩ H5 ⟨⟨m1, m2, m3⟩, hR5, hI, hi5⟩
    simp only at m1 m2 m3 hR5 hI hi5 ⊢
    clear hR hRw
    repeat' (first | refine WK.seq ?_ | refine WK.skip ?_ | refine WK.exit ?_ | refine WK.block ?_ | (apply WK.reg; (· exact lnn)) | refine WKO.nil ?_ | ((first | apply WKO.op); (· first | exact k_mv rfl | exact k_lenE rfl hX | exact opA); (· rfl)) | refine pN ?_ | refine pX ?_ | refine bX ?_ | (apply WK.condD; (· rfl); all_goals intro _) | fail)
    · refine WK.loop (α := Nat × List Nat) (fun s => [(0, X), (1, Y), (5, u), (7, nA i), (8, nA s.1)]) (fun s H' => KpN H H' u ∧ Row 2 H' u s.2.length (zC s.2) ∧ TmI a b i s.1 s.2 ∧ s.1 ≤ b.length) (fun s => b.length - s.1) (0, N) (.cons rfl <| .cons rfl <| .cons rfl <| .cons rfl <| .cons rfl <| .nil _)
        ⟨⟨by simp only [next_bump]; omega, fun q hq => (bump_get rfl q).trans (m2 q hq), m3⟩, hR5.frame (by simp only [next_bump]; omega) (fun _ _ => rfl), hI, Nat.zero_le _⟩ (by show b.length - 0 < fuel; omega) ?_
      rintro ⟨k, M⟩ H6 ⟨⟨n1, n2, n3⟩, hR6, hJ, hk6⟩
      simp only at n1 n2 n3 hR6 hJ hk6 ⊢
      clear hR5
      have hMl := hJ.l
      have hX6 := hX.frame n1 (fun q hq => n2 q (hX.own_lt hq))
      have hY6 := hY.frame n1 (fun q hq => n2 q (hY.own_lt hq))
      have hU6 : RdR 2 H6 u M.length (zC M) := RdR.of (.inl hR6)
      repeat' (first | refine WK.seq ?_ | refine WK.skip ?_ | refine WK.exit ?_ | refine WK.block ?_ | (apply WK.reg; (· exact lnn)) | refine WKO.nil ?_ | ((first | apply WKO.op); (· first | exact k_mv rfl | exact k_lenE rfl hY | exact opA); (· rfl)) | refine pN ?_ | refine pX ?_ | refine bN ?_ | refine bX ?_ | (apply WK.condD; (· rfl); all_goals intro _) | fail)
      · rename_i hi7 hk7
        have hle := hJ.le hi7 hk7
        refine WK.regC1 23 rfl rfl rfl ?_
        dsimp only [List.take_succ_cons, List.take_zero]
        repeat' (first | refine WKC.nil ?_ | ((first | apply WKC.op); (· first | exact k_mv rfl | exact k_iaE rfl rfl hU6 (by omega) | exact k_iaE rfl rfl hX (by omega) | exact k_iaE rfl rfl hY (by omega) | (apply k_ldZI; (· rfl); (· exact hU6); (· rfl); (· omega)) | (apply k_ldZI; (· rfl); (· exact hX6); (· rfl); (· omega)) | (apply k_ldZI; (· rfl); (· exact hY6); (· rfl); (· omega)) | (apply k_call; (· rfl); (· rfl); (· first | exact h72 _ _ (hga i) (hgb k) _ | exact h66 _ _ (Nat.lt_of_le_of_lt hle hbig) _)) | exact opA); (· rfl)) | fail)
        refine WKO.stZI (b := M) (j := i + k + 1) (w := M.getD (i + k + 1) 0 + a.getD i 0 * b.getD k 0) hR6 rfl (by simp only [next_bump]; omega) (by omega) rfl rfl ?_
        intro H7 r7 nx7 g7
        repeat' (first | (apply WK.reg; (· exact lnn)) | refine WKO.nil ?_ | ((first | apply WKO.op); (· first | exact k_mv rfl | exact opA); (· rfl)) | refine pN ?_ | refine bN ?_ | fail)
        refine ⟨(k + 1, _), (.cons rfl <| .cons rfl <| .cons rfl <| .cons rfl <| .cons rfl <| .nil _), ⟨⟨by simp only [next_bump] at *; omega, fun q hq => (bump_get rfl q).trans ((g7 q (fun w => by have := n3 q w; omega)).trans (n2 q hq)), n3⟩, ?_, hJ.step hi7 hk7, by show k + 1 ≤ b.length; omega⟩, by show b.length - (k + 1) < b.length - k; omega⟩
        show Row 2 (H7.bump 3) u (M.set (i + k + 1) _).length _
        rw [List.length_set]
        exact r7.frame (by simp only [next_bump]; omega) (fun _ _ => rfl)
      · refine ⟨fun _ => ?_, fun q => absurd rfl q⟩
        have hkb : k = b.length := by omega
        subst hkb
        repeat' (first | (apply WK.reg; (· exact lnn)) | refine WKO.nil ?_ | ((first | apply WKO.op); (· first | exact k_mv rfl | exact opA); (· rfl)) | refine pN ?_ | fail)
        exact ⟨(i + 1, M), (.cons rfl <| .cons rfl <| .cons rfl <| .cons rfl <| .nil _), ⟨⟨by simp only [next_bump]; omega, fun q hq => (bump_get rfl q).trans (n2 q hq), n3⟩, hR6.frame (by simp only [next_bump]; omega) (fun _ _ => rfl), hJ.row, by show i + 1 ≤ a.length; omega⟩, by show a.length - (i + 1) < a.length - i; omega⟩
    · refine ⟨fun _ => ?_, fun q => absurd rfl q⟩
      have hia : i = a.length := by omega
      subst hia
      have hd := hI.done ha0 hb0
      subst hd
      repeat' (first | refine WK.seq ?_ | refine WK.ret ?_ | (apply WK.reg; (· exact lnn)) | refine WKO.nil ?_ | ((first | apply WKO.op); (· first | exact k_mv rfl); (· rfl)) | refine pN ?_ | fail)
      exact ⟨fun id q => (by cases q), _, rfl, .inl (hR5.frame (by simp only [next_bump]; omega) (fun _ _ => rfl)), by simp only [next_bump]; omega, fun q hq => (bump_get rfl q).trans (m2 q hq), m3⟩
end Go.Proofs.YtfcgofffalmdfaaGreatDoor.PA
namespace Go.Proofs.YtfcgofffalmdfaaGreatDoor.PA
open Go Go.Eng Go.Proofs
theorem plus_moved (a t : List Nat) : sumP a (0 :: t) (max a.length (0 :: t).length) = plusF a t 1 := by
  apply List.ext_getElem
  · rw [sumP_len, plusF_len, List.length_cons]
  · intro j h1 h2
    have e : (sumP a (0 :: t) (max a.length (0 :: t).length)).getD j 0 = (plusF a t 1).getD j 0 := by
      rw [plusF_get]
      rw [sumP_len] at h1
      unfold sumP
      rw [List.getD_eq_getElem?_getD, List.getElem?_map, List.getElem?_range h1]
      show a.getD j 0 + (0 :: t).getD j 0 = _
      congr 1
      cases j with
      | zero => rfl
      | succ j => rw [if_pos (by omega)]; rfl
    rwa [List.getD_eq_getElem?_getD, List.getElem?_eq_getElem h1, List.getD_eq_getElem?_getD, List.getElem?_eq_getElem h2] at e
def CapOk (v : AV) : Prop := ∃ i l c, v = .sl i 0 l c ∧ (c = openCap ∨ l ≤ c ∧ c < openAt)
structure TabH (sz : Nat → Nat → List Nat) (n : Nat) (H0 : AHeap) (X : AV) (R : List Nat) (done : Nat → Nat → Prop) (H : AHeap) : Prop where
  x : RowE 1 H X R.length (R.map fun r => AV.sl r 0 (n + 1) (n + 1))
  nd : R.Nodup
  lt : ∀ r ∈ R, H0.next ≤ r ∧ r < H.next
  xo : ∀ q, X.own = some q → H0.next ≤ q ∧ q ∉ R
  o : ∀ i, i < R.length → ∃ M : List AV, H.get (R.getD i 0) = some (.cells M none) ∧ M.length = n + 1 ∧ (∀ j, j < n + 1 → done i j → ∃ v, M[j]? = some v ∧ RdR 2 H v (sz i j).length (zC (sz i j)) ∧ CapOk v ∧ ∀ q, v.own = some q → q ∉ R ∧ X.own ≠ some q) ∧ ∀ j, j < n + 1 → ¬ done i j → M[j]? = some .nils
  k1 : H0.next ≤ H.next
  k2 : ∀ q, q < H0.next → H.get q = H0.get q
section
variable {sz : Nat → Nat → List Nat} {n : Nat} {H0 : AHeap} {X : AV} {R : List Nat} {done done' : Nat → Nat → Prop} {H H' : AHeap}
theorem mem_getD {R : List Nat} {i : Nat} (h : i < R.length) : R.getD i 0 ∈ R := by
  rw [List.getD_eq_getElem?_getD, List.getElem?_eq_getElem h]
  exact List.getElem_mem h
theorem TabH.up (h : TabH sz n H0 X R done H) (hn : H.next ≤ H'.next) (hk : ∀ q, q < H.next → H'.get q = H.get q) : TabH sz n H0 X R done H' where
  x := h.x.frame hn (fun q hq => hk q (h.x.own_lt hq))
  nd := h.nd
  lt := fun r hr => by have := h.lt r hr; omega
  xo := h.xo
  o := fun i hi => by
    obtain ⟨M, q1, q2, q3, q4⟩ := h.o i hi
    refine ⟨M, (hk _ (h.lt _ (mem_getD hi)).2).trans q1, q2, fun j hj hd => ?_, q4⟩
    obtain ⟨v, r1, r2, r3, r4⟩ := q3 j hj hd
    exact ⟨v, r1, r2.frame hn (fun q hq => hk q (r2.own_lt hq)), r3, r4⟩
  k1 := by have := h.k1; omega
  k2 := fun q hq => (hk q (by have := h.k1; omega)).trans (h.k2 q hq)
theorem TabH.same (h : TabH sz n H0 X R done H) (hd : ∀ i j, i < R.length → j < n + 1 → (done i j ↔ done' i j)) : TabH sz n H0 X R done' H where
  x := h.x
  nd := h.nd
  lt := h.lt
  xo := h.xo
  o := fun i hi => by
    obtain ⟨M, q1, q2, q3, q4⟩ := h.o i hi
    exact ⟨M, q1, q2, fun j hj hdd => q3 j hj ((hd i j hi hj).2 hdd), fun j hj hdd => q4 j hj (fun e => hdd ((hd i j hi hj).1 e))⟩
  k1 := h.k1
  k2 := h.k2
theorem TabH.row (h : TabH sz n H0 X R done H) {i : Nat} (hi : i < R.length) : (R.map fun r => AV.sl r 0 (n + 1) (n + 1))[i]? = some (.sl (R.getD i 0) 0 (n + 1) (n + 1)) := by
  rw [List.getElem?_map, List.getElem?_eq_getElem hi, List.getD_eq_getElem?_getD, List.getElem?_eq_getElem hi]
  rfl
theorem TabH.put (h : TabH sz n H0 X R done H) {i j : Nat} {v : AV} {M : List AV} (hi : i < R.length) (hj : j < n + 1) (hM : H.get (R.getD i 0) = some (.cells M none)) (hg : H'.get (R.getD i 0) = some (.cells (M.set j v) none)) (hn : H'.next = H.next) (hk : ∀ q, q ≠ R.getD i 0 → H'.get q = H.get q)
    (hv : RdR 2 H v (sz i j).length (zC (sz i j))) (hv2 : CapOk v) (hv3 : ∀ q, v.own = some q → q ∉ R ∧ X.own ≠ some q) : TabH sz n H0 X R (fun a b => done a b ∨ a = i ∧ b = j) H' where
  x := h.x.frame (by omega) (fun q hq => hk q (fun e => (h.xo q hq).2 (e ▸ mem_getD hi)))
  nd := h.nd
  lt := fun r hr => by have := h.lt r hr; omega
  xo := h.xo
  o := fun a ha => by
    have fr : ∀ (w : AV) (l : List Nat), RdR 2 H w l.length (zC l) → (∀ q, w.own = some q → q ∉ R) → RdR 2 H' w l.length (zC l) := fun w l hw ho => hw.frame (by omega) (fun q hq => hk q (fun e => ho q hq (e ▸ mem_getD hi)))
    obtain ⟨M2, q1, q2, q3, q4⟩ := h.o a ha
    by_cases e : a = i
    · subst e
      rw [hM] at q1
      cases q1
      refine ⟨_, hg, by rw [List.length_set]; exact q2, fun b hb hd => ?_, fun b hb hd => ?_⟩
      · rw [List.getElem?_set]
        by_cases e2 : j = b
        · subst e2
          rw [if_pos rfl, if_pos (by omega)]
          exact ⟨v, rfl, fr v _ hv (fun q hq => (hv3 q hq).1), hv2, hv3⟩
        · rw [if_neg e2]
          obtain ⟨w, r1, r2, r3, r4⟩ := q3 b hb (by rcases hd with hd | hd; exact hd; exact absurd hd.2.symm e2)
          exact ⟨w, r1, fr w _ r2 (fun q hq => (r4 q hq).1), r3, r4⟩
      · rw [List.getElem?_set, if_neg (fun e2 => hd (.inr ⟨rfl, e2.symm⟩))]
        exact q4 b hb (fun e2 => hd (.inl e2))
    · have hne : R.getD a 0 ≠ R.getD i 0 := fun e2 => e (by
        have h1 := h.nd
        rw [List.getD_eq_getElem?_getD, List.getElem?_eq_getElem ha, List.getD_eq_getElem?_getD, List.getElem?_eq_getElem hi] at e2
        exact (List.getElem_inj h1).1 e2)
      refine ⟨M2, (hk _ hne).trans q1, q2, fun b hb hd => ?_, fun b hb hd => q4 b hb (fun e2 => hd (.inl e2))⟩
      obtain ⟨w, r1, r2, r3, r4⟩ := q3 b hb (by rcases hd with hd | hd; exact hd; exact absurd hd.1 e)
      exact ⟨w, r1, fr w _ r2 (fun q hq => (r4 q hq).1), r3, r4⟩
  k1 := by have := h.k1; omega
  k2 := fun q hq => (hk q (fun e => by have := (h.lt _ (mem_getD hi)).1; omega)).trans (h.k2 q hq)
end
def dn (L I i j : Nat) : Prop := i ≤ j ∧ (j - i < L ∨ j - i = L ∧ i < I)
end Go.Proofs.YtfcgofffalmdfaaGreatDoor.PA
namespace Go.Proofs.YtfcgofffalmdfaaGreatDoor.PA
open Go Go.Eng Go.Proofs
theorem nils_flat (m : Nat) : (List.replicate m [AV.nils]).flatten = List.replicate m AV.nils := by
  induction m with
  | zero => rfl
  | succ m ih => rw [List.replicate_succ, List.flatten_cons, ih, List.replicate_succ]; rfl
theorem WKO.ap1c {cf : CF} {n m d1 d2 bytes : Nat} {z0 : AV} {H H' : AHeap} {l : KL0} {x y : XO} {v val : AV} {cs : List AV} {r : List XOper} {R : KL0 → AHeap → Prop} (hb : bytes ≤ 2 ^ 16) (hR : RowE 1 H v m cs) (hm : H'.m = H.m) (hn : H.next ≤ H'.next) (hlt : n < H'.next) (hf : v.own ≠ some n) (hl : m < 1000000) (hy : evK l y = some val) (hc : val.cells = [val]) (ho : val.oneCell = true) (hx : evK ((d1, .sl n 0 1 1) :: l) x = some v)
    (k : ∀ v' H1, RowE 1 H1 v' (m + 1) (cs ++ [val]) → H'.next ≤ H1.next → (∀ q, q < H'.next → q ≠ n → v.own ≠ some q → H1.get q = H'.get q) → (∀ i, v'.own = some i → v.own = some i ∨ H'.next ≤ i) → WKO cf r (n + 1 + 1) ((d2, v') :: (d1, .sl n 0 1 1) :: l) H1 R) :
    WKO cf (⟨some d1, .bslice [z0] [(0, 1, y)] 1, none⟩ :: ⟨some d2, .app 1 bytes x (.t d1), none⟩ :: r) n l H' R := by
  have hR' : RowE 1 H' v m cs := hR.frame hn (fun i _ => bump_get hm i)
  refine WKO.append1E (m := m) (v := v) (cs := cs) (new := [val]) hR' hx ?_ (by simp [allSm, XOp.opnds, hy]) (by omega) (by omega) hb rfl (by simp [ho]) hlt hf (fun v' H1 q1 q2 q3 q4 => k v' H1 (.inl q1) q2 (fun q h1 h2 h3 => q3 q h1 h2 h3) q4)
  simp only [evParts, hy, bind, Option.bind_some, fillA, hc]
  simp
theorem WKO.appR {cf : CF} {n d z bytes len len2 : Nat} {H' : AHeap} {l : KL0} {x y : XO} {u X : AV} {cs ds : List AV} {r : List XOper} {R : KL0 → AHeap → Prop} (hx : evK l x = some u) (hy : evK l y = some X) (hR : RowE z H' u len cs) (hX : RdR z H' X len2 ds) (hz : 0 < z) (ho : ds.all AV.oneCell = true) (hl : len + len2 < 1000000) (hb : bytes ≤ 2 ^ 16)
    (k : ∀ v' H1, RowE z H1 v' (len + len2) (cs ++ ds) → H'.next ≤ H1.next → (∀ q, q < H'.next → u.own ≠ some q → H1.get q = H'.get q) → (∀ q, v'.own = some q → u.own = some q ∨ H'.next ≤ q) → WKO cf r (n + 1) ((d, v') :: l) H1 R) : WKO cf (⟨some d, .app z bytes x y, none⟩ :: r) n l H' R := by
  obtain ⟨v', H1, e1, R1, hn1, hg1, ho1⟩ := hR.app0 (bytes := bytes) (n := len2) (y := X) (new := ds) hz (by omega) hb hX.lenA hX.src hX.1 ho
  exact WKO.op (v := v') (H1 := H1) (k_any (by simp only [xval, xop, hx, hy, e1])) (by simp [allSm, XOp.opnds, hx, hy]) (k v' H1 R1 hn1 hg1 ho1)
theorem zC_ones (l : List Nat) : (zC l).all AV.oneCell = true := by
  rw [List.all_eq_true]
  intro x hx
  obtain ⟨c, hc, hx⟩ := List.mem_flatten.1 hx
  obtain ⟨n, _, rfl⟩ := List.mem_map.1 hc
  simp only [zc, List.mem_cons, List.not_mem_nil, or_false] at hx
  rcases hx with rfl | rfl <;> rfl
theorem RowE.capOk {z len : Nat} {H : AHeap} {v : AV} {cs : List AV} (h : RowE z H v len cs) (h0 : 0 < len) : CapOk v := by
  rcases h with ⟨_, ⟨rfl, h⟩ | ⟨i, full, rfl, _⟩⟩ | ⟨h, _⟩
  · omega
  · exact ⟨_, _, _, rfl, .inl rfl⟩
  · omega
def szM (may : Nat → Nat → Bool) (i j : Nat) : List Nat := sizesN may (j - i) i
theorem szF_P (may : Nat → Nat → Bool) {i j : Nat} (h : i < j) : szM may i j = sizesP may (j - i) i (j - i - 1) := by
  unfold szM
  by_cases h2 : 2 ≤ j - i
  · rw [sizesN_ge _ h2]
  · have e : j - i = 1 := by omega
    rw [e, sizesN_lt _ (by omega), sizesP_zero, sizesN_lt _ (by omega)]
theorem xop_ldE {ev : XO → Option AV} {H0 H' : AHeap} {n z len p : Nat} {x : XO} {X v : AV} {cs : List AV} (hx : ev x = some (adE X p)) (hE : RdR z H0 X len cs) (hF : ∀ i, X.own = some i → H'.get i = H0.get i) (h : cs[p]? = some v) : xop ev H' n (.load none x) = .v v := by
  have hp : p < len * z := by
    obtain ⟨hh, _⟩ := List.getElem?_eq_some_iff.1 h
    rw [hE.1] at hh
    exact hh
  obtain ⟨c, h1, h2⟩ := hE.at (H' := H') hF hp
  have h3 : c[0]? = some v := by
    have : (c.take (len * z - p))[0]? = some v := by rw [h2, List.getElem?_drop, Nat.add_zero, h]
    rw [List.getElem?_take] at this
    split at this
    · exact this
    · cases this
  simp only [xop, hx, Option.bind_some, loadA, h1, h3, AR.ofV]
theorem store_one {cf : CF} {n r j : Nat} {H' : AHeap} {l : KL0} {a x : XO} {M : List AV} {v : AV} (ha : evK l a = some (.ptr r j)) (hx : evK l x = some v) (hv : v.oneCell = true) (hg : H'.get r = some (.cells M none)) (hj : j < M.length) : xval cf (evK l) H' n (.store 1 a x) = some (undefA, H'.set r (some (.cells (M.set j v) none))) := by
  have e : M.set j v = overA M j v.cells := by
    rw [one_cells hv, overA, List.set_eq_take_append_cons_drop, if_pos hj]
    simp
  rw [e]
  exact op_store ha hx hg (by rw [one_cells hv]; rfl) (by rw [one_cells hv]; simp [hv]) (by omega)
theorem szF_self (may : Nat → Nat → Bool) (i : Nat) : szM may i i = [1] := by unfold szM; rw [Nat.sub_self, sizesN_lt _ (by omega)]
section
variable {s : List UInt8} {l : List (Int × Int)} {gap : Int} {may : Nat → Nat → Bool}
set_option maxHeartbeats 8000000 in
theorem TabOf_ok {cf : CF} (hcc : CleanCF cf) {fuel : Nat} {H : AHeap} (hcl : Go.Eng.Clean H) (hE : readE s l gap = 0) (hf : 1000 < fuel)
    (h52 : ∀ H, cf 52 [nA 1] H = some (zN 1, H)) (h53 : ∀ i j, i < j → j < s.length → ∀ H, cf 53 [.str s, pairsI l, .int .i64 gap, nA i, nA j] H = some (.bool (may i j), H))
    (h54 : ∀ (X Y : AV) (a b : List Nat) (H : AHeap), RdR 2 H X a.length (zC a) → RdR 2 H Y b.length (zC b) → a.length < 400 → b.length < 400 → a.sum + b.sum < bigN → ∃ v H', cf 54 [X, Y] H = some (v, H') ∧ RowE 2 H' v (sumP a b (max a.length b.length)).length (zC (sumP a b (max a.length b.length))) ∧ KpN H H' v)
    (h55 : ∀ (X Y : AV) (a b : List Nat) (H : AHeap), RdR 2 H X a.length (zC a) → RdR 2 H Y b.length (zC b) → a.length < 400 → b.length < 400 → 0 < a.length → 0 < b.length → a.sum * b.sum < bigN → a.sum < bigN → b.sum < bigN → ∃ v H', cf 55 [X, Y] H = some (v, H') ∧ RowE 2 H' v (0 :: timesF a b).length (zC (0 :: timesF a b)) ∧ KpN H H' v) :
    ∃ v H', xfunc cf fuel L17 [.str s, pairsI l, .int .i64 gap] H = some (v, H') ∧ ∃ R, R.length = s.length + 1 ∧ TabH (szM may) s.length H v R (fun i j => i ≤ j) H' := by
  refine xfunc_ofK rfl (by show 3 ≤ 104; omega) ?_
  have hs40 := (readE_zero hE).1
  generalize hsl : s.length = n at *
  have hslen : ∀ {q : Nat} {Hq : AHeap} {K : KL0} {x : XO}, evK K x = some (.str s) → XV cf K Hq q (.slen x) = some (nA n, Hq) := fun {q Hq K x} hx => by
    have := k_slen (cf := cf) (n := q) (H := Hq) hx
    rwa [hsl] at this
  have hF := HF.start H
  unfold L17
  dsimp only
  repeat' (first | refine WK.seqC (by assumption) ?_ | intro (_ : CleanTo _ _) | refine WK.block ?_ | (apply WK.reg; (· exact lnn)) | (apply WKO.bsO; (· rfl); (· rfl); (· assumption); (· rfl); (· exact nxx); (· exact nxx); (· exact nxx); intro _ _ _) | refine WKO.nil ?_ | ((first | apply WKO.op); (· first | exact k_mv rfl | exact hslen rfl); (· rfl)) | refine pN ?_ | fail)
  rename_i c1 c2 H1 hF1 hn1 c3 c4
  have hcl1 : Go.Eng.Clean (H1.bump 1) := c4.1 (c3.1 (c2.1 (c1.1 hcl)))
  generalize hnb : ((H.bump 1).bump 3).next = nb at hF1 ⊢
  simp only [next_bump] at hnb hn1
  have hb1 := hF1.base
  have hl1 := hF1.le
  have g1 : (H1.bump 1).get nb = some (.cells [] none) := (bump_get rfl _).trans (hF1.obj _ (.head _))
  have hT0 : TabH (szM may) n H (.sl nb 0 0 0) [] (fun _ _ => False) (H1.bump 1) :=
    ⟨.inr ⟨rfl, rfl, nb, rfl, nxx, g1⟩, List.nodup_nil, fun r hr => (by cases hr), fun q hq => (by cases hq; exact ⟨by omega, by simp⟩), fun i hi => absurd hi (Nat.not_lt_zero _), nxx, fun q hq => (bump_get rfl q).trans (hF1.fr q hq (by simp))⟩
  clear hF hF1 c1 c2 c3 c4
  refine WK.loop (α := Nat × AV × List Nat) (fun t => [(0, .str s), (1, pairsI l), (2, .int .i64 gap), (7, nA n), (8, t.2.1), (9, nA t.1)]) (fun t H' => TabH (szM may) n H t.2.1 t.2.2 (fun _ _ => False) H' ∧ t.2.2.length = t.1 ∧ t.1 ≤ n + 1 ∧ Go.Eng.Clean H') (fun t => n + 1 - t.1) (0, .sl nb 0 0 0, []) (.cons rfl <| .cons rfl <| .cons rfl <| .cons rfl <| .cons rfl <| .cons rfl <| .nil _) ⟨hT0, rfl, Nat.zero_le _, hcl1⟩ (by show n + 1 - 0 < fuel; omega) ?_
  rintro ⟨i, X, R⟩ H3 ⟨hT, hRl, hi, hc3⟩
  simp only at hT hRl hi hc3 ⊢
  clear hT0
  refine WK.cl hcc ?_
  repeat' (first | refine WK.seq ?_ | refine WK.skip ?_ | refine WK.exit ?_ | refine WK.block ?_ | (apply WK.reg; (· exact lnn)) | refine WKO.nil ?_ | ((first | apply WKO.op); (· first | exact k_mv rfl | exact opA); (· rfl)) | refine pN ?_ | refine pX ?_ | (apply WK.condD; (· rfl); all_goals intro _) | fail)
  · refine WKO.mkO (m := n + 1) rfl rfl ⟨by omega, by decide⟩ (HF.start H3) rfl nxx ?_
    intro H4 hF4 hn4
    rw [nils_flat] at hF4
    have hX4 := hF4.re hT.x (fun _ _ => by simp)
    generalize hr : ((H3.bump 3).bump 7).next = r at hF4 hn4 ⊢
    simp only [next_bump] at hr
    have hxl : ∀ q, X.own = some q → q < H3.next := fun q hq => hT.x.own_lt hq
    refine WKO.ap1c (bytes := 24) (by decide) hX4 rfl (Nat.le_refl _) nxx (fun e => by have := hxl _ e; simp only [next_bump] at this; omega) (by omega) rfl rfl rfl rfl ?_
    intro v' H5 r5 n5 g5 o5
    simp only [next_bump] at g5
    repeat' (first | (apply WK.reg; (· exact lnn)) | refine WKO.nil ?_ | ((first | apply WKO.op); (· first | exact k_mv rfl | exact opA); (· rfl)) | refine pN ?_ | refine bN ?_ | fail)
    intro hct
    have hk5 : ∀ q, q < H3.next → X.own ≠ some q → H5.get q = H3.get q := fun q hq hx => (g5 q (by omega) (by omega) hx).trans (hF4.fr q hq (by simp))
    have hgr : H5.get r = some (.cells (List.replicate (n + 1) .nils) none) := (g5 r (by omega) (by omega) (fun e => by have := hxl _ e; omega)).trans (hF4.obj _ (.head _))
    refine ⟨fun _ => ?_, fun q => absurd rfl q⟩
    refine ⟨(i + 1, v', R ++ [r]), (.cons rfl <| .cons rfl <| .cons rfl <| .cons rfl <| .cons rfl <| .cons rfl <| .nil _), ⟨⟨?_, ?_, fun q hq => ?_, fun q hq => ?_, fun a ha => ?_, ?_, fun q hq => ?_⟩, by simp [hRl], by show i + 1 ≤ n + 1; omega, hct.1 hc3⟩, by show n + 1 - (i + 1) < n + 1 - i; omega⟩
    · rw [List.length_append, List.map_append]
      exact r5.frame nxx (fun _ _ => rfl)
    · rw [List.nodup_append]
      refine ⟨hT.nd, by simp, fun a ha b hb => ?_⟩
      have := hT.lt a ha
      simp only [List.mem_singleton] at hb
      omega
    · have h1 := hT.k1
      simp only [next_bump]
      rcases List.mem_append.1 hq with q1 | q1
      · have := hT.lt q q1; omega
      · simp only [List.mem_singleton] at q1; omega
    · have h1 := hT.k1
      rw [List.mem_append, List.mem_singleton]
      rcases o5 q hq with w | w
      · have := hT.xo q w
        have := hxl q w
        exact ⟨by omega, by rintro (h | h); exact (hT.xo q w).2 h; omega⟩
      · refine ⟨by omega, ?_⟩
        rintro (h | h)
        · have := hT.lt q h; omega
        · omega
    · rw [List.length_append, List.length_singleton] at ha
      by_cases hal : a < R.length
      · obtain ⟨M, q1, q2, _, q4⟩ := hT.o a hal
        have hm := mem_getD hal
        refine ⟨M, ?_, q2, fun _ _ h => h.elim, q4⟩
        have e : (R ++ [r]).getD a 0 = R.getD a 0 := by rw [List.getD_eq_getElem?_getD, List.getElem?_append_left hal, List.getD_eq_getElem?_getD]
        rw [e]
        exact (bump_get rfl _).trans ((hk5 _ (hT.lt _ hm).2 (fun e => (hT.xo _ e).2 hm)).trans q1)
      · have hal2 : a = R.length := by omega
        subst hal2
        have e : (R ++ [r]).getD R.length 0 = r := by rw [List.getD_eq_getElem?_getD, List.getElem?_append_right (Nat.le_refl _), Nat.sub_self]; rfl
        rw [e]
        refine ⟨_, (bump_get rfl _).trans hgr, by simp, fun _ _ h => h.elim, fun j hj _ => ?_⟩
        rw [List.getElem?_replicate, if_pos hj]
    · have h1 := hT.k1
      simp only [next_bump]; omega
    · have h1 := hT.k1
      exact (bump_get rfl q).trans ((hk5 q (by omega) (fun e => by have := (hT.xo q e).1; omega)).trans (hT.k2 q hq))
  · intro _
    refine ⟨fun q => (by cases q), fun _ => ⟨fun _ _ => ⟨fun _ => ?_, fun q => absurd rfl q⟩, fun q => absurd rfl q⟩⟩
    have hin : i = n + 1 := by omega
    subst hin
    repeat' (first | refine WK.seqC (by assumption) ?_ | intro (_ : CleanTo _ _) | refine WK.block ?_ | (apply WK.reg; (· exact lnn)) | refine WKO.nil ?_ | ((first | apply WKO.op); (· first | exact k_mv rfl); (· rfl)) | refine pN ?_ | fail)
    rename_i hc5
    have hcl5 := hc5.1 ((clean_bump _ 3).1 hc3)
    have hT5 := ((hT.same (done' := dn 0 0) (fun a b _ _ => ⟨fun h => h.elim, fun h => by unfold dn at h; omega⟩)).up (H' := (H3.bump 3)) nxx (fun q _ => rfl))
    clear hT hc3
    refine WK.loop (α := Nat) (fun L => [(0, .str s), (1, pairsI l), (2, .int .i64 gap), (7, nA n), (8, X), (10, nA L)]) (fun L H' => TabH (szM may) n H X R (dn L 0) H' ∧ Go.Eng.Clean H' ∧ L ≤ n + 1) (fun L => n + 1 - L) 0 (.cons rfl <| .cons rfl <| .cons rfl <| .cons rfl <| .cons rfl <| .cons rfl <| .nil _) ⟨hT5.up nxx (fun q _ => rfl), hcl5, Nat.zero_le _⟩ (by show n + 1 - 0 < fuel; omega) ?_
    rintro L H6 ⟨hT6, hc6, hL⟩
    clear hT5 hcl5 hc5
    refine WK.cl hcc ?_
    repeat' (first | refine WK.seqC (by assumption) ?_ | intro (_ : CleanTo _ _) | refine WK.skip ?_ | refine WK.ret ?_ | refine WK.exit ?_ | refine WK.block ?_ | (apply WK.reg; (· exact lnn)) | refine WKO.nil ?_ | ((first | apply WKO.op); (· first | exact k_mv rfl | exact opA); (· rfl)) | refine pN ?_ | refine pX ?_ | refine bX ?_ | (apply WK.condD; (· rfl); all_goals intro _) | fail)
    · rename_i hLn hc7 hc8
      have hcl8 := hc8.1 (hc7.1 hc6)
      refine WK.loop (α := Nat) (fun i => [(0, .str s), (1, pairsI l), (2, .int .i64 gap), (7, nA n), (8, X), (10, nA L), (11, nA i)]) (fun i H' => TabH (szM may) n H X R (dn L i) H' ∧ Go.Eng.Clean H' ∧ i + L ≤ n + 1) (fun i => n + 1 - i) 0 (.cons rfl <| .cons rfl <| .cons rfl <| .cons rfl <| .cons rfl <| .cons rfl <| .cons rfl <| .nil _) ⟨hT6.up nxx (fun q _ => rfl), hcl8, by omega⟩ (by show n + 1 - 0 < fuel; omega) ?_
      rintro i H7 ⟨hT7, hc7', hiL⟩
      clear hT6 hc7 hc8 hcl8
      refine WK.cl hcc ?_
      repeat' (first | refine WK.seqC (by assumption) ?_ | intro (_ : CleanTo _ _) | refine WK.skip ?_ | refine WK.exit ?_ | refine WK.block ?_ | (apply WK.reg; (· exact lnn)) | refine WKO.nil ?_ | ((first | apply WKO.op); (· first | exact k_mv rfl | exact opA); (· rfl)) | refine pN ?_ | refine pX ?_ | refine bN ?_ | refine bX ?_ | (apply WK.condD; (· rfl); all_goals intro _) | fail)
      · have hL0 : L = 0 := by assumption
        have hi7 : i + L < n + 1 := by omega
        subst hL0
        have hnX : ∀ q, X.own = some q → q < H7.next := fun q hq => hT7.x.own_lt hq
        refine WK.regT (k := 9) rfl ?_
        obtain ⟨HB, hHB⟩ : ∃ HB, (((H7.bump 5).bump 4).bump 2) = HB := ⟨_, rfl⟩
        rw [hHB]
        have hBm : HB.m = H7.m := by rw [← hHB]; rfl
        have hBn : HB.next = H7.next + 11 := by rw [← hHB]; rfl
        clear hHB
        have hBg : ∀ k, (HB.bump 9).get k = H7.get k := fun k => (show HB.m.get k = _ by rw [hBm]; rfl)
        have hxB : RowE 1 (HB.bump 9) X R.length (R.map fun r => AV.sl r 0 (n + 1) (n + 1)) := hT7.x.frame (by rw [next_bump]; omega) (fun q _ => hBg q)
        obtain ⟨M, m1, m2, m3, m4⟩ := hT7.o i (by omega)
        have hm := mem_getD (R := R) (i := i) (by omega)
        have hrl := (hT7.lt _ hm).2
        generalize hr : R.getD i 0 = r at m1 hm hrl
        obtain ⟨Ha, hHa⟩ : ∃ Ha, (HB.bump 9).set (HB.next + 6) (some (.cells [.bool false, rowZ (dz 1)] none)) = Ha := ⟨_, rfl⟩
        have hna : Ha.next = HB.next + 9 := by rw [← hHa]; rfl
        have hga : ∀ k, k ≠ HB.next + 6 → Ha.get k = H7.get k := fun k hk => by rw [← hHa, AHeap.get_set, if_neg hk, hBg]
        have hNa : Ha.get (HB.next + 6) = some (.cells [.bool false, rowZ (dz 1)] none) := by rw [← hHa, AHeap.get_set, if_pos rfl]
        obtain ⟨Hb, hHb⟩ : ∃ Hb, Ha.set r (some (.cells (M.set i (.sl (HB.next + 6) 0 1 1)) none)) = Hb := ⟨_, rfl⟩
        have hrow : ∀ {q : Nat} {K : KL0} {x : XO}, evK K x = some (adE X (i * 1)) → XV cf K (HB.bump 9) q (.load none x) = some (.sl r 0 (n + 1) (n + 1), HB.bump 9) := fun {q K x} hx => k_ld1 hx hxB rfl (by have := hT7.row (i := i) (by omega); rwa [hr] at this)
        repeat' (first | ((first | apply WKT.op); (· first | exact k_mv rfl | exact k_iaE rfl rfl (RdR.of hxB) (by omega) | exact hrow rfl | (apply k_call; (· rfl); (· rfl); (· exact h52 _))); (· rfl)) | fail)
        refine WKT.op (v := .sl (HB.next + 6) 0 1 1) (H1 := Ha) (by rw [← hHa]; exact k_bs2 rfl) rfl ?_
        repeat' (first | ((first | apply WKT.op); (· first | exact k_ia1s rfl rfl (by omega)); (· rfl)) | fail)
        refine WKT.opn (v := undefA) (H1 := Hb) (k_any (by rw [← hHb]; exact store_one rfl rfl rfl ((hga r (by omega)).trans m1) (by omega))) rfl ?_
        repeat' (first | refine WKT.nil ?_ | fail)
        have hless : ∀ (Hq : AHeap) (l : List Nat) (k : Nat), k < HB.next → ((Hq.less HB.next [6]).less HB.next l).get k = Hq.get k := fun Hq l k hk => by rw [less_get (H := Hq) l _ (fun i _ => by omega), less_get (H := Hq) [6] _ (fun i _ => by omega)]
        refine ⟨?_, ?_, (_, Hb), rfl, ?_⟩
        · intro q hq
          obtain rfl : q = (3, [5], [6]) := by simpa using hq
          refine ⟨_, _, _, _, .sl r 0 (n + 1) (n + 1), rfl, rfl, rfl, xop_ldE rfl (RdR.of hxB) (fun _ _ => rfl) (by rw [Nat.mul_one]; have := hT7.row (i := i) (by omega); rwa [hr] at this), fun j hj => ?_⟩
          have hj' : j = 3 ∨ j = 5 ∨ j = 6 := by simpa using hj
          rcases hj' with rfl | rfl | rfl <;>
            exact ⟨_, rfl, xop_ldE rfl (RdR.of hxB) (fun q hq => hless _ _ _ (by have := hnX q hq; omega)) (by rw [Nat.mul_one]; have := hT7.row (i := i) (by omega); rwa [hr] at this)⟩
        · intro j hj
          obtain rfl : j = 6 := by simpa using hj
          refine ⟨_, rfl, rfl, fun i' hi' => ?_⟩
          have hi2 : i' = 0 ∨ i' = 1 ∨ i' = 2 ∨ i' = 3 ∨ i' = 4 ∨ i' = 5 ∨ i' = 6 := by omega
          rcases hi2 with rfl | rfl | rfl | rfl | rfl | rfl | rfl <;> exact ⟨_, rfl, (hBg _).trans (hc7' _ (by omega))⟩
        intro ct
        refine ⟨fun _ => ?_, fun q => absurd rfl q⟩
        repeat' (first | intro (_ : CleanTo _ _) | refine WK.exit ?_ | (apply WK.reg; (· exact lnn)) | refine WKO.nil ?_ | ((first | apply WKO.op); (· first | exact k_mv rfl | exact opA); (· rfl)) | refine pN ?_ | refine pX ?_ | refine bX ?_ | fail)
        have hna' : Ha.next = H7.next + 20 := by omega
        have hU := hT7.up (H' := Ha) (by omega) (fun q hq => hga q (by omega))
        have hP := hU.put (H' := Hb) (i := i) (j := i) (v := .sl (HB.next + 6) 0 1 1) (M := M) (by omega) (by omega) (by rw [hr]; exact (hga r (by omega)).trans m1) (by rw [hr, ← hHb, AHeap.get_set, if_pos rfl]) (by rw [← hHb]; rfl) (fun q hq => by rw [← hHb, AHeap.get_set, if_neg (hr ▸ hq)])
          (by rw [szF_self]; exact ⟨rfl, .inr (.inr ⟨HB.next + 6, 1, [.bool false, rowZ (dz 1)], none, rfl, by omega, hNa, rfl, Nat.le_refl _⟩)⟩) ⟨_, _, _, rfl, .inr ⟨Nat.le_refl _, by decide⟩⟩ (fun q hq => by
            cases hq
            refine ⟨fun e => ?_, fun e => ?_⟩
            · have := (hT7.lt _ e).2; omega
            · have := hnX _ e; omega)
        refine ⟨i + 1, (.cons rfl <| .cons rfl <| .cons rfl <| .cons rfl <| .cons rfl <| .cons rfl <| .cons rfl <| .nil _), ⟨(hP.same (fun a b _ _ => by unfold dn; omega)).up nxx (fun q _ => rfl), ?_, by omega⟩, by omega⟩
        rename_i cz
        exact cz.1 hc7'
      · have hi7 : i + L < n + 1 := by omega
        have hL0 : 0 < L := Nat.pos_of_ne_zero (by assumption)
        have hnX : ∀ q, X.own = some q → q < H7.next := fun q hq => hT7.x.own_lt hq
        obtain ⟨HB, hHB⟩ : ∃ HB, (((H7.bump 5).bump 4).bump 2) = HB := ⟨_, rfl⟩
        rw [hHB]
        have hBm : HB.m = H7.m := by rw [← hHB]; rfl
        have hBn : HB.next = H7.next + 11 := by rw [← hHB]; rfl
        have hcB : CleanTo H7 HB := by rw [← hHB]; exact (clean_bump _ 5).trans ((clean_bump _ 4).trans (clean_bump _ 2))
        clear hHB
        refine WKO.bsZ (z' := 2) (by rw [next_bump]; omega) ?_
        intro H8 hr8 hn8 hg8
        rw [next_bump] at hn8
        have hk8 : ∀ q, q < H7.next → H8.get q = H7.get q := fun q hq => (hg8 q (by omega)).trans (show HB.m.get q = _ by rw [hBm]; rfl)
        have hT8 := hT7.up (H' := H8) (by omega) hk8
        obtain ⟨M1, a1, a2, a3, a4⟩ := hT8.o (i + 1) (by omega)
        obtain ⟨u1, b1, b2, b3, b4⟩ := a3 (i + L) (by omega) (by unfold dn; omega)
        have hrow1 := hT8.row (i := i + 1) (by omega)
        have hx8 := hT8.x
        generalize hr1 : R.getD (i + 1) 0 = r1 at a1 hrow1
        repeat' (first | ((first | apply WKO.op); (· first | exact k_mv rfl | exact k_iaE rfl rfl (RdR.of hx8) (by omega) | (apply k_ld1; (· rfl); (· exact hx8); (· rfl); (· exact hrow1)) | exact k_ia1s rfl rfl (by omega) | (apply k_ldX; (· rfl); (· exact a1); (· exact b1)) | exact opA); (· rfl)) | fail)
        have hz0 : (szM may) (i + 1) (i + L) = sizesP may L i 0 := by
          rw [sizesP_zero]
          unfold szM
          rw [show i + L - (i + 1) = L - 1 by omega]
        have hlen1 := lenN_le may (L - 1) (i + 1)
        rw [hz0] at b2
        refine WKO.appR (z := 2) (len := 0) (cs := []) rfl rfl hr8 b2 (by decide) (zC_ones _) (by rw [sizesP_zero]; unfold lenN at hlen1; omega) (by decide) ?_
        intro v H9 r9 n9 g9 o9
        rw [Nat.zero_add, List.nil_append] at r9
        have hk9 : ∀ q, q < H7.next → H9.get q = H7.get q := fun q hq => (g9 q (by omega) (fun e => by simp only [AV.own, Option.some.injEq] at e; omega)).trans (hk8 q hq)
        have hT9 := hT7.up (H' := H9) (by omega) hk9
        have hv9 : ∀ q, v.own = some q → q ∉ R ∧ X.own ≠ some q := fun q hq => by
          have h1 : H7.next ≤ q := by
            rcases o9 q hq with e | e
            · simp only [AV.own, Option.some.injEq] at e; omega
            · omega
          exact ⟨fun hR => by have := (hT7.lt _ hR).2; omega, fun e => by have := hnX _ e; omega⟩
        clear hr8 hn8 hg8 hk8 hT8 a1 a2 a3 a4 b1 b2 b3 b4 hrow1 hx8 hr1 g9 o9
        repeat' (first | refine WK.seqC (by assumption) ?_ | intro (_ : CleanTo _ _) | refine WK.block ?_ | (apply WK.reg; (· exact lnn)) | refine WKO.nil ?_ | ((first | apply WKO.op); (· first | exact k_mv rfl | exact opA); (· rfl)) | refine pN ?_ | fail)
        rename_i cH9 cH9b
        have hc9 := cH9b.1 (cH9.1 (hcB.1 hc7'))
        clear cH9 cH9b
        refine WK.loop (α := Nat × AV) (fun t => [(0, .str s), (1, pairsI l), (2, .int .i64 gap), (7, nA n), (8, X), (10, nA L), (11, nA i), (12, nA (i + L)), (13, t.2), (14, nA (i + 1 + t.1))]) (fun t H' => TabH (szM may) n H X R (dn L i) H' ∧ Go.Eng.Clean H' ∧ RowE 2 H' t.2 (sizesP may L i t.1).length (zC (sizesP may L i t.1)) ∧ (∀ q, t.2.own = some q → q ∉ R ∧ X.own ≠ some q) ∧ t.1 ≤ L - 1) (fun t => L - t.1) (0, v) (.cons rfl <| .cons rfl <| .cons rfl <| .cons rfl <| .cons rfl <| .cons rfl <| .cons rfl <| .cons rfl <| .cons rfl <| .cons rfl <| .nil _) ⟨hT9.up nxx (fun q _ => rfl), hc9, r9.frame nxx (fun _ _ => rfl), hv9, Nat.zero_le _⟩ (by show L - 0 < fuel; omega) ?_
        rintro ⟨k, v⟩ H10 ⟨hT10, hc10, r10, o10, hk10⟩
        simp only at hT10 hc10 r10 o10 hk10 ⊢
        clear hv9 r9 hT9 hc9 hk9 n9
        refine WK.cl hcc ?_
        repeat' (first | refine WK.seqC (by assumption) ?_ | intro (_ : CleanTo _ _) | refine WK.skip ?_ | refine WK.exit ?_ | refine WK.block ?_ | (apply WK.reg; (· exact lnn)) | refine WKO.nil ?_ | ((first | apply WKO.op); (· first | exact k_mv rfl | exact opA); (· rfl)) | refine pN ?_ | refine pX ?_ | refine bX ?_ | (apply WK.condD; (· rfl); all_goals intro _) | fail)
        · rename_i ce cf1 cg ch
          have hkk : k + 1 < L := by omega
          refine WKO.callV rfl rfl rfl (show ∃ v' H', cf 53 [.str s, pairsI l, .int .i64 gap, nA i, nA (i + 1 + k)] ((H10.bump 3).bump 6) = some (v', H') ∧ (v' = .bool (may i (i + 1 + k)) ∧ H' = (H10.bump 3).bump 6) from ⟨_, _, h53 i (i + 1 + k) (by omega) (by omega) _, rfl, rfl⟩) ?_
          rintro _ _ ⟨rfl, rfl⟩
          have hT11 := hT10.up (H' := (H10.bump 3).bump 6) nxx (fun q _ => rfl)
          have r11 := r10.frame (H' := (H10.bump 3).bump 6) nxx (fun q _ => rfl)
          generalize hH11 : (H10.bump 3).bump 6 = H11 at hT11 r11 ⊢
          have hn11 : H10.next ≤ H11.next := by rw [← hH11]; simp only [next_bump]; omega
          have hc11 : Go.Eng.Clean H11 := by rw [← hH11]; exact (clean_bump _ 6).1 ((clean_bump _ 3).1 hc10)
          clear hT10 r10
          cases hm : may i (i + 1 + k) with
          | false =>
            repeat' (first | intro (_ : CleanTo _ _) | refine WK.skip ?_ | (apply WK.reg; (· exact lnn)) | refine WKO.nil ?_ | ((first | apply WKO.op); (· first | exact k_mv rfl | exact opA); (· rfl)) | refine pN ?_ | refine bN ?_ | (apply WK.condF; (· rfl); (· exact dcd)) | fail)
            refine ⟨(k + 1, v), (.cons rfl <| .cons rfl <| .cons rfl <| .cons rfl <| .cons rfl <| .cons rfl <| .cons rfl <| .cons rfl <| .cons rfl <| .cons rfl <| .nil _), ⟨hT11.up nxx (fun q _ => rfl), (clean_bump _ 3).1 hc11, ?_, o10, by show k + 1 ≤ L - 1; omega⟩, by show L - (k + 1) < L - k; omega⟩
            simp only
            rw [sizesP_succ, if_neg (by rw [hm]; simp)]
            exact r11.frame nxx (fun _ _ => rfl)
          | true =>
            obtain ⟨M1, a1, a2, a3, a4⟩ := hT11.o (i + 1) (by omega)
            obtain ⟨u1, b1, b2, b3, b4⟩ := a3 (i + 1 + k) (by omega) (by unfold dn; omega)
            obtain ⟨M2, d1, d2, d3, d4⟩ := hT11.o (i + 1 + k + 1) (by omega)
            obtain ⟨u2, e1, e2, e3, e4⟩ := d3 (i + L) (by omega) (by unfold dn; omega)
            have hrow1 := hT11.row (i := i + 1) (by omega)
            have hrow2 := hT11.row (i := i + 1 + k + 1) (by omega)
            have hx11 := hT11.x
            generalize hr1 : R.getD (i + 1) 0 = r1 at a1 hrow1
            generalize hr2 : R.getD (i + 1 + k + 1) 0 = r2 at d1 hrow2
            have hA : (szM may) (i + 1) (i + 1 + k) = sizesN may k (i + 1) := by unfold szM; rw [show i + 1 + k - (i + 1) = k by omega]
            have hB : (szM may) (i + 1 + k + 1) (i + L) = sizesN may (L - 2 - k) (i + 2 + k) := by unfold szM; rw [show i + L - (i + 1 + k + 1) = L - 2 - k by omega, show i + 1 + k + 1 = i + 2 + k by omega]
            have hsu := sizesP_succ may L i k
            rw [if_pos hm, ← hA, ← hB] at hsu
            have hsum := sizesP_sum may L i (k + 1) (by omega) (by omega) (by omega)
            rw [hsu, plusF_sum] at hsum
            have hbig := pow8 (n := L) (by omega)
            have hts := timesF_sum ((szM may) (i + 1) (i + 1 + k)) ((szM may) (i + 1 + k + 1) (i + L))
            have hAl : ((szM may) (i + 1) (i + 1 + k)).length ≤ 41 := by rw [hA]; have := lenN_le may k (i + 1); unfold lenN at this; omega
            have hBl : ((szM may) (i + 1 + k + 1) (i + L)).length ≤ 41 := by rw [hB]; have := lenN_le may (L - 2 - k) (i + 2 + k); unfold lenN at this; omega
            have hAp : 0 < ((szM may) (i + 1) (i + 1 + k)).length := by rw [hA]; exact sizesN_pos _ _ _
            have hBp : 0 < ((szM may) (i + 1 + k + 1) (i + L)).length := by rw [hB]; exact sizesN_pos _ _ _
            have hAs : ((szM may) (i + 1) (i + 1 + k)).sum < bigN := by rw [hA]; exact Nat.lt_of_le_of_lt (sizesN_sum _ _ _ (by omega)) (pow8 (by omega))
            have hBs : ((szM may) (i + 1 + k + 1) (i + L)).sum < bigN := by rw [hB]; exact Nat.lt_of_le_of_lt (sizesN_sum _ _ _ (by omega)) (pow8 (by omega))
            have hPl := lenP_le1 may L i k (by omega) (by omega)
            have hTl := timesF_len ((szM may) (i + 1) (i + 1 + k)) ((szM may) (i + 1 + k + 1) (i + L))
            generalize (szM may) (i + 1) (i + 1 + k) = sa at *
            generalize (szM may) (i + 1 + k + 1) (i + L) = sb at *
            repeat' (first | intro (_ : CleanTo _ _) | (apply WK.regd0; (· exact lnn)) | refine WKO.nil ?_ | ((first | apply WKO.op); (· first | exact k_mv rfl | exact k_iaE rfl rfl (RdR.of hx11) (by omega) | (apply k_ld1; (· rfl); (· exact hx11); (· rfl); (· exact hrow1)) | (apply k_ld1; (· rfl); (· exact hx11); (· rfl); (· exact hrow2)) | exact k_ia1s rfl rfl (by omega) | (apply k_ldX; (· rfl); (· exact a1); (· exact b1)) | (apply k_ldX; (· rfl); (· exact d1); (· exact e1)) | exact opA); (· rfl)) | refine pN ?_ | (apply WK.condT; (· rfl); (· exact dcd)) | fail)
            obtain ⟨w1, H12, q1, r12, k12⟩ := h55 u1 u2 sa sb (H11.bump 20) (b2.frame nxx (fun _ _ => rfl)) (e2.frame nxx (fun _ _ => rfl)) (by omega) (by omega) hAp hBp (by omega) hAs hBs
            have hx12 : ∀ q, X.own = some q → q < H11.next := fun q hq => hx11.own_lt hq
            have hk12 : ∀ q, q < H11.next → H12.get q = H11.get q := fun q hq => k12.2.1 q nxx
            have hn12 : H11.next ≤ H12.next := by have := k12.1; simp only [next_bump] at this; omega
            obtain ⟨w2, H13, q2, r13, k13⟩ := h54 v w1 (sizesP may L i k) (0 :: timesF sa sb) H12 (RdR.of (r11.frame hn12 (fun q hq => hk12 q (r11.own_lt hq)))) (RdR.of r12) (by omega) (by rw [List.length_cons, hTl]; split <;> omega) (by rw [List.sum_cons]; omega)
            rw [plus_moved, ← hsu] at r13
            refine WKO.callV rfl rfl rfl (show ∃ v' H', cf 55 [u1, u2] (H11.bump 20) = some (v', H') ∧ (v' = w1 ∧ H' = H12) from ⟨_, _, q1, rfl, rfl⟩) ?_
            rintro v5 H5 ⟨e5, e6⟩
            subst v5 H5
            refine WKO.callV rfl rfl rfl (show ∃ v' H', cf 54 [v, w1] H12 = some (v', H') ∧ (v' = w2 ∧ H' = H13) from ⟨_, _, q2, rfl, rfl⟩) ?_
            rintro v5 H5 ⟨e5, e6⟩
            subst v5 H5
            have hk13 : ∀ q, q < H11.next → H13.get q = H11.get q := fun q hq => (k13.2.1 q (by omega)).trans (hk12 q hq)
            have hn13 : H11.next ≤ H13.next := by have := k13.1; omega
            repeat' (first | intro (_ : CleanTo _ _) | (apply WK.reg; (· exact lnn)) | refine WKO.nil ?_ | ((first | apply WKO.op); (· first | exact k_mv rfl | exact opA); (· rfl)) | refine pN ?_ | refine bN ?_ | fail)
            rename_i cz
            refine ⟨(k + 1, w2), (.cons rfl <| .cons rfl <| .cons rfl <| .cons rfl <| .cons rfl <| .cons rfl <| .cons rfl <| .cons rfl <| .cons rfl <| .cons rfl <| .nil _), ⟨hT11.up nxx (fun q hq => (bump_get rfl q).trans (hk13 q hq)), cz.1 hc10, r13.frame nxx (fun _ _ => rfl), fun q hq => ?_, by show k + 1 ≤ L - 1; omega⟩, by show L - (k + 1) < L - k; omega⟩
            have h1 := k13.2.2 q hq
            exact ⟨fun hR => by have := (hT11.lt _ hR).2; omega, fun e => by have := hx12 q e; omega⟩
        · refine ⟨fun _ => ?_, fun q => absurd rfl q⟩
          have hkL : k = L - 1 := by omega
          subst hkL
          have hfin : (szM may) i (i + L) = sizesP may L i (L - 1) := by rw [szF_P _ (by omega), Nat.add_sub_cancel_left]
          obtain ⟨M, m1, m2, m3, m4⟩ := hT10.o i (by omega)
          have hm := mem_getD (R := R) (i := i) (by omega)
          have hrow := hT10.row (i := i) (by omega)
          have hx10 := hT10.x
          obtain ⟨Hb, hHb⟩ : ∃ Hb, ((H10.bump 3).bump 8).set (R.getD i 0) (some (.cells (M.set (i + L) v) none)) = Hb := ⟨_, rfl⟩
          repeat' (first | (apply WK.reg; (· exact lnn)) | ((first | apply WKO.op); (· first | exact k_mv rfl | exact k_iaE rfl rfl (RdR.of hx10) (by omega) | (apply k_ld1; (· rfl); (· exact hx10); (· rfl); (· exact hrow)) | exact k_ia1s rfl rfl (by omega)); (· rfl)) | fail)
          refine WKO.opn (v := undefA) (H1 := Hb) (k_any (by rw [← hHb]; exact store_one (j := i + L) rfl rfl r10.one m1 (by omega))) rfl ?_
          repeat' (first | intro (_ : CleanTo _ _) | (apply WK.reg; (· exact lnn)) | refine WKO.nil ?_ | ((first | apply WKO.op); (· first | exact k_mv rfl | exact opA); (· rfl)) | refine pN ?_ | refine bN ?_ | fail)
          rename_i cz
          have hU := hT10.up (H' := (H10.bump 3).bump 8) nxx (fun q _ => rfl)
          have hnb' : Hb.next = H10.next + 11 := by rw [← hHb]; rfl
          have hP := hU.put (H' := Hb) (i := i) (j := i + L) (v := v) (M := M) (by omega) (by omega) m1 (by rw [← hHb, AHeap.get_set, if_pos rfl]) (by rw [← hHb]; rfl) (fun q hq => by rw [← hHb, AHeap.get_set, if_neg hq])
            (by rw [hfin]; exact (RdR.of r10).frame nxx (fun _ _ => rfl)) (RowE.capOk r10 (by rw [← hfin]; exact sizesN_pos _ _ _)) o10
          exact ⟨i + 1, (.cons rfl <| .cons rfl <| .cons rfl <| .cons rfl <| .cons rfl <| .cons rfl <| .cons rfl <| .nil _), ⟨(hP.same (fun a b _ _ => by unfold dn; omega)).up nxx (fun q _ => rfl), cz.1 hc7', by omega⟩, by omega⟩
      · have hiL2 : i + L = n + 1 := by omega
        exact ⟨L + 1, (.cons rfl <| .cons rfl <| .cons rfl <| .cons rfl <| .cons rfl <| .cons rfl <| .nil _), ⟨(hT7.same (fun a b ha hb => by unfold dn; omega)).up nxx (fun q _ => rfl), (clean_bump _ 3).1 ((clean_bump _ 5).1 hc7'), by omega⟩, by omega⟩
    · have hLn2 : L = n + 1 := by omega
      exact ⟨fun _ q => (by cases q), _, rfl, R, hRl, (hT6.same (fun a b ha hb => by unfold dn; omega)).up nxx (fun q _ => rfl)⟩
end
end Go.Proofs.YtfcgofffalmdfaaGreatDoor.PA
namespace Go.Proofs.YtfcgofffalmdfaaGreatDoor.PA
open Go Go.Eng Go.Proofs
section
variable {cf : CF} {n : Nat} {H : AHeap} {l : KL0} {x y : XO} {a b : Int} {p : Nat}
theorem k_geqII (hx : evK l x = some (zA a)) (hy : evK l y = some (zA b)) : XV cf l H n (.bin .geq x y) = some (.bool (decide (a ≥ b)), H) := k_bin hx hy rfl
theorem k_leqII (hx : evK l x = some (zA a)) (hy : evK l y = some (zA b)) : XV cf l H n (.bin .leq x y) = some (.bool (decide (a ≤ b)), H) := k_bin hx hy rfl
theorem k_lss8 {c : Nat} (hx : evK l x = some (bA p)) : XV cf l H n (.bin .lss x (.k (.int .u8 (.ofNat c)))) = some (.bool (decide (p < c)), H) := by
  have h : XV cf l H n (.bin .lss x (.k (.int .u8 (.ofNat c)))) = some (.bool (decide ((p : Int) < (c : Int))), H) := k_bin hx rfl rfl
  rwa [show decide ((p : Int) < (c : Int)) = decide (p < c) from decide_eq_decide.2 Int.ofNat_lt] at h
theorem k_gtr8 {c : Nat} (hx : evK l x = some (bA p)) : XV cf l H n (.bin .gtr x (.k (.int .u8 (.ofNat c)))) = some (.bool (decide (p > c)), H) := by
  have h : XV cf l H n (.bin .gtr x (.k (.int .u8 (.ofNat c)))) = some (.bool (decide ((p : Int) > (c : Int))), H) := k_bin hx rfl rfl
  rwa [show decide ((p : Int) > (c : Int)) = decide (p > c) from decide_eq_decide.2 Int.ofNat_lt] at h
end
theorem in_ok {cf : CF} {fuel : Nat} {H : AHeap} {x a b : Int} : ∃ v H', xfunc cf fuel L50 [zA x, zA a, zA b] H = some (v, H') ∧ v = .bool (decide (a ≤ x ∧ x ≤ b)) ∧ H' = (H.bump 1).bump 9 := by
  refine xfunc_ofK rfl (by show 3 ≤ 15; omega) ?_
  unfold L50
  dsimp only
  repeat' (first | refine WK.seq ?_ | refine WK.ret ?_ | (apply WK.reg; (· exact lnn)) | refine WKO.nil ?_ | ((first | apply WKO.op | ((first | apply WKO.gop); (· rfl); (· exact dcd))); (· first | exact k_mv rfl | exact k_geqII rfl rfl | exact k_leqII rfl rfl | exact opA); (· rfl)) | ((first | apply WKO.gnoT); (· rfl); (· exact dcd)) | ((first | apply WKO.gsp); (· rfl); all_goals ((fail_if_success (refine known ?_ ?_; (· assumption))); intro _)) | refine pN ?_ | fail)
  · rename_i h
    exact ⟨fun id q => (by cases q), _, rfl, congrArg AV.bool (decide_eq_decide.2 ⟨fun q => ⟨h, q⟩, fun q => q.2⟩), rfl⟩
  · rename_i h
    exact ⟨fun id q => (by cases q), _, rfl, congrArg AV.bool (decide_eq_false (fun q => h q.1)).symm, rfl⟩
theorem badP_iff (p : Int × Int) : badP p = false ↔ (0 ≤ p.1 ∧ p.1 ≤ 3) ∧ 0 ≤ p.2 ∧ p.2 ≤ 3 := by
  simp only [badP, Bool.or_eq_false_iff, decide_eq_false_iff_not]
  omega
theorem any_take {α : Type} {p : α → Bool} {l : List α} {i : Nat} {x : α} (h : l[i]? = some x) (h1 : (l.take i).any p = false) (h2 : p x = false) : (l.take (i + 1)).any p = false := by
  rw [List.take_add_one, h, List.any_append, h1]
  simp [h2]
set_option maxHeartbeats 4000000 in
theorem rules_walk {cf : CF} {fuel : Nat} {H : AHeap} {s : List UInt8} {l : List (Int × Int)} {gap : Int} (hf : 1000 < fuel) (h50 : ∀ (x a b : Int) (H : AHeap), cf 50 [zA x, zA a, zA b] H = some (.bool (decide (a ≤ x ∧ x ≤ b)), (H.bump 1).bump 9)) :
    ∃ v H', xfunc cf fuel L15 [.str s, pairsI l, .int .i64 gap] H = some (v, H') ∧ v = zA (readE s l gap) := by
  refine xfunc_ofK rfl (by show 3 ≤ 58; omega) ?_
  have hr : ∀ {Hq : AHeap}, RdR 2 Hq (pairsI l) l.length (encPairs l) := RdR.imm (encPairs_length l)
  unfold L15
  dsimp only
  repeat' (first | refine WK.seq ?_ | refine WK.skip ?_ | refine WK.ret ?_ | refine WK.block ?_ | (apply WK.reg; (· exact lnn)) | refine WKO.nil ?_ | ((first | apply WKO.op | ((first | apply WKO.gop); (· rfl); (· exact dcd))); (· first | exact k_mv rfl | exact k_slen rfl | exact k_lenE rfl (hr (Hq := H)) | exact opA); (· rfl)) | ((first | apply WKO.gnoF); (· rfl); (· exact dcd)) | ((first | apply WKO.gsp); (· rfl); all_goals ((fail_if_success (refine known ?_ ?_; (· assumption))); intro _)) | refine pN ?_ | refine pR ?_ | (apply WK.condT; (· rfl); (· exact dcd)) | (apply WK.condD; (· rfl); all_goals intro _) | fail)
  · rename_i h
    exact ⟨fun id q => (by cases q), _, rfl, by unfold readE; rw [if_pos (.inl h)]; rfl⟩
  · rename_i h1 h2
    exact ⟨fun id q => (by cases q), _, rfl, by unfold readE; rw [if_pos (.inr h2)]; rfl⟩
  · rename_i h1 h2
    have h3 : ¬ (40 < s.length ∨ 16 < l.length) := by omega
    refine WK.loop (α := Nat) (fun i => [(0, .str s), (1, pairsI l), (2, .int .i64 gap), (7, nA i)]) (fun i H' => i ≤ l.length ∧ (l.take i).any badP = false) (fun i => l.length - i) 0 (.cons rfl <| .cons rfl <| .cons rfl <| .cons rfl <| .nil _) ⟨Nat.zero_le _, rfl⟩ (by show l.length - 0 < fuel; omega) ?_
    rintro i H1 ⟨hi, hb⟩
    by_cases hil : i < l.length
    · obtain ⟨p, hp⟩ : ∃ p, l[i]? = some p := ⟨_, List.getElem?_eq_getElem hil⟩
      obtain ⟨e1, e2⟩ := encP_get hp
      have hbad : ¬ badP p = false → readE s l gap = 1 := fun h => by
        unfold readE
        rw [if_neg h3, if_pos]
        exact List.any_eq_true.2 ⟨p, List.mem_of_getElem? hp, by simpa using h⟩
      repeat' (first | refine WK.seq ?_ | refine WK.skip ?_ | refine WK.ret ?_ | refine WK.block ?_ | (apply WK.reg; (· exact lnn)) | refine WKO.nil ?_ | ((first | apply WKO.op | ((first | apply WKO.gop); (· rfl); (· exact dcd))); (· first | exact k_mv rfl | exact k_lenE rfl (hr (Hq := H)) | exact k_iaM rfl rfl (by omega) | exact k_faP rfl | exact k_ldP rfl e1 | exact k_ldP rfl e2 | (apply k_call; (· rfl); (· rfl); (· exact h50 p.1 0 3 _)) | (apply k_call; (· rfl); (· rfl); (· exact h50 p.2 0 3 _)) | exact opA); (· rfl)) | ((first | apply WKO.gnoF); (· rfl); (· exact dcd)) | ((first | apply WKO.gsp); (· rfl); all_goals ((fail_if_success (refine known ?_ ?_; (· assumption))); intro _)) | refine pN ?_ | refine pR ?_ | refine bN ?_ | refine bR ?_ | (apply WK.condT; (· rfl); (· exact dcd)) | (apply WK.condD; (· rfl); all_goals intro _) | fail)
      · rename_i h
        exact ⟨fun id q => (by cases q), _, rfl, by rw [hbad (fun e => h ((badP_iff p).1 e).1)]; rfl⟩
      · rename_i h1 h2
        exact ⟨fun id q => (by cases q), _, rfl, by rw [hbad (fun e => h2 ((badP_iff p).1 e).2)]; rfl⟩
      · rename_i h1 h2
        exact ⟨i + 1, (.cons rfl <| .cons rfl <| .cons rfl <| .cons rfl <| .nil _), ⟨by omega, any_take hp hb ((badP_iff p).2 ⟨Decidable.not_not.1 h1, Decidable.not_not.1 h2⟩)⟩, by omega⟩
    · have hil2 : i = l.length := by omega
      rw [hil2, List.take_length] at hb
      repeat' (first | refine WK.seq ?_ | refine WK.skip ?_ | refine WK.ret ?_ | refine WK.exit ?_ | refine WK.block ?_ | (apply WK.reg; (· exact lnn)) | refine WKO.nil ?_ | ((first | apply WKO.op); (· first | exact k_mv rfl | exact k_lenE rfl (hr (Hq := H)) | (apply k_call; (· rfl); (· rfl); (· exact h50 gap 0 5 _)) | exact opA); (· rfl)) | refine pN ?_ | refine pR ?_ | refine pX ?_ | refine bX ?_ | (apply WK.condF; (· rfl); (· exact dcd)) | (apply WK.condD; (· rfl); all_goals intro _) | fail)
      · rename_i hg
        exact ⟨fun id q => (by cases q), _, rfl, by unfold readE; rw [if_neg h3, if_neg (by rw [hb]; decide), if_pos (by omega)]; rfl⟩
      · rename_i hg
        have hgg : ¬ (gap < 0 ∨ gap > 5) := by omega
        have hbad : ∀ i : Nat, i < s.length → ¬ inS (s.getD i 97) = true → readE s l gap = 2 := fun i hi h => by
          unfold readE
          rw [if_neg h3, if_neg (by rw [hb]; decide), if_neg hgg, if_neg]
          intro e
          refine h (List.all_eq_true.1 e _ ?_)
          rw [List.getD_eq_getElem?_getD, List.getElem?_eq_getElem hi]
          exact List.getElem_mem hi
        refine WK.loop (α := Nat) (fun i => [(0, .str s), (8, nA i)]) (fun i H' => i ≤ s.length ∧ (s.take i).all inS = true) (fun i => s.length - i) 0 (.cons rfl <| .cons rfl <| .nil _) ⟨Nat.zero_le _, rfl⟩ (by show s.length - 0 < fuel; omega) ?_
        rintro i H1 ⟨hi, ha⟩
        by_cases hil : i < s.length
        · repeat' (first | refine WK.seq ?_ | refine WK.skip ?_ | refine WK.ret ?_ | refine WK.block ?_ | (apply WK.reg; (· exact lnn)) | refine WKO.nil ?_ | ((first | apply WKO.op | ((first | apply WKO.gop); (· rfl); (· exact dcd))); (· first | exact k_mv rfl | exact k_slen rfl | exact k_sidx rfl rfl (by omega) | exact k_lss8 rfl | exact k_gtr8 rfl | exact opA); (· rfl)) | ((first | apply WKO.gnoF); (· rfl); (· exact dcd)) | ((first | apply WKO.gsp); (· rfl); all_goals ((fail_if_success (refine known ?_ ?_; (· assumption))); intro _)) | refine pN ?_ | refine pR ?_ | refine bN ?_ | refine bR ?_ | (apply WK.condT; (· rfl); (· exact dcd)) | (apply WK.condD; (· rfl); all_goals intro _) | fail)
          · rename_i h
            exact ⟨fun id q => (by cases q), _, rfl, by rw [hbad i hil (by unfold inS; simp only [Bool.and_eq_true, decide_eq_true_eq]; omega)]; rfl⟩
          · rename_i h4 h
            exact ⟨fun id q => (by cases q), _, rfl, by rw [hbad i hil (by unfold inS; simp only [Bool.and_eq_true, decide_eq_true_eq]; omega)]; rfl⟩
          · rename_i h4 h
            refine ⟨i + 1, (.cons rfl <| .cons rfl <| .nil _), ⟨by omega, ?_⟩, by omega⟩
            rw [List.take_add_one, List.getElem?_eq_getElem hil, List.all_append, ha]
            have e : s[i] = s.getD i 97 := by rw [List.getD_eq_getElem?_getD, List.getElem?_eq_getElem hil]; rfl
            simp only [Option.toList_some, List.all_cons, List.all_nil, Bool.and_true, Bool.true_and, e]
            unfold inS
            simp only [Bool.and_eq_true, decide_eq_true_eq]
            omega
        · have hil2 : i = s.length := by omega
          rw [hil2, List.take_length] at ha
          repeat' (first | refine WK.seq ?_ | refine WK.ret ?_ | refine WK.exit ?_ | (apply WK.reg; (· exact lnn)) | refine WKO.nil ?_ | ((first | apply WKO.op); (· first | exact k_mv rfl | exact k_slen rfl | exact opA); (· rfl)) | refine pN ?_ | refine pX ?_ | refine bX ?_ | (apply WK.condF; (· rfl); (· exact dcd)) | fail)
          exact ⟨fun id q => (by cases q), _, rfl, by unfold readE; rw [if_neg h3, if_neg (by rw [hb]; decide), if_neg hgg, if_pos ha]; rfl⟩
theorem E15 (s : List UInt8) (l : List (Int × Int)) (gap : Int) (H : AHeap) : KE 15 [.str s, pairsI l, .int .i64 gap] H = some (zA (readE s l gap), H) := by
  obtain ⟨v, H', h, rfl⟩ := rules_walk (cf := xcallK Kno F 3000 1) (fuel := 3000) (H := ⟨.e, 0⟩) (s := s) (l := l) (gap := gap) (by decide) (fun x a b H => by
    obtain ⟨v, H', q1, rfl, rfl⟩ := in_ok (cf := xcallK Kno F 3000 0) (fuel := 3000) (H := H) (x := x) (a := a) (b := b)
    exact (cfstep rfl rfl).trans q1)
  have hc := (xcallK_sound mixed Kno_ok F_ok 3000 2 15 _ _ _ _ ((cfstep rfl rfl).trans h)).pure (H := H) (by simp only [AV.frozL, pairs_froz, AV.froz, Bool.and_self]) (Fz.froz rfl)
  obtain ⟨v', q1, q2⟩ := KE_hit hc (fun s' l' g' e => by
    simp only [List.cons.injEq, AV.str.injEq, AV.int.injEq, and_true, true_and] at e
    obtain ⟨e1, e2, e3⟩ := e
    rw [e1, pairsI_inj e2, e3]
    rfl)
  rw [q1, q2 s l gap rfl]
  rfl
theorem E53 {s : List UInt8} {l : List (Int × Int)} {gap : Int} {i j : Nat} (hE : readE s l gap = 0) (hij : i < j) (hj : j < s.length) (H : AHeap) : KE 53 [.str s, pairsI l, .int .i64 gap, nA i, nA j] H = some (.bool (mayF s (rulesOf l) gap i j), H) := by
  obtain ⟨h1, h2, h3, _⟩ := readE_zero hE
  have h16 : l.length ≤ 16 := by
    refine Nat.le_of_not_lt fun h => ?_
    unfold readE at hE
    rw [if_pos (.inr h)] at hE
    cases hE
  obtain ⟨v, H', h, rfl, _⟩ := RMay_ok (cf := xcallK Kno F 3000 0) (fuel := 3000) (H := ⟨.e, 0⟩) (s := s) (l := l) (gap := gap) (i := i) (j := j) h3 h2 (by omega) hj hij (by omega) (by omega) (by omega)
  have hc := (xcallK_sound mixed Kno_ok F_ok 3000 1 53 _ _ _ _ ((cfstep rfl rfl).trans h)).pure (H := H) (by simp only [AV.frozL, pairs_froz, AV.froz, nA, Bool.and_self]) (Fz.froz rfl)
  obtain ⟨v', q1, q2⟩ := KE_hit hc (fun s' l' g' i' j' e => by
    simp only [List.cons.injEq, AV.str.injEq, AV.int.injEq, and_true, true_and] at e
    obtain ⟨e1, e2, e3, e4, e5⟩ := e
    rw [e1, pairsI_inj e2, e3, nA_inj e4, nA_inj e5])
  rw [q1, q2 s l gap i j rfl]
def cutI (cs : List AV) (len m : Nat) : AV := if len = 0 then .imm [] 0 false else .imm cs m (false && decide (m = len))
theorem cut_imm {ev : XO → Option AV} {x : XO} {cs : List AV} {len m z : Nat} (hm : m ≤ len) (hx : ev x = some (nA m)) : cutA ev z (.imm cs len false) none (some x) none = some (cutI cs len m) := by
  have hb : bndA len (nA m) = some m := bndA_nat hm
  unfold cutI
  by_cases h0 : len = 0
  · subst h0
    simp only [cutA, bounds, obnd, hiBnd, hx, Option.bind_some, hb]
    simp
  · rw [if_neg h0]
    simp only [cutA, bounds, obnd, hiBnd, hx, Option.bind_some, hb]
    rw [if_neg (fun e => h0 e.symm)]
    simp
theorem cutI_src {H' : AHeap} {cs : List AV} {len m z : Nat} (hcl : cs.length = len * z) (hm : m ≤ len) : lenA (cutI cs len m) = some m ∧ srcA H' z m (cutI cs len m) = some (cs.take (m * z)) := by
  unfold cutI
  by_cases h0 : len = 0
  · subst h0
    rw [Nat.zero_mul] at hcl
    have : cs = [] := List.eq_nil_of_length_eq_zero hcl
    subst this
    have : m = 0 := by omega
    subst this
    rw [if_pos rfl]
    exact ⟨rfl, by simp [srcA]⟩
  · have hmz : m * z ≤ cs.length := by rw [hcl]; exact Nat.mul_le_mul_right _ hm
    rw [if_neg h0]
    refine ⟨rfl, ?_⟩
    simp only [srcA]
    rw [if_pos hmz]
theorem k_cut {cf : CF} {n z : Nat} {H : AHeap} {l : KL0} {x y : XO} {v w : AV} (hx : evK l x = some v) (h : cutA (evK l) z v none (some y) none = some w) : XV cf l H n (.cut z x none (some y) none) = some (w, H) := k_any (by simp only [xval, xop, hx, Option.bind_some, h, AR.ofV])
theorem encPairs_take (l : List (Int × Int)) (m : Nat) : (encPairs l).take (m * 2) = encPairs (l.take m) := by
  conv => lhs; rw [← List.take_append_drop m l, encPairs_app]
  by_cases h : m ≤ l.length
  · rw [List.take_append_of_le_length (by rw [encPairs_len, List.length_take]; omega), List.take_of_length_le (by rw [encPairs_len, List.length_take]; omega)]
  · rw [List.drop_of_length_le (by omega)]
    show ((encPairs (l.take m)) ++ []).take (m * 2) = _
    rw [List.append_nil, List.take_of_length_le (by rw [encPairs_len, List.length_take]; omega)]
theorem few_walk (l0 : List (Int × Int)) (gap : Int) : ∃ v H', xfunc (xcallK Kno F 3000 0) 3000 L12 [.agg [pairsI l0, .int .i64 gap]] ⟨.e, 0⟩ = some (v, H') ∧ ∃ u, v = .tup [u, .int .i64 gap] ∧ RowE 2 H' u (l0.take 17).length (encPairs (l0.take 17)) := by
  refine xfunc_ofK rfl (by show 1 ≤ 15; omega) ?_
  have hF := HF.start ⟨.e, 0⟩
  have hcl : Go.Eng.Clean ⟨.e, 0⟩ := fun j _ => get_e0 j
  have hcc : CleanCF (xcallK Kno F 3000 0) := xcallK_clean (fun _ _ _ _ _ h => by cases h) 0
  generalize (⟨.e, 0⟩ : AHeap) = H at hF hcl ⊢
  unfold L12
  dsimp only
  repeat' (first | refine WK.seqC (by assumption) ?_ | intro (_ : CleanTo _ _) | (apply WK.reg; (· exact lnn)) | (apply WKO.boxO; (· rfl); (· assumption); (· rfl); (· exact nxx); (· exact nxx); (· exact nxx); intro _ _ _) | refine WKO.nil ?_ | ((first | apply WKO.op); (· first | exact k_mv rfl); (· rfl)) | refine pN ?_ | fail)
  rename_i H1 hF1 hn1 hc1
  have hC1 : Go.Eng.Clean H1 := hc1.1 hcl
  have g1 : H1.get H.next = some (.cells [pairsI l0, .int .i64 gap] none) := hF1.obj _ (.head _)
  have l1 : H.next < H1.next := by rw [hn1, next_bump]; omega
  clear hF hF1 hc1
  refine WK.regT (k := 13) rfl ?_
  obtain ⟨Ha, hHa⟩ : ∃ Ha, (H1.bump 13).set H1.next (some (.cells [] none)) = Ha := ⟨_, rfl⟩
  have hna : Ha.next = H1.next + 13 := by rw [← hHa]; rfl
  have hga : ∀ k, k ≠ H1.next → Ha.get k = H1.get k := fun k hk => by rw [← hHa, AHeap.get_set, if_neg hk]; rfl
  have hNa : Ha.get H1.next = some (.cells [] none) := by rw [← hHa, AHeap.get_set, if_pos rfl]
  have hEa : RowE 2 Ha (.sl H1.next 0 0 0) 0 [] := .inr ⟨rfl, rfl, H1.next, rfl, by omega, hNa⟩
  have hmin : (l0.take 17).length = min l0.length 17 := by rw [List.length_take, Nat.min_comm]
  obtain ⟨c2, c3⟩ := cutI_src (H' := Ha) (z := 2) (cs := encPairs l0) (encPairs_length l0) (Nat.min_le_left l0.length 17)
  rw [encPairs_take, show l0.take (min l0.length 17) = l0.take 17 from by
      rcases Nat.le_total l0.length 17 with h | h
      · rw [Nat.min_eq_left h, List.take_of_length_le h, List.take_of_length_le (Nat.le_refl _)]
      · rw [Nat.min_eq_right h]] at c3
  have hcut : ∀ {n : Nat} {K : KL0} {x y : XO}, evK K x = some (pairsI l0) → evK K y = some (nA (min l0.length 17)) → XV (xcallK Kno F 3000 0) K Ha n (.cut 2 x none (some y) none) = some (cutI (encPairs l0) l0.length (min l0.length 17), Ha) := fun hx hy => k_cut hx (cut_imm (Nat.min_le_left l0.length 17) hy)
  generalize cutI (encPairs l0) l0.length (min l0.length 17) = Y at c2 c3 hcut
  obtain ⟨v3, H3, e3, R3, hn3, hg3, ho3⟩ := hEa.app0 (bytes := 16) (n := min l0.length 17) (y := Y) (new := encPairs (l0.take 17)) (by omega) (by omega) (by omega) c2 c3 (by rw [encPairs_len, hmin]) (encPairs_ones _)
  rw [Nat.zero_add, List.nil_append, ← hmin] at R3
  have hlen : ∀ {n : Nat} {K : KL0} {x : XO}, evK K x = some (pairsI l0) → XV (xcallK Kno F 3000 0) K Ha n (.len x) = some (nA l0.length, Ha) := fun hx => k_lenE hx (RdR.imm (H := Ha) (encPairs_length l0))
  refine WKT.op (v := .sl H1.next 0 0 0) (H1 := Ha) (by rw [← hHa]; exact k_bs0) rfl ?_
  repeat' (first | ((first | apply WKT.op); (· first | exact k_faddr rfl | (apply k_ldX; (· rfl); (· exact (hga _ (by omega)).trans g1); (· rfl)) | exact hlen rfl | exact k_mnN rfl rfl | exact hcut rfl rfl); (· rfl)) | fail)
  refine WKT.op (v := v3) (H1 := H3) (k_app rfl rfl e3) rfl ?_
  have h3b : ∀ {H' : AHeap}, H'.m = H3.m → H'.get H.next = some (.cells [pairsI l0, .int .i64 gap] none) := fun q => (show (_ : AHeap).m.get H.next = _ by rw [q]; exact (hg3 _ (by omega) (fun e => by simp only [AV.own, Option.some.injEq] at e; omega)).trans ((hga _ (by omega)).trans g1))
  repeat' (first | refine WKT.nil ?_ | ((first | apply WKT.op); (· first | exact k_mv rfl | exact k_faddr rfl | (apply k_ldX; (· rfl); (· exact h3b rfl); (· rfl))); (· rfl)) | fail)
  have hless : ∀ (Hq : AHeap) (l : List Nat) (k : Nat), k < H1.next → ((Hq.less H1.next [0]).less H1.next l).get k = Hq.get k := fun Hq l k hk => by rw [less_get (H := Hq) l _ (fun i _ => by omega), less_get (H := Hq) [0] _ (fun i _ => by omega)]
  refine ⟨?_, ?_, (_, H3), rfl, ?_⟩
  · intro q hq
    have hq' : q = (2, [], [0]) ∨ q = (4, [], [0]) ∨ q = (10, [8], [0]) := by simpa using hq
    have ga : ∀ (Hq : AHeap), Hq.m = Ha.m → ∀ l, ((Hq.less H1.next [0]).less H1.next l).get H.next = some (.cells [pairsI l0, .int .i64 gap] none) := fun Hq hq l => (hless _ _ _ (by omega)).trans ((show Hq.m.get H.next = _ by rw [hq]; rfl).trans ((hga _ (by omega)).trans g1))
    have gb : ∀ (Hq : AHeap), Hq.m = H3.m → ∀ l, ((Hq.less H1.next [0]).less H1.next l).get H.next = some (.cells [pairsI l0, .int .i64 gap] none) := fun Hq hq l => (hless _ _ _ (by omega)).trans (h3b hq)
    rcases hq' with rfl | rfl | rfl
    · refine ⟨_, _, _, _, pairsI l0, rfl, rfl, rfl, xop_ld rfl ((hga _ (by omega)).trans g1) rfl, fun j hj => ?_⟩
      obtain rfl : j = 2 := by simpa using hj
      exact ⟨_, rfl, xop_ld rfl (ga _ rfl _) rfl⟩
    · refine ⟨_, _, _, _, pairsI l0, rfl, rfl, rfl, xop_ld rfl ((hga _ (by omega)).trans g1) rfl, fun j hj => ?_⟩
      obtain rfl : j = 4 := by simpa using hj
      exact ⟨_, rfl, xop_ld rfl (ga _ rfl _) rfl⟩
    · refine ⟨_, _, _, _, .int .i64 gap, rfl, rfl, rfl, xop_ld rfl (h3b rfl) rfl, fun j hj => ?_⟩
      have hj' : j = 10 ∨ j = 8 ∨ j = 9 := by simpa using hj
      rcases hj' with rfl | rfl | rfl
      · exact ⟨_, rfl, xop_ld rfl (gb _ rfl _) rfl⟩
      · exact ⟨_, rfl, xop_ld rfl (ga _ rfl _) rfl⟩
      · exact ⟨_, rfl, xop_ld rfl (gb _ rfl _) rfl⟩
  · intro j hj
    obtain rfl : j = 0 := by simpa using hj
    refine ⟨_, rfl, rfl, fun i hi => ?_⟩
    obtain rfl : i = 0 := by omega
    exact ⟨_, rfl, (show (H1.bump 13).get H1.next = _ from hC1 _ (Nat.le_refl _))⟩
  · intro _
    refine ⟨fun _ => ?_, fun q => absurd rfl q⟩
    clear hcc
    repeat' (first | refine WK.ret ?_ | fail)
    exact ⟨fun id q => (by cases q), _, rfl, v3, rfl, R3.frame nxx (fun _ _ => rfl)⟩
theorem few_pure (l : List (Int × Int)) (gap : Int) (H : AHeap) : CallOK Tryz.prog 12 [.agg [pairsI l, .int .i64 gap]] H (.tup [pairsI (l.take 17), .int .i64 gap]) H := by
  obtain ⟨v, H', h, u, rfl, hR⟩ := few_walk l gap
  have h2 := xcallK_sound mixed Kno_ok F_ok 3000 1 12 _ _ _ _ ((cfstep rfl rfl).trans h)
  refine h2.pure (by simp only [AV.frozL, AV.froz, pairs_froz, Bool.and_self]) (.tup rfl (fun j x y hx hy => ?_))
  match j, hx, hy with
  | 0, hx, hy => cases hx; cases hy; exact pairsI_fz hR (fun i _ => get_e0 i)
  | 1, hx, hy => cases hx; cases hy; exact .int _ _
noncomputable def KV : CF := fun f args H => if f ∈ [13, 17, 36, 37, 38, 54, 55, 75] then none else match f, args with
  | 12, [.agg [P, .int .i64 gap]] => (unP P).map fun l => (.tup [pairsI (l.take 17), .int .i64 gap], H)
  | 16, [] => some (.bool true, H)
  | 25, [.str s, P, .int .i64 gap] => (unP P).map fun l => (.tup [nA (MostV s l gap).1, .int .i64 (MostV s l gap).2], H)
  | 31, [.str s, P, .int .i64 gap] => (unP P).map fun l => (.tup [strI (SizesV s l gap).1, .int .i64 (SizesV s l gap).2], H)
  | 26, [.str s, P, .int .i64 gap] => (unP P).map fun l => (.tup [.str (AllV s l gap).1, .int .i64 (AllV s l gap).2], H)
  | _, _ => KE f args H
theorem KV_ok : CFok Tryz.prog KV := by
  intro f args H v H' h
  unfold KV at h
  split at h
  · cases h
  · split at h
    · obtain ⟨l, h1, h2⟩ := Option.map_eq_some_iff.1 h
      cases h2
      rw [unP_some h1]
      exact few_pure l _ H
    · cases h
      exact lives_call H
    · obtain ⟨l, h1, h2⟩ := Option.map_eq_some_iff.1 h
      cases h2
      rw [unP_some h1]
      exact Most_pure _ l _ H
    · obtain ⟨l, h1, h2⟩ := Option.map_eq_some_iff.1 h
      cases h2
      rw [unP_some h1]
      exact Sizes_call _ l _ H
    · obtain ⟨l, h1, h2⟩ := Option.map_eq_some_iff.1 h
      cases h2
      rw [unP_some h1]
      exact All_call _ l _ H
    · exact KE_ok _ _ _ _ _ h
theorem KV_still : Still KV := by
  intro f args H v H' h
  unfold KV at h
  split at h
  · cases h
  · split at h
    · obtain ⟨l, h1, h2⟩ := Option.map_eq_some_iff.1 h
      cases h2; rfl
    · cases h; rfl
    · obtain ⟨l, h1, h2⟩ := Option.map_eq_some_iff.1 h
      cases h2; rfl
    · obtain ⟨l, h1, h2⟩ := Option.map_eq_some_iff.1 h
      cases h2; rfl
    · obtain ⟨l, h1, h2⟩ := Option.map_eq_some_iff.1 h
      cases h2; rfl
    · exact KE_still _ _ _ _ _ h
theorem KV_none {f : Nat} {args : List AV} {H : AHeap} (h : f ∈ [13, 17, 36, 37, 38, 54, 55, 75]) : KV f args H = none := by
  unfold KV
  rw [if_pos h]
theorem KV_E {f : Nat} {args : List AV} {H : AHeap} {r : AV × AHeap} (h : KE f args H = some r) (h1 : f ∉ [12, 13, 17, 36, 37, 38, 54, 55, 75]) (h2 : f ∉ [24, 16, 25, 31, 26]) : KV f args H = some r := by
  unfold KV
  rw [if_neg (fun e => h1 (List.mem_cons_of_mem _ e))]
  split
  · exact absurd (by decide) h1
  · exact absurd (by decide) h2
  · exact absurd (by decide) h2
  · exact absurd (by decide) h2
  · exact absurd (by decide) h2
  · exact h
theorem KV_few (l : List (Int × Int)) (gap : Int) (H : AHeap) : KV 12 [.agg [pairsI l, .int .i64 gap]] H = some (.tup [pairsI (l.take 17), .int .i64 gap], H) := by
  unfold KV
  rw [if_neg (by decide)]
  show (unP (pairsI l)).map _ = _
  rw [unP_V]
  rfl
def cutS (x : List UInt8) (m : Nat) : List UInt8 := x.take (if x.length > 40 then 41 else m)
theorem cut_walk {cf : CF} {fuel : Nat} {H : AHeap} {x : List UInt8} {m : Nat} : ∃ v H', xfunc cf fuel L13 [.str x, nA m] H = some (v, H') ∧ v = .str (cutS x m) ∧ H'.m = H.m ∧ H.next ≤ H'.next := by
  refine xfunc_ofK rfl (by show 2 ≤ 14; omega) ?_
  have e : ∀ k, x.take (min x.length k) = x.take k := fun k => by
    rcases Nat.le_total x.length k with h | h
    · rw [Nat.min_eq_left h, List.take_of_length_le h, List.take_of_length_le (Nat.le_refl _)]
    · rw [Nat.min_eq_right h]
  unfold L13
  dsimp only
  repeat' (first | refine WK.seq ?_ | refine WK.skip ?_ | refine WK.ret ?_ | (apply WK.reg; (· exact lnn)) | refine WKO.nil ?_ | ((first | apply WKO.op); (· first | exact k_mv rfl | exact k_slen rfl | exact k_mnN rfl rfl | exact k_scT rfl rfl (Nat.min_le_left _ _) | exact opA); (· rfl)) | refine pN ?_ | (apply WK.condD; (· rfl); all_goals intro _) | fail)
  · rename_i h
    exact ⟨fun id q => (by cases q), _, rfl, by unfold cutS; rw [if_pos h, ← e 41, ← e (min x.length 41)]; rfl, rfl, nxx⟩
  · rename_i h
    exact ⟨fun id q => (by cases q), _, rfl, by unfold cutS; rw [if_neg h, ← e m, ← e (min x.length m)]; rfl, rfl, nxx⟩
def topN (b : List Nat) : Nat → Nat
  | 0 => 0
  | k + 1 => if b.getD (k + 1) 0 = 0 then topN b k else k + 1
theorem top_walk {cf : CF} {fuel : Nat} {H : AHeap} {X : AV} {b : List Nat} (hX : RdR 2 H X b.length (zC b)) (h0 : 0 < b.length) (hl : b.length < 400) (hf : 1000 < fuel) (h109 : ∀ n H, cf 109 [zN n] H = some (nA (min n 1), H)) :
    ∃ v H', xfunc cf fuel L75 [X] H = some (v, H') ∧ v = nA (topN b (b.length - 1)) ∧ H'.m = H.m ∧ H.next ≤ H'.next := by
  refine xfunc_ofK rfl (by show 1 ≤ 18; omega) ?_
  have hsub : ∀ {n : Nat} {Hq : AHeap} {K : KL0} {x : XO}, evK K x = some (nA b.length) → XV cf K Hq n (.bin .sub x (.k (.int .i64 (.ofNat 1)))) = some (nA (b.length - 1), Hq) := fun hx => k_subN (b := 1) hx rfl (by omega) (by omega)
  unfold L75
  dsimp only
  repeat' (first | refine WK.seq ?_ | refine WK.block ?_ | (apply WK.reg; (· exact lnn)) | refine WKO.nil ?_ | ((first | apply WKO.op); (· first | exact k_mv rfl | exact k_lenE rfl hX | exact hsub rfl); (· rfl)) | refine pN ?_ | fail)
  refine WK.loop (α := Nat) (fun i => [(0, X), (3, nA i)]) (fun i H' => H'.m = H.m ∧ H.next ≤ H'.next ∧ i < b.length ∧ topN b i = topN b (b.length - 1)) (fun i => i) (b.length - 1) (.cons rfl <| .cons rfl <| .nil _) ⟨rfl, nxx, by omega, rfl⟩ (by omega) ?_
  rintro i H1 ⟨hm, hn, hi, ht⟩
  have hsub2 : i > 0 → ∀ {n : Nat} {Hq : AHeap} {K : KL0} {x : XO}, evK K x = some (nA i) → XV cf K Hq n (.bin .sub x (.k (.int .i64 (.ofNat 1)))) = some (nA (i - 1), Hq) := fun h => fun hx => k_subN (b := 1) hx rfl (by omega) (by omega)
  repeat' (first | refine WK.seq ?_ | refine WK.skip ?_ | refine WK.ret ?_ | refine WK.exit ?_ | refine WK.block ?_ | (apply WK.reg; (· exact lnn)) | refine WKO.nil ?_ | ((first | apply WKO.op); (· first | exact k_mv rfl | exact k_iaE rfl rfl hX (by omega) | (apply k_ldZI; (· rfl); (· exact hX); (· exact hm); (· omega)) | (apply k_call; (· rfl); (· rfl); (· exact h109 _ _)) | exact hsub2 (by assumption) rfl | exact opA); (· rfl)) | refine pN ?_ | refine pR ?_ | refine pX ?_ | refine bN ?_ | refine bR ?_ | refine bX ?_ | (apply WK.condD; (· rfl); all_goals intro _) | fail)
  · rename_i h1 h2
    have e : topN b i = i := by
      cases i with
      | zero => rfl
      | succ k => unfold topN; rw [if_neg (by omega)]
    exact ⟨fun id q => (by cases q), _, rfl, by rw [← ht, e]; rfl, hm, nxx⟩
  · rename_i h1 h2
    have e : topN b i = topN b (i - 1) := by
      cases i with
      | zero => rfl
      | succ k => rw [topN, if_pos (by omega)]; rfl
    exact ⟨i - 1, (.cons rfl <| .cons rfl <| .nil _), ⟨hm, nxx, by omega, by rw [← ht, e]⟩, by omega⟩
  · have h0 : i = 0 := by omega
    subst h0
    exact ⟨fun id q => (by cases q), _, rfl, by rw [← ht]; rfl, hm, nxx⟩
theorem topN_last {b : List Nat} (h : b.getD (b.length - 1) 0 ≠ 0) : topN b (b.length - 1) = b.length - 1 := by
  generalize b.length - 1 = k at h
  cases k with
  | zero => rfl
  | succ k => rw [topN, if_neg h]
end Go.Proofs.YtfcgofffalmdfaaGreatDoor.PA
namespace Go.Proofs.YtfcgofffalmdfaaGreatDoor.PA
open Go Go.Eng Go.Proofs
theorem cut_ok {H : AHeap} {v : AV} {len z : Nat} {cs : List AV} (h : RdR z H v len cs) (hc : CapOk v) : ∃ w, (∀ (ev : XO → Option AV) (x : XO), ev x = some (nA len) → cutA ev z v none (some x) none = some w) ∧ RdR z H w len cs := by
  obtain ⟨i, l, c, rfl, hc⟩ := hc
  obtain ⟨h0, ⟨f, h⟩ | ⟨h, _⟩ | ⟨j, c', full, opn, e, h1, h2, h3, h4⟩⟩ := h
  · cases h
  · cases h
  · cases e
    rcases hc with rfl | ⟨hc1, hc2⟩
    · refine ⟨.sl i 0 len (openCap), fun ev x hx => ?_, h0, .inr (.inr ⟨i, _, full, opn, rfl, h1, h2, h3, h4⟩)⟩
      have hb : bndA len (nA len) = some len := bndA_nat (Nat.le_refl len)
      simp only [cutA]
      rw [if_neg (by decide)]
      simp only [bounds, obnd, hiBnd, hx, Option.bind_some, hb, Nat.zero_mul, Nat.add_zero, Nat.sub_zero]
      rw [if_pos (by decide)]
    · refine ⟨.sl i 0 len c, fun ev x hx => ?_, h0, .inr (.inr ⟨i, _, full, opn, rfl, h1, h2, h3, h4⟩)⟩
      have hb : bndA c (nA len) = some len := bndA_nat hc1
      simp only [cutA]
      rw [if_pos hc2, if_pos hc1]
      simp only [bounds, obnd, hiBnd, hx, Option.bind_some, hb, Nat.zero_mul, Nat.add_zero, Nat.sub_zero]
      split <;> rfl
set_option maxHeartbeats 4000000 in
theorem sizesT_walk {cf : CF} {fuel n : Nat} {sz : Nat → Nat → List Nat} {H0 H : AHeap} {X : AV} {R : List Nat} (hT : TabH sz n H0 X R (fun i j => i ≤ j) H) (hRl : R.length = n + 1) (hn : n ≤ 40) (hpos : 0 < (sz 0 n).length) (hl : (sz 0 n).length < 400) (hlast : (sz 0 n).getD ((sz 0 n).length - 1) 0 ≠ 0)
    (h75 : ∀ (X : AV) (b : List Nat) (H : AHeap), RdR 2 H X b.length (zC b) → 0 < b.length → b.length < 400 → ∃ v H', cf 75 [X] H = some (v, H') ∧ v = nA (topN b (b.length - 1)) ∧ H'.m = H.m ∧ H.next ≤ H'.next) :
    ∃ v H', xfunc cf fuel L36 [X] H = some (v, H') ∧ RdR 2 H' v (sz 0 n).length (zC (sz 0 n)) ∧ H'.m = H.m ∧ H.next ≤ H'.next := by
  refine xfunc_ofK rfl (by show 1 ≤ 22; omega) ?_
  have hx := hT.x
  obtain ⟨M, a1, a2, a3, a4⟩ := hT.o 0 (by omega)
  obtain ⟨u, b1, b2, b3, b4⟩ := a3 n (by omega) (Nat.zero_le _)
  have hrow := hT.row (i := 0) (by omega)
  generalize hr : R.getD 0 0 = r at a1 hrow
  have hsub : ∀ {q : Nat} {Hq : AHeap} {K : KL0} {x : XO}, evK K x = some (nA R.length) → XV cf K Hq q (.bin .sub x (.k (.int .i64 (.ofNat 1)))) = some (nA n, Hq) := fun {q Hq K x} hx => by
    have := k_subN (cf := cf) (n := q) (H := Hq) (b := 1) (y := .k (.int .i64 (.ofNat 1))) hx rfl (by omega) (by omega)
    rwa [hRl, Nat.add_sub_cancel] at this
  unfold L36
  dsimp only
  repeat' (first | refine WK.seq ?_ | (apply WK.reg; (· exact lnn)) | refine WKO.nil ?_ | ((first | apply WKO.op); (· first | exact k_mv rfl); (· rfl)) | refine pN ?_ | fail)
  refine WK.regT (k := 20) rfl ?_
  repeat' (first | ((first | apply WKT.op); (· first | exact k_mv rfl | exact k_iaE (a := 0) rfl rfl (RdR.of hx) (by omega) | (apply k_ld1 (j := 0); (· rfl); (· exact hx); (· rfl); (· exact hrow)) | exact k_lenE rfl (RdR.of hx) | exact hsub rfl | exact k_ia1s rfl rfl (by omega) | (apply k_ldX; (· rfl); (· exact a1); (· exact b1))); (· rfl)) | fail)
  have hm : ∀ {Hq : AHeap}, Hq.m = H.m → ∀ q, Hq.get q = H.get q := fun e q => (show (_ : AHeap).m.get q = _ by rw [e]; rfl)
  have hl1 : (sz 0 n).length - 1 + 1 = (sz 0 n).length := by omega
  refine WKT.callV rfl rfl rfl (h75 u (sz 0 n) ((H.bump 1).bump 20) (b2.frame (by simp only [next_bump]; omega) (fun _ _ => rfl)) hpos hl) ?_
  rintro v3 H3 ⟨rfl, m3, n3⟩
  have m3' : H3.m = H.m := m3
  rw [topN_last hlast]
  have hadd : ∀ {q : Nat} {Hq : AHeap} {K : KL0} {x : XO}, evK K x = some (nA ((sz 0 n).length - 1)) → XV cf K Hq q (.bin .add x (.k (.int .i64 (.ofNat 1)))) = some (nA (sz 0 n).length, Hq) := fun {q Hq K x} hx => by
    have := k_addN (cf := cf) (n := q) (H := Hq) (b := 1) (y := .k (.int .i64 (.ofNat 1))) hx rfl (by omega)
    rwa [hl1] at this
  repeat' (first | ((first | apply WKT.op); (· first | exact hadd rfl); (· rfl)) | fail)
  obtain ⟨w, hw1, hw2⟩ := cut_ok b2 b3
  have hcut : ∀ {q : Nat} {Hq : AHeap} {K : KL0} {x y : XO}, evK K x = some u → evK K y = some (nA (sz 0 n).length) → XV cf K Hq q (.cut 2 x none (some y) none) = some (w, Hq) := fun hx hy => k_cut hx (hw1 _ _ hy)
  repeat' (first | refine WKT.nil ?_ | ((first | apply WKT.op); (· first | exact k_mv rfl | exact hcut rfl rfl); (· rfl)) | fail)
  refine ⟨?_, fun j hj => (by cases hj), (_, H3), rfl, ?_⟩
  · intro q hq
    have hq' : q = (2, [16], []) ∨ q = (7, [16], []) := by simpa using hq
    have lr : ∀ {Hq : AHeap}, Hq.m = H.m → ∀ {ev : XO → Option AV} {q : Nat} {x : XO}, ev x = some (adE X (0 * 1)) → xop ev Hq q (.load none x) = .v (.sl r 0 (n + 1) (n + 1)) := fun e _ _ _ hx' => xop_ldE hx' (RdR.of hx) (fun q _ => hm e q) hrow
    have lc : ∀ {Hq : AHeap}, Hq.m = H.m → ∀ {ev : XO → Option AV} {q : Nat} {x : XO}, ev x = some (.ptr r n) → xop ev Hq q (.load none x) = .v u := fun e _ _ _ hx' => xop_ld hx' ((hm e r).trans a1) b1
    rcases hq' with rfl | rfl
    · refine ⟨_, _, _, _, .sl r 0 (n + 1) (n + 1), rfl, rfl, rfl, lr (q := 0) rfl rfl, fun j hj => ?_⟩
      have hj' : j = 2 ∨ j = 16 ∨ j = 17 := by simpa using hj
      rcases hj' with rfl | rfl | rfl
      · exact ⟨_, rfl, lr (q := 0) rfl rfl⟩
      · exact ⟨_, rfl, lr (q := 0) rfl rfl⟩
      · exact ⟨_, rfl, lr (q := 0) m3' rfl⟩
    · refine ⟨_, _, _, _, u, rfl, rfl, rfl, lc (q := 0) rfl rfl, fun j hj => ?_⟩
      have hj' : j = 7 ∨ j = 16 ∨ j = 17 := by simpa using hj
      rcases hj' with rfl | rfl | rfl
      · exact ⟨_, rfl, lc (q := 0) rfl rfl⟩
      · exact ⟨_, rfl, lc (q := 0) rfl rfl⟩
      · exact ⟨_, rfl, lc (q := 0) m3' rfl⟩
  · refine ⟨fun _ => ?_, fun q => absurd rfl q⟩
    repeat' (first | refine WK.ret ?_ | fail)
    exact ⟨fun id q => (by cases q), _, rfl, hw2.frame (H' := H3) (by simp only [next_bump] at n3; omega) (fun q _ => hm m3' q), m3', (show H.next ≤ H3.next by simp only [next_bump] at n3; omega)⟩
end Go.Proofs.YtfcgofffalmdfaaGreatDoor.PA
namespace Go.Proofs.YtfcgofffalmdfaaGreatDoor.PA
open Go
def lexLe : List UInt8 → List UInt8 → Prop
  | a :: u, b :: v => a < b ∨ a = b ∧ lexLe u v
  | [], _ => True
  | _ :: _, [] => False
theorem lexLe_refl : ∀ u, lexLe u u
  | [] => trivial
  | a :: u => .inr ⟨rfl, lexLe_refl u⟩
theorem lexLe_trans : ∀ {u v w : List UInt8}, lexLe u v → lexLe v w → lexLe u w
  | [], _, _, _, _ => trivial
  | a :: u, [], _, h, _ => h.elim
  | a :: u, b :: v, [], _, h => h.elim
  | a :: u, b :: v, c :: w, h1, h2 => by
    rcases h1 with h1 | ⟨rfl, h1⟩ <;> rcases h2 with h2 | ⟨rfl, h2⟩
    · exact .inl (UInt8.lt_trans h1 h2)
    · exact .inl h1
    · exact .inl h2
    · exact .inr ⟨rfl, lexLe_trans h1 h2⟩
theorem lexLe_app : ∀ {u u' v v' : List UInt8}, u.length = u'.length → lexLe u u' → lexLe v v' → lexLe (u ++ v) (u' ++ v')
  | [], [], _, _, _, _, h => h
  | [], _ :: _, _, _, h, _, _ => by cases h
  | _ :: _, [], _, _, h, _, _ => by cases h
  | a :: u, b :: u', v, v', hl, h1, h2 => by
    rcases h1 with h1 | ⟨rfl, h1⟩
    · exact .inl h1
    · exact .inr ⟨rfl, lexLe_app (by simpa using hl) h1 h2⟩
theorem less_lex : ∀ {u v : List UInt8}, u.length = v.length → (Go.Op.bytesLess u v = true → lexLe u v) ∧ (¬ Go.Op.bytesLess u v = true → lexLe v u)
  | [], [], _ => ⟨fun _ => trivial, fun _ => trivial⟩
  | [], _ :: _, h => by cases h
  | _ :: _, [], h => by cases h
  | a :: u, b :: v, h => by
    have ih := less_lex (u := u) (v := v) (by simpa using h)
    unfold Go.Op.bytesLess
    simp only [Bool.or_eq_true, decide_eq_true_eq, Bool.and_eq_true, beq_iff_eq]
    refine ⟨fun h => ?_, fun h => ?_⟩
    · rcases h with h | ⟨h1, h2⟩
      · exact .inl h
      · exact .inr ⟨h1, ih.1 h2⟩
    · by_cases e : a = b
      · exact .inr ⟨e.symm, ih.2 (fun q => h (.inr ⟨e, q⟩))⟩
      · rcases UInt8.lt_or_lt_of_ne e with q | q
        · exact absurd (.inl q) h
        · exact .inl q
theorem lexLe_cancel : ∀ {f u v : List UInt8}, lexLe (f ++ u) (f ++ v) → lexLe u v
  | [], _, _, h => h
  | a :: f, _, _, h => by
    rcases h with h | ⟨_, h⟩
    · exact absurd h (UInt8.lt_irrefl a)
    · exact lexLe_cancel h
section
variable (may : Nat → Nat → Bool)
theorem firstP_head (n i : Nat) : ∀ k, firstP may n i k = [] ∨ ∃ r, firstP may n i k = 40 :: r
  | 0 => .inl rfl
  | k + 1 => by
    rw [firstP_succ]
    split
    · unfold better
      split
      · exact .inr ⟨_, rfl⟩
      · exact firstP_head n i k
    · exact firstP_head n i k
theorem firstP_len {n i : Nat} : ∀ k, k ≤ n - 1 → firstP may n i k = [] ∨ (firstP may n i k).length = n := fun k hk => by
  rcases firstP_top may n i (fun m j _ => firstN_top may m j) k hk with ⟨h, _⟩ | ⟨_, h⟩
  · exact .inl h
  · exact .inr h.2.1
theorem firstP_least (n i : Nat) : ∀ k, k ≤ n - 1 → ∀ j, j < k → may i (i + 1 + j) = true → lenN may j (i + 1) + lenN may (n - 2 - j) (i + 2 + j) = lenN may n i → firstP may n i k ≠ [] ∧ lexLe (firstP may n i k) (40 :: (firstN may j (i + 1) ++ 41 :: firstN may (n - 2 - j) (i + 2 + j)))
  | 0, _, j, hj, _, _ => by omega
  | k + 1, hk, j, hj, h1, h2 => by
    have hlen : ∀ j, j ≤ n - 2 → 2 ≤ n → (40 :: (firstN may j (i + 1) ++ 41 :: firstN may (n - 2 - j) (i + 2 + j)) : List UInt8).length = n := fun j hj hn => by
      have a := (firstN_top may j (i + 1)).2.1
      have b := (firstN_top may (n - 2 - j) (i + 2 + j)).2.1
      simp only [List.length_cons, List.length_append, a, b]
      omega
    have hn2 : 2 ≤ n := by omega
    rw [firstP_succ]
    by_cases e : j = k
    · subst e
      rw [if_pos ⟨h1, h2⟩]
      unfold better
      split
      · exact ⟨by simp, lexLe_refl _⟩
      · rename_i hb
        have hne : firstP may n i j ≠ [] := fun h => hb (.inl h)
        refine ⟨hne, ?_⟩
        have hl := (firstP_len may (n := n) (i := i) j (by omega)).resolve_left hne
        exact (less_lex ((hlen j (by omega) hn2).trans hl.symm)).2 (fun h => hb (.inr h))
    · obtain ⟨q1, q2⟩ := firstP_least n i k (by omega) j (by omega) h1 h2
      split
      · unfold better
        split
        · rename_i hb
          have hb' := hb.resolve_left q1
          have hl := (firstP_len may (n := n) (i := i) k (by omega)).resolve_left q1
          exact ⟨by simp, lexLe_trans ((less_lex ((hlen k (by omega) hn2).trans hl.symm)).1 hb') q2⟩
        · exact ⟨q1, q2⟩
      · exact ⟨q1, q2⟩
theorem firstN_least : ∀ n i w, Top may n i w → lexLe (firstN may n i) w := by
  intro n
  induction n using Nat.strongRecOn with
  | _ n ih =>
    intro i w ⟨hF, hl, hs⟩
    cases hF with
    | nil =>
      have : n = 0 := by simpa using hl.symm
      subst this
      rw [firstN_zero]
      trivial
    | @dot _ w h =>
      rw [List.length_cons] at hl
      rw [firstN_pos may (by omega)]
      by_cases hp : firstP may n i (n - 1) = []
      · rw [if_pos hp]
        have h1 := h.le may
        rw [sizeF_dot] at hs
        have h2 : lenN may (n - 1) (i + 1) ≤ lenN may n i := by
          by_cases q : n < 2
          · rw [lenN_lt may q, lenN_lt may (by omega)]
            exact Nat.le_refl _
          · have := (lenP_le may n i (n - 1)).1
            rw [← sizesN_ge may (by omega)] at this
            exact this
        have hw : w.length = n - 1 := by omega
        rw [hw] at h1
        exact .inr ⟨rfl, ih (n - 1) (by omega) (i + 1) w ⟨h, hw, by omega⟩⟩
      · rw [if_neg hp]
        obtain ⟨r, hr⟩ := (firstP_head may n i (n - 1)).resolve_left hp
        rw [hr]
        exact .inl (by decide)
    | @pair _ u v hu hm hv =>
      have hl' : u.length + v.length + 2 = n := by
        rw [← hl]
        simp only [List.length_cons, List.length_append]
        omega
      rw [sizeF_pair] at hs
      have h1 := hu.le may
      have h2 := hv.le may
      have hv' : v.length = n - 2 - u.length := by omega
      rw [hv'] at h2
      have h3 := (lenP_le may n i (n - 1)).2 u.length (by omega) hm
      rw [← sizesN_ge may (by omega)] at h3
      have h3' : lenN may u.length (i + 1) + lenN may (n - 2 - u.length) (i + 2 + u.length) ≤ lenN may n i := h3
      obtain ⟨q1, q2⟩ := firstP_least may n i (n - 1) (Nat.le_refl _) u.length (by omega) hm (by omega)
      rw [firstN_pos may (by omega), if_neg q1]
      refine lexLe_trans q2 (.inr ⟨rfl, lexLe_app (firstN_top may _ _).2.1 (ih _ (by omega) _ u ⟨hu, rfl, by omega⟩) (.inr ⟨rfl, ih _ (by omega) _ v ⟨hv, hv', by omega⟩⟩)⟩)
inductive Cont (N : Nat) : Nat → List Nat → List UInt8 → Prop
  | base {i w} (h : Fold may i w) (hl : i + w.length = N) : Cont N i [] w
  | close {i l st u v} (hu : Fold may i u) (hm : may l (i + u.length) = true) (hv : Cont N (i + u.length + 1) st v) : Cont N i (l :: st) (u ++ 41 :: v)
variable {may} {N : Nat}
theorem Cont.len {i : Nat} {st : List Nat} {w : List UInt8} (h : Cont may N i st w) : i + w.length = N := by
  induction h with
  | base h hl => exact hl
  | close hu hm hv ih => rw [List.length_append, List.length_cons]; omega
theorem Cont.dot_ {i : Nat} {st : List Nat} {w : List UInt8} (h : Cont may N (i + 1) st w) : Cont may N i st (46 :: w) := by
  cases h with
  | base h hl => exact .base (.dot h) (by rw [List.length_cons]; omega)
  | @close _ l st u v hu hm hv =>
    refine .close (u := 46 :: u) (.dot hu) ?_ ?_
    · rw [List.length_cons, show i + (u.length + 1) = i + 1 + u.length by omega]; exact hm
    · rw [List.length_cons, show i + (u.length + 1) = i + 1 + u.length by omega]; exact hv
theorem Cont.open_ {i : Nat} {st : List Nat} {w : List UInt8} (h : Cont may N (i + 1) (i :: st) w) : Cont may N i st (40 :: w) := by
  cases h with
  | @close _ _ _ u v hu hm hv =>
    have e2 : i + 1 + u.length + 1 = i + 2 + u.length := by omega
    rw [e2] at hv
    cases hv with
    | base h hl => exact .base (.pair hu hm h) (by simp only [List.length_cons, List.length_append]; omega)
    | @close _ l st u' v' hu' hm' hv' =>
      have hl : (40 :: (u ++ 41 :: u') : List UInt8).length = u.length + u'.length + 2 := by simp only [List.length_cons, List.length_append]; omega
      have := Cont.close (N := N) (i := i) (l := l) (st := st) (u := 40 :: (u ++ 41 :: u')) (v := v') (.pair hu hm hu') (by rw [hl, show i + (u.length + u'.length + 2) = i + 2 + u.length + u'.length by omega]; exact hm') (by rw [hl, show i + (u.length + u'.length + 2) = i + 2 + u.length + u'.length by omega]; exact hv')
      simpa using this
theorem Cont.shut {i l : Nat} {st : List Nat} {w : List UInt8} (hm : may l i = true) (h : Cont may N (i + 1) st w) : Cont may N i (l :: st) (41 :: w) :=
  .close (u := []) (.nil _) hm h
theorem Cont.inv {i : Nat} {st : List Nat} {c : UInt8} {w : List UInt8} (h : Cont may N i st (c :: w)) : (c = 40 ∧ Cont may N (i + 1) (i :: st) w) ∨ (c = 46 ∧ Cont may N (i + 1) st w) ∨ (c = 41 ∧ ∃ l st', st = l :: st' ∧ may l i = true ∧ Cont may N (i + 1) st' w) := by
  generalize hw : c :: w = x at h
  cases h with
  | base h hl =>
    cases h with
    | nil => cases hw
    | dot h =>
      cases hw
      exact .inr (.inl ⟨rfl, .base h (by rw [List.length_cons] at hl; omega)⟩)
    | @pair _ u v hu hm hv =>
      cases hw
      refine .inl ⟨rfl, .close hu hm (.base (by rwa [show i + 1 + u.length + 1 = i + 2 + u.length by omega]) ?_)⟩
      simp only [List.length_cons, List.length_append] at hl
      omega
  | @close _ l st u v hu hm hv =>
    cases hu with
    | nil =>
      cases hw
      exact .inr (.inr ⟨rfl, l, st, rfl, hm, hv⟩)
    | @dot _ u hu =>
      cases hw
      rw [List.length_cons, show i + (u.length + 1) = i + 1 + u.length by omega] at hm hv
      exact .inr (.inl ⟨rfl, .close hu hm hv⟩)
    | @pair _ a b ha hm' hb =>
      have hl : (40 :: (a ++ 41 :: b) : List UInt8).length = a.length + b.length + 2 := by simp only [List.length_cons, List.length_append]; omega
      rw [hl, show i + (a.length + b.length + 2) = i + 2 + a.length + b.length by omega] at hm hv
      have hw' : c :: w = 40 :: (a ++ 41 :: (b ++ 41 :: v)) := by rw [hw]; simp
      cases hw'
      refine .inl ⟨rfl, .close ha hm' ?_⟩
      rw [show i + 1 + a.length + 1 = i + 2 + a.length by omega]
      exact .close hb hm hv
variable (may)
def mostP (f : Nat → Int) (l i : Nat) : Nat → Int
  | 0 => -1000
  | k + 1 => if may l (i + k) = true then max (mostP f l i k) ((lenN may k i : Int) - 1 + f (i + k + 1)) else mostP f l i k
def mostR (N : Nat) : List Nat → Nat → Int
  | [], i => (lenN may (N - i) i : Int) - 1
  | l :: st, i => mostP may (mostR N st) l i (N - i)
theorem mostP_ge {f : Nat → Int} {l i : Nat} : ∀ {K k : Nat}, k < K → may l (i + k) = true → (lenN may k i : Int) - 1 + f (i + k + 1) ≤ mostP may f l i K
  | K + 1, k, hk, hm => by
    unfold mostP
    by_cases e : k = K
    · subst e
      rw [if_pos hm]
      exact Int.le_max_right _ _
    · have := mostP_ge (f := f) (K := K) (k := k) (by omega) hm
      split
      · exact Int.le_trans this (Int.le_max_left _ _)
      · exact this
theorem mostR_ge {i : Nat} {st : List Nat} {w : List UInt8} (h : Cont may N i st w) : (sizeF w : Int) ≤ mostR may N st i := by
  induction h with
  | @base i w h hl =>
    have := h.le may
    unfold mostR
    rw [show N - i = w.length by omega]
    omega
  | @close i l st u v hu hm hv ih =>
    have h1 := hu.le may
    have hl := hv.len
    have h2 := mostP_ge may (f := mostR may N st) (l := l) (i := i) (K := N - i) (k := u.length) (by omega) hm
    have e : sizeF (u ++ 41 :: v) = sizeF u + sizeF v := by
      rw [sizeF_app]
      unfold sizeF
      rw [List.countP_cons]
      simp
    rw [e]
    unfold mostR
    omega
theorem mostR_at : ∀ (st : List Nat) (i : Nat), i ≤ N → (∃ w, Cont may N i st w ∧ (sizeF w : Int) = mostR may N st i) ∨ mostR may N st i ≤ -1000 + ((N - i : Nat) : Int)
  | [], i, hi => by
    obtain ⟨h1, h2, h3⟩ := firstN_top may (N - i) i
    refine .inl ⟨_, .base h1 (by rw [h2]; omega), ?_⟩
    unfold mostR
    omega
  | l :: st, i, hi => by
    unfold mostR
    have key : ∀ K, K ≤ N - i → (∃ w, Cont may N i (l :: st) w ∧ (sizeF w : Int) = mostP may (mostR may N st) l i K) ∨ mostP may (mostR may N st) l i K ≤ -1000 + ((N - i : Nat) : Int) := by
      intro K
      induction K with
      | zero =>
        intro _
        refine .inr ?_
        unfold mostP
        omega
      | succ K ihK =>
        intro hK
        unfold mostP
        split
        · rename_i hm
          rcases Int.le_total (mostP may (mostR may N st) l i K) ((lenN may K i : Int) - 1 + mostR may N st (i + K + 1)) with q | q
          · rw [Int.max_eq_right q]
            have hle := lenN_le may K i
            rcases mostR_at st (i + K + 1) (by omega) with ⟨w, h1, h2⟩ | h
            · obtain ⟨u1, u2, u3⟩ := firstN_top may K i
              refine .inl ⟨firstN may K i ++ 41 :: w, .close u1 (by rw [u2]; exact hm) (by rw [u2]; exact h1), ?_⟩
              have e : sizeF (firstN may K i ++ 41 :: w) = sizeF (firstN may K i) + sizeF w := by
                rw [sizeF_app]
                unfold sizeF
                rw [List.countP_cons]
                simp
              rw [e]
              omega
            · refine .inr ?_
              omega
          · rw [Int.max_eq_left q]
            exact ihK (by omega)
        · exact ihK (by omega)
    exact key (N - i) (Nat.le_refl _)
def stepG (N : Nat) (i : Nat) (f : List UInt8) (st : List Nat) : List UInt8 × List Nat :=
  if mostR may N (i :: st) (i + 1) + (sizeF f : Int) + 1 = (lenN may N 0 : Int) - 1 then (f ++ [40], i :: st) else
  match st with
  | [] => (f ++ [46], [])
  | l :: st' => if may l i = true ∧ mostR may N st' (i + 1) + (sizeF f : Int) = (lenN may N 0 : Int) - 1 then (f ++ [41], st') else (f ++ [46], l :: st')
structure InvG (N i : Nat) (f : List UInt8) (st : List Nat) : Prop where
  l : f.length = i
  w : ∃ w, firstN may N 0 = f ++ w ∧ Cont may N i st w
  g : ∀ w, Cont may N i st w → Fold may 0 (f ++ w)
theorem firstN_size (N : Nat) : sizeF (firstN may N 0) + 1 = lenN may N 0 := (firstN_top may N 0).2.2
theorem firstN_len (N : Nat) : (firstN may N 0).length = N := (firstN_top may N 0).2.1
theorem InvG.least {N i : Nat} {f : List UInt8} {st : List Nat} (h : InvG may N i f st) {w0 w : List UInt8} (h0 : firstN may N 0 = f ++ w0) (hw : Cont may N i st w) (hs : sizeF f + sizeF w + 1 = lenN may N 0) : lexLe w0 w := by
  have hl := hw.len
  have := firstN_least may N 0 (f ++ w) ⟨h.g w hw, by rw [List.length_append, h.l, hl], by rw [sizeF_app]; omega⟩
  rw [h0] at this
  exact lexLe_cancel this
theorem InvG.size_le {N i : Nat} {f : List UInt8} {st : List Nat} (h : InvG may N i f st) {w : List UInt8} (hw : Cont may N i st w) : sizeF f + sizeF w + 1 ≤ lenN may N 0 := by
  have hl := hw.len
  have := (h.g w hw).le may
  rw [sizeF_app, List.length_append, h.l, hl] at this
  exact this
theorem size_cons (c : UInt8) (w : List UInt8) : sizeF (c :: w) = sizeF w + if c = 40 then 1 else 0 := by
  unfold sizeF
  rw [List.countP_cons]
  by_cases h : c = 40 <;> simp [h]
theorem lenN_bound (N : Nat) : lenN may N 0 ≤ N + 1 := lenN_le may N 0
theorem InvG.step {N i : Nat} {f : List UInt8} {st : List Nat} (h : InvG may N i f st) (hi : i < N) (hN : N ≤ 100) : InvG may N (i + 1) (stepG may N i f st).1 (stepG may N i f st).2 := by
  obtain ⟨w0, h0, hc⟩ := h.w
  have hb := lenN_bound may N
  have hsz := firstN_size may N
  have hlf := hc.len
  rw [h0, sizeF_app] at hsz
  have hsf : sizeF f ≤ i := by
    have := List.countP_le_length (p := fun x : UInt8 => x == 40) (l := f)
    rw [h.l] at this
    exact this
  obtain ⟨c, w, rfl⟩ : ∃ c w, w0 = c :: w := by
    cases w0 with
    | nil => rw [List.length_nil] at hlf; omega
    | cons c w => exact ⟨c, w, rfl⟩
  rw [size_cons] at hsz
  -- the first question
  have hopen : mostR may N (i :: st) (i + 1) + (sizeF f : Int) + 1 = (lenN may N 0 : Int) - 1 ↔ c = 40 := by
    constructor
    · intro e
      rcases mostR_at may (N := N) (i :: st) (i + 1) (by omega) with ⟨w', h1, h2⟩ | h1
      · have h3 := h.least may h0 h1.open_ (by rw [size_cons, if_pos rfl]; omega)
        rcases hc.inv with ⟨q, _⟩ | ⟨rfl, _⟩ | ⟨rfl, _⟩
        · exact q
        · rcases h3 with h3 | ⟨h3, _⟩
          · exact absurd h3 (by decide)
          · exact absurd h3 (by decide)
        · rcases h3 with h3 | ⟨h3, _⟩
          · exact absurd h3 (by decide)
          · exact absurd h3 (by decide)
      · omega
    · rintro rfl
      rw [if_pos rfl] at hsz
      rcases hc.inv with ⟨_, q⟩ | ⟨q, _⟩ | ⟨q, _⟩
      · have h1 := mostR_ge may q
        rcases mostR_at may (N := N) (i :: st) (i + 1) (by omega) with ⟨w', h2, h3⟩ | h2
        · have h4 := h.size_le may h2.open_
          rw [size_cons, if_pos rfl] at h4
          omega
        · omega
      · exact absurd q (by decide)
      · exact absurd q (by decide)
  have hshut : ∀ l st', st = l :: st' → ((may l i = true ∧ mostR may N st' (i + 1) + (sizeF f : Int) = (lenN may N 0 : Int) - 1) → c ≠ 46) ∧ (c = 41 → may l i = true ∧ mostR may N st' (i + 1) + (sizeF f : Int) = (lenN may N 0 : Int) - 1) := by
    rintro l st' rfl
    constructor
    · rintro ⟨hm, e⟩ rfl
      rcases mostR_at may (N := N) st' (i + 1) (by omega) with ⟨w', h1, h2⟩ | h1
      · have h3 := h.least may h0 (h1.shut hm) (by rw [size_cons, if_neg (by decide)]; omega)
        rcases h3 with h3 | ⟨h3, _⟩
        · exact absurd h3 (by decide)
        · exact absurd h3 (by decide)
      · omega
    · rintro rfl
      rw [if_neg (by decide)] at hsz
      rcases hc.inv with ⟨q, _⟩ | ⟨q, _⟩ | ⟨_, l', st2, e, hm, q⟩
      · exact absurd q (by decide)
      · exact absurd q (by decide)
      · cases e
        refine ⟨hm, ?_⟩
        have h1 := mostR_ge may q
        rcases mostR_at may (N := N) st' (i + 1) (by omega) with ⟨w', h2, h3⟩ | h2
        · have h4 := h.size_le may (h2.shut hm)
          rw [size_cons, if_neg (by decide)] at h4
          omega
        · omega
  rcases hc.inv with ⟨rfl, q⟩ | ⟨rfl, q⟩ | ⟨rfl, l, st', rfl, hm, q⟩
  · have e : stepG may N i f st = (f ++ [40], i :: st) := by unfold stepG; rw [if_pos (hopen.2 rfl)]
    rw [e]
    exact ⟨by rw [List.length_append, h.l]; rfl, ⟨w, by rw [h0]; simp, q⟩, fun w' hw' => by
      have := h.g _ hw'.open_
      simpa using this⟩
  · have e : stepG may N i f st = (f ++ [46], st) := by
      unfold stepG
      rw [if_neg (fun q => absurd (hopen.1 q) (by decide))]
      cases st with
      | nil => rfl
      | cons l st' =>
        simp only
        rw [if_neg (fun q => (hshut l st' rfl).1 q rfl)]
    rw [e]
    exact ⟨by rw [List.length_append, h.l]; rfl, ⟨w, by rw [h0]; simp, q⟩, fun w' hw' => by
      have := h.g _ hw'.dot_
      simpa using this⟩
  · have e : stepG may N i f (l :: st') = (f ++ [41], st') := by
      unfold stepG
      rw [if_neg (fun q => absurd (hopen.1 q) (by decide))]
      simp only
      rw [if_pos ((hshut l st' rfl).2 rfl)]
    rw [e]
    exact ⟨by rw [List.length_append, h.l]; rfl, ⟨w, by rw [h0]; simp, q⟩, fun w' hw' => by
      have := h.g _ (hw'.shut hm)
      simpa using this⟩
theorem InvG.start (N : Nat) : InvG may N 0 [] [] :=
  ⟨rfl, ⟨_, rfl, .base (firstN_top may N 0).1 (by rw [firstN_len]; omega)⟩, fun w hw => by
    cases hw with
    | base h hl => exact h⟩
theorem InvG.done {N : Nat} {f : List UInt8} {st : List Nat} (h : InvG may N N f st) : f = firstN may N 0 := by
  obtain ⟨w, h0, hc⟩ := h.w
  have hl := hc.len
  have : w = [] := List.eq_nil_of_length_eq_zero (by omega)
  rw [h0, this, List.append_nil]
end
end Go.Proofs.YtfcgofffalmdfaaGreatDoor.PA
namespace Go.Proofs.YtfcgofffalmdfaaGreatDoor.PA
open Go Go.Eng Go.Proofs
theorem mostR_bound (may : Nat → Nat → Bool) (N : Nat) : ∀ (st : List Nat) (i : Nat), i ≤ N → -1000 ≤ mostR may N st i ∧ mostR may N st i ≤ ((N - i : Nat) : Int)
  | [], i, hi => by
    have := lenN_le may (N - i) i
    have := lenN_pos may (N - i) i
    unfold mostR
    omega
  | l :: st, i, hi => by
    unfold mostR
    have key : ∀ K, K ≤ N - i → -1000 ≤ mostP may (mostR may N st) l i K ∧ mostP may (mostR may N st) l i K ≤ ((N - i : Nat) : Int) := by
      intro K
      induction K with
      | zero =>
        intro _
        unfold mostP
        omega
      | succ K ihK =>
        intro hK
        have h1 := ihK (by omega)
        unfold mostP
        split
        · have h2 := mostR_bound may N st (i + K + 1) (by omega)
          have h3 := lenN_le may K i
          rcases Int.le_total (mostP may (mostR may N st) l i K) ((lenN may K i : Int) - 1 + mostR may N st (i + K + 1)) with q | q
          · rw [Int.max_eq_right q]; omega
          · rw [Int.max_eq_left q]; omega
        · exact h1
    exact key (N - i) (Nat.le_refl _)
theorem k_addII {cf : CF} {n : Nat} {H : AHeap} {l : KL0} {x y : XO} {a b : Int} (hx : evK l x = some (zA a)) (hy : evK l y = some (zA b)) (h1 : -1000000 ≤ a + b) (h2 : a + b ≤ 1000000) : XV cf l H n (.bin .add x y) = some (zA (a + b), H) :=
  k_bin hx hy (by
    show some (AV.int .i64 (wrapA .i64 (a + b))) = _
    rw [wrapI _ (by omega) (by omega)]
    rfl)
theorem topM (may : Nat → Nat → Bool) (a b : Nat) : topN (szM may a b) ((szM may a b).length - 1) = lenN may (b - a) a - 1 := topN_last (by
  have h := lenN_pos may (b - a) a
  have := sizes_allP may (b - a) a ((szM may a b).length - 1) (by
    show _ < (szM may a b).length
    have : 0 < (szM may a b).length := h
    omega)
  exact Nat.ne_of_gt this)
set_option maxHeartbeats 4000000 in
theorem most_walk {cf : CF} {fuel n i : Nat} {may : Nat → Nat → Bool} {s : List UInt8} {P G : AV} {H0 H : AHeap} {X O : AV} {R st : List Nat} (hsl : s.length = n) (hT : TabH (szM may) n H0 X R (fun i j => i ≤ j) H) (hRl : R.length = n + 1) (hn : n ≤ 40) (hO : RowE 1 H O st.length (st.reverse.map nA)) (hi : i ≤ n) (hst : ∀ l ∈ st, l < i) (hst2 : st.length ≤ 100) (hf : 1000 < fuel)
    (h53 : ∀ a b, a < b → b < n → ∀ H, cf 53 [.str s, P, G, nA a, nA b] H = some (.bool (may a b), H))
    (h75 : ∀ (X : AV) (b : List Nat) (H : AHeap), RdR 2 H X b.length (zC b) → 0 < b.length → b.length < 400 → ∃ v H', cf 75 [X] H = some (v, H') ∧ v = nA (topN b (b.length - 1)) ∧ H'.m = H.m ∧ H.next ≤ H'.next)
    (h57 : ∀ l st', st = l :: st' → ∀ (O' : AV) (k : Nat) (H' : AHeap), H'.m = H.m → H.next ≤ H'.next → RowE 1 H' O' st'.length (st'.reverse.map nA) → k ≤ n → i < k → ∃ v H'', cf 57 [X, .str s, P, G, nA k, O'] H' = some (v, H'') ∧ v = zA (mostR may n st' k) ∧ H''.m = H'.m ∧ H'.next ≤ H''.next) :
    ∃ v H', xfunc cf fuel L57 [X, .str s, P, G, nA i, O] H = some (v, H') ∧ v = zA (mostR may n st i) ∧ H'.m = H.m ∧ H.next ≤ H'.next := by
  refine xfunc_ofK rfl (by show 6 ≤ 71; omega) ?_
  have hslen : ∀ {q : Nat} {Hq : AHeap} {K : KL0} {x : XO}, evK K x = some (.str s) → XV cf K Hq q (.slen x) = some (nA n, Hq) := fun {q Hq K x} hx => by
    have := k_slen (cf := cf) (n := q) (H := Hq) hx
    rwa [hsl] at this
  unfold L57
  dsimp only
  cases st with
  | nil =>
    obtain ⟨M1, a1, a2, a3, a4⟩ := hT.o i (by omega)
    obtain ⟨u1, b1, b2, b3, b4⟩ := a3 n (by omega) hi
    have hrow := hT.row (i := i) (by omega)
    have hx := hT.x
    generalize hr : R.getD i 0 = r at a1 hrow
    repeat' (first | refine WK.seq ?_ | (apply WK.reg; (· exact lnn)) | refine WKO.nil ?_ | ((first | apply WKO.op); (· first | exact k_mv rfl | exact hslen rfl | exact k_lenE rfl (RdR.of hO) | exact k_iaE rfl rfl (RdR.of hx) (by omega) | (apply k_ld1; (· rfl); (· exact hx); (· rfl); (· exact hrow)) | exact k_ia1s rfl rfl (by omega) | (apply k_ldX; (· rfl); (· exact a1); (· exact b1)) | exact opA); (· rfl)) | refine pN ?_ | (apply WK.condT; (· rfl); (· exact dcd)) | fail)
    refine WKO.callV rfl rfl rfl (h75 u1 (szM may i n) _ (b2.frame nxx (fun _ _ => rfl)) (lenN_pos may _ _) (by have := lenN_le may (n - i) i; have e : (szM may i n).length = lenN may (n - i) i := rfl; omega)) ?_
    rintro v3 H3 ⟨rfl, m3, n3⟩
    rw [topM]
    repeat' (first | refine WK.ret ?_ | refine WKO.nil ?_ | ((first | apply WKO.op); (· first | exact k_mv rfl); (· rfl)) | refine pN ?_ | refine pR ?_ | fail)
    have hp := lenN_pos may (n - i) i
    refine ⟨fun id q => (by cases q), _, rfl, ?_, m3, by simp only [next_bump] at n3; omega⟩
    show nA (lenN may (n - i) i - 1) = zA (mostR may n [] i)
    unfold mostR
    have e : ((lenN may (n - i) i - 1 : Nat) : Int) = (lenN may (n - i) i : Int) - 1 := by omega
    rw [← e]
    rfl
  | cons l st =>
    have hsub : ∀ {q : Nat} {Hq : AHeap} {K : KL0} {x : XO}, evK K x = some (nA (l :: st).length) → XV cf K Hq q (.bin .sub x (.k (.int .i64 (.ofNat 1)))) = some (nA st.length, Hq) := fun {q Hq K x} hx => by
      have := k_subN (cf := cf) (n := q) (H := Hq) (b := 1) (y := .k (.int .i64 (.ofNat 1))) hx rfl (by rw [List.length_cons]; omega) (by have : (l :: st).length ≤ 100 := hst2; omega)
      rwa [List.length_cons, Nat.add_sub_cancel] at this
    have hsl2 : st.length + 1 ≤ 100 := hst2
    have hlast : ((l :: st).reverse.map nA)[st.length]? = some (nA l) := by
      rw [List.getElem?_map, List.reverse_cons, List.getElem?_append_right (by simp)]
      simp
    have hli : l < i := hst l List.mem_cons_self
    repeat' (first | refine WK.seq ?_ | refine WK.skip ?_ | refine WK.block ?_ | (apply WK.reg; (· exact lnn)) | (apply WK.regC; (· rfl); (· exact lnn); (· decide)) | refine WKC.nil ?_ | refine WKO.nil ?_ | ((first | apply WKC.op | apply WKO.op); (· first | exact k_mv rfl | exact k_lenE rfl (RdR.of hO) | exact hsub rfl | exact k_iaE rfl rfl (RdR.of hO) (by rw [List.length_cons]; omega) | (apply k_ld1; (· rfl); (· exact hO); (· rfl); (· exact hlast)) | exact opA); (· rfl)) | refine pN ?_ | (apply WK.condF; (· rfl); (· exact dcd)) | fail)
    refine WK.loop (α := Nat) (fun k => [(0, X), (1, .str s), (2, P), (3, G), (4, nA i), (5, O), (13, zA (mostP may (mostR may n st) l i k)), (14, nA l), (15, nA (i + k))]) (fun k H' => H'.m = H.m ∧ H.next ≤ H'.next ∧ k ≤ n - i) (fun k => n - i - k) 0 (.cons rfl <| .cons rfl <| .cons rfl <| .cons rfl <| .cons rfl <| .cons rfl <| .cons rfl <| .cons rfl <| .cons rfl <| .nil _) ⟨rfl, nxx, Nat.zero_le _⟩ (by show n - i - 0 < fuel; omega) ?_
    rintro k H3 ⟨m3, n3, hk⟩
    by_cases hkn : i + k < n
    · obtain ⟨M1, a1, a2, a3, a4⟩ := hT.o i (by omega)
      obtain ⟨u1, b1, b2, b3, b4⟩ := a3 (i + k) (by omega) (by omega)
      have hrow := hT.row (i := i) (by omega)
      have hx := hT.x
      generalize hr : R.getD i 0 = r at a1 hrow
      have a1' : ∀ {Hq : AHeap}, Hq.m = H.m → Hq.get r = some (.cells M1 none) := fun e => (show (_ : AHeap).m.get r = _ by rw [e]; exact a1)
      repeat' (first | refine WK.seq ?_ | refine WK.skip ?_ | refine WK.block ?_ | (apply WK.reg; (· exact lnn)) | (apply WK.regd0; (· exact lnn)) | refine WKO.nil ?_ | ((first | apply WKO.op); (· first | exact k_mv rfl | exact hslen rfl | (apply k_call; (· rfl); (· rfl); (· exact h53 _ _ (by omega) (by omega) _)) | exact k_iaE rfl rfl (RdR.of hx) (by omega) | (apply k_ld1; (· rfl); (· exact hx); (· exact m3); (· exact hrow)) | exact k_ia1s rfl rfl (by omega) | (apply k_ldX; (· rfl); (· exact a1' m3); (· exact b1)) | exact opA); (· rfl)) | refine pN ?_ | refine bN ?_ | (apply WK.condT; (· rfl); (· exact dcd)) | (apply WK.condB; (· rfl); all_goals intro _) | fail)
      · rename_i hm
        refine WKO.callV rfl rfl rfl (h75 u1 (szM may i (i + k)) _ (b2.frame nxx (fun q _ => (show H3.m.get q = _ by rw [m3]; rfl))) (lenN_pos may _ _) (by have := lenN_le may (i + k - i) i; have e : (szM may i (i + k)).length = lenN may (i + k - i) i := rfl; omega)) ?_
        rintro v4 H4 ⟨rfl, m4, n4⟩
        rw [topM, Nat.add_sub_cancel_left]
        have m4' : H4.m = H.m := m4.trans m3
        simp only [next_bump] at n4
        have hO4 : RowE 1 H4 O (l :: st).length ((l :: st).reverse.map nA) := hO.frame (by omega) (fun q _ => (show H4.m.get q = _ by rw [m4']; rfl))
        have hb1 := mostR_bound may n st (i + k + 1) (by omega)
        have hb2 := lenN_le may k i
        have hb3 := lenN_pos may k i
        repeat' (first | ((first | apply WKO.op); (· first | exact k_mv rfl | exact k_lenE rfl (RdR.of hO) | exact hsub rfl | exact opA); (· rfl)) | fail)
        refine WKO.cutE (m2 := st.length) hO4 rfl (by rw [List.length_cons]; omega) rfl rfl ?_
        intro O' hO' _
        rw [← List.map_take, List.reverse_cons, List.take_left' (by simp)] at hO'
        refine WKO.callV rfl rfl rfl (h57 l st rfl O' (i + k + 1) H4 m4' (by omega) hO' (by omega) (by omega)) ?_
        rintro v5 H5 ⟨rfl, m5, n5⟩
        repeat' (first | (apply WK.reg; (· exact lnn)) | refine WKO.nil ?_ | ((first | apply WKO.op); (· first | exact k_mv rfl | exact k_addII rfl rfl (by omega) (by omega) | exact k_mxZ rfl rfl | exact opA); (· rfl)) | refine pN ?_ | refine bN ?_ | fail)
        refine ⟨k + 1, ?_, ⟨m5.trans m4', by simp only [next_bump]; omega, by omega⟩, by omega⟩
        have e : mostP may (mostR may n st) l i (k + 1) = if ((lenN may k i - 1 : Nat) : Int) + mostR may n st (i + k + 1) > mostP may (mostR may n st) l i k then ((lenN may k i - 1 : Nat) : Int) + mostR may n st (i + k + 1) else mostP may (mostR may n st) l i k := by
          rw [mostP, if_pos hm, show ((lenN may k i - 1 : Nat) : Int) = (lenN may k i : Int) - 1 by omega, Int.max_def]
          split <;> split <;> omega
        rw [e]
        exact (.cons rfl <| .cons rfl <| .cons rfl <| .cons rfl <| .cons rfl <| .cons rfl <| .cons rfl <| .cons rfl <| .cons rfl <| .nil _)
      · rename_i hm
        refine ⟨k + 1, ?_, ⟨m3, by simp only [next_bump]; omega, by omega⟩, by omega⟩
        have e : mostP may (mostR may n st) l i (k + 1) = mostP may (mostR may n st) l i k := by rw [mostP, if_neg (by rw [hm]; decide)]
        rw [e]
        exact (.cons rfl <| .cons rfl <| .cons rfl <| .cons rfl <| .cons rfl <| .cons rfl <| .cons rfl <| .cons rfl <| .cons rfl <| .nil _)
    · repeat' (first | refine WK.seq ?_ | refine WK.ret ?_ | refine WK.exit ?_ | (apply WK.reg; (· exact lnn)) | refine WKO.nil ?_ | ((first | apply WKO.op); (· first | exact k_mv rfl | exact hslen rfl | exact opA); (· rfl)) | refine pN ?_ | refine pX ?_ | refine bX ?_ | (apply WK.condF; (· rfl); (· exact dcd)) | fail)
      have hkn2 : k = n - i := by omega
      subst hkn2
      exact ⟨fun id q => (by cases q), _, rfl, rfl, m3, by simp only [next_bump]; omega⟩
end Go.Proofs.YtfcgofffalmdfaaGreatDoor.PA
namespace Go.Proofs.YtfcgofffalmdfaaGreatDoor.PA
open Go Go.Eng Go.Proofs
theorem TabH.same_m {sz : Nat → Nat → List Nat} {n : Nat} {H0 H H' : AHeap} {X : AV} {R : List Nat} {done : Nat → Nat → Prop} (h : TabH sz n H0 X R done H) (hm : H'.m = H.m) (hn : H.next ≤ H'.next) : TabH sz n H0 X R done H' :=
  h.up hn (fun q _ => (show H'.m.get q = _ by rw [hm]; rfl))
section
variable {K : CF} {fuel n : Nat} {may : Nat → Nat → Bool} {s : List UInt8} {P G : AV} {H0 : AHeap} {X : AV} {R : List Nat}
theorem most_call (hsl : s.length = n) (hRl : R.length = n + 1) (hn : n ≤ 40) (hf : 1000 < fuel) (k57 : ∀ args H, K 57 args H = none)
    (h53 : ∀ a b, a < b → b < n → ∀ (k : Nat) (H : AHeap), xcallK K F fuel k 53 [.str s, P, G, nA a, nA b] H = some (.bool (may a b), H))
    (h75 : ∀ (k : Nat) (X : AV) (b : List Nat) (H : AHeap), RdR 2 H X b.length (zC b) → 0 < b.length → b.length < 400 → ∃ v H', xcallK K F fuel (k + 1) 75 [X] H = some (v, H') ∧ v = nA (topN b (b.length - 1)) ∧ H'.m = H.m ∧ H.next ≤ H'.next) :
    ∀ (st : List Nat) (k i : Nat) (O : AV) (H : AHeap), TabH (szM may) n H0 X R (fun i j => i ≤ j) H → RowE 1 H O st.length (st.reverse.map nA) → i ≤ n → (∀ l ∈ st, l < i) → st.length ≤ 100 → st.length ≤ k →
      ∃ v H', xcallK K F fuel (k + 2) 57 [X, .str s, P, G, nA i, O] H = some (v, H') ∧ v = zA (mostR may n st i) ∧ H'.m = H.m ∧ H.next ≤ H'.next
  | [], k, i, O, H, hT, hO, hi, hst, h100, hk => by
    obtain ⟨v, H', q1, q2⟩ := most_walk (cf := xcallK K F fuel (k + 1)) (fuel := fuel) hsl hT hRl hn hO hi hst h100 hf (fun a b hab hb H => h53 a b hab hb _ H) (fun X b H => h75 k X b H) (fun l st' e => by cases e)
    exact ⟨v, H', (cfstep (k57 _ _) rfl).trans q1, q2⟩
  | l :: st, k, i, O, H, hT, hO, hi, hst, h100, hk => by
    obtain ⟨k', rfl⟩ : ∃ k', k = k' + 1 := ⟨k - 1, by rw [List.length_cons] at hk; omega⟩
    rw [List.length_cons] at hk h100
    obtain ⟨v, H', q1, q2⟩ := most_walk (cf := xcallK K F fuel (k' + 1 + 1)) (fuel := fuel) hsl hT hRl hn hO hi hst (by rw [List.length_cons]; exact h100) hf (fun a b hab hb H => h53 a b hab hb _ H) (fun X b H => h75 (k' + 1) X b H) (fun l' st' e O' j H' hm hn' hO' hj hij => by
      cases e
      exact most_call hsl hRl hn hf k57 h53 h75 st k' j O' H' (hT.same_m hm hn') hO' hj (fun q hq => Nat.lt_trans (hst q (List.mem_cons_of_mem _ hq)) hij) (by omega) (by omega))
    exact ⟨v, H', (cfstep (k57 _ _) rfl).trans q1, q2⟩
end
theorem k_eqII {cf : CF} {n : Nat} {H : AHeap} {l : KL0} {x y : XO} {a b : Int} (hx : evK l x = some (zA a)) (hy : evK l y = some (zA b)) : XV cf l H n (.bin .eql x y) = some (.bool (decide (a = b)), H) := k_bin hx hy rfl
theorem frontU {z l m : Nat} {H : AHeap} {v : AV} {cs : List AV} (h : RowE z H v l cs) (hm : m ≤ l) (h0 : 0 < l) : ∃ w, (∀ (ev : XO → Option AV) (x : XO), ev x = some (nA m) → cutA ev z v none (some x) none = some w) ∧ RowE z H w m (cs.take (m * z)) := by
  rcases h with ⟨hc, ⟨_, h⟩ | ⟨i, full, rfl, hg, hf, hfl, hi⟩⟩ | ⟨h, _⟩
  · omega
  · have hmz : m * z ≤ l * z := Nat.mul_le_mul_right _ hm
    refine ⟨.sl i 0 m openCap, fun ev x hx => ?_, .inl ⟨by rw [List.length_take, hc, Nat.min_eq_left hmz], .inr ⟨i, full, rfl, hg, ?_, by omega, hi⟩⟩⟩
    · have hb : bndA l (nA m) = some m := bndA_nat hm
      simp only [cutA]
      rw [if_neg (by decide)]
      simp only [bounds, obnd, hiBnd, hx, Option.bind_some, hb, Nat.zero_mul, Nat.add_zero, Nat.sub_zero]
      rw [if_pos (by decide)]
    · rw [← hf, List.take_take, Nat.min_eq_left hmz]
  · omega
set_option maxHeartbeats 8000000 in
theorem firstT_walk {cf : CF} {fuel n : Nat} {may : Nat → Nat → Bool} {s : List UInt8} {P G : AV} {H0 H : AHeap} {X : AV} {R : List Nat} (hsl : s.length = n) (hT : TabH (szM may) n H0 X R (fun i j => i ≤ j) H) (hRl : R.length = n + 1) (hn : n ≤ 40) (hf : 1000 < fuel)
    (h53 : ∀ a b, a < b → b < n → ∀ (H : AHeap), cf 53 [.str s, P, G, nA a, nA b] H = some (.bool (may a b), H))
    (h36 : ∀ H', H'.m = H.m → H.next ≤ H'.next → ∃ v H'', cf 36 [X] H' = some (v, H'') ∧ RdR 2 H'' v (szM may 0 n).length (zC (szM may 0 n)) ∧ H''.m = H'.m ∧ H'.next ≤ H''.next)
    (h56 : ∀ (f : List UInt8) (H : AHeap), f.length ≤ 40 → ∃ v H', cf 56 [.str f] H = some (v, H') ∧ v = nA (sizeF f) ∧ H'.m = H.m ∧ H.next ≤ H'.next)
    (h57 : ∀ (st : List Nat) (i : Nat) (O : AV) (H' : AHeap), TabH (szM may) n H0 X R (fun i j => i ≤ j) H' → RowE 1 H' O st.length (st.reverse.map nA) → i ≤ n → (∀ l ∈ st, l < i) → st.length ≤ 41 → ∃ v H'', cf 57 [X, .str s, P, G, nA i, O] H' = some (v, H'') ∧ v = zA (mostR may n st i) ∧ H''.m = H'.m ∧ H'.next ≤ H''.next) :
    ∃ v H', xfunc cf fuel L18 [X, .str s, P, G] H = some (v, H') ∧ v = .str (firstN may n 0) := by
  refine xfunc_ofK rfl (by show 4 ≤ 97; omega) ?_
  have hslen : ∀ {q : Nat} {Hq : AHeap} {K : KL0} {x : XO}, evK K x = some (.str s) → XV cf K Hq q (.slen x) = some (nA n, Hq) := fun {q Hq K x} hx => by
    have := k_slen (cf := cf) (n := q) (H := Hq) hx
    rwa [hsl] at this
  have hlM : (szM may 0 n).length = lenN may n 0 := rfl
  have hpM := lenN_pos may n 0
  have hbM := lenN_le may n 0
  have hsubM : ∀ {q : Nat} {Hq : AHeap} {K : KL0} {x : XO}, evK K x = some (nA (szM may 0 n).length) → XV cf K Hq q (.bin .sub x (.k (.int .i64 (.ofNat 1)))) = some (nA (lenN may n 0 - 1), Hq) := fun {q Hq K x} hx => k_subN (b := 1) hx rfl (by omega) (by omega)
  unfold L18
  dsimp only
  repeat' (first | refine WK.seq ?_ | (apply WK.reg; (· exact lnn)) | refine WKO.nil ?_ | ((first | apply WKO.op); (· first | exact k_mv rfl); (· rfl)) | refine pN ?_ | fail)
  refine WKO.callV rfl rfl rfl (h36 _ rfl nxx) ?_
  rintro Y H1 ⟨rY, m1, n1⟩
  repeat' (first | refine WK.seq ?_ | (apply WK.reg; (· exact lnn)) | refine WKO.nil ?_ | ((first | apply WKO.op); (· first | exact k_mv rfl | exact k_lenE rfl rY | exact hsubM rfl); (· rfl)) | refine pN ?_ | fail)
  have m1' : H1.m = H.m := m1
  simp only [next_bump] at n1
  refine WKO.bsZ (z' := 1) nxx ?_
  intro H2 r2 n2 g2
  repeat' (first | refine WK.seq ?_ | refine WK.block ?_ | (apply WK.reg; (· exact lnn)) | refine WKO.nil ?_ | ((first | apply WKO.op); (· first | exact k_mv rfl); (· rfl)) | refine pN ?_ | fail)
  have hT2 := (hT.same_m (H' := H1) m1' (by omega)).up (H' := H2) (by rw [n2]; exact nxx) (fun q hq => (g2 q (by omega)).trans rfl)
  refine WK.loop (α := Nat × List UInt8 × List Nat × AV) (fun t => [(0, X), (1, .str s), (2, P), (3, G), (9, nA (lenN may n 0 - 1)), (10, .str t.2.1), (11, t.2.2.2), (12, nA t.1)])
    (fun t H' => TabH (szM may) n H0 X R (fun i j => i ≤ j) H' ∧ RowE 1 H' t.2.2.2 t.2.2.1.length (t.2.2.1.reverse.map nA) ∧ InvG may n t.1 t.2.1 t.2.2.1 ∧ (∀ l ∈ t.2.2.1, l < t.1) ∧ t.2.2.1.length ≤ t.1 ∧ t.1 ≤ n) (fun t => n - t.1) (0, [], [], _) (.cons rfl <| .cons rfl <| .cons rfl <| .cons rfl <| .cons rfl <| .cons rfl <| .cons rfl <| .cons rfl <| .nil _) ⟨hT2.same_m rfl nxx, r2.frame nxx (fun _ _ => rfl), InvG.start may n, fun l hl => (by cases hl), Nat.le_refl _, Nat.zero_le _⟩ (by show n - 0 < fuel; omega) ?_
  rintro ⟨i, f, st, O⟩ H3 ⟨hT3, hO3, hI, hst, hsi, hi⟩
  simp only at hT3 hO3 hI hst hsi hi ⊢
  clear hT hT2 r2 g2 n2 m1' rY
  have hfl := hI.l
  by_cases hin : i < n
  · repeat' (first | refine WK.seq ?_ | refine WK.skip ?_ | refine WK.block ?_ | (apply WK.reg; (· exact lnn)) | refine WKO.nil ?_ | ((first | apply WKO.op); (· first | exact k_mv rfl | exact hslen rfl | exact opA); (· rfl)) | refine pN ?_ | (apply WK.condT; (· rfl); (· exact dcd)) | fail)
    refine WKO.callV rfl rfl rfl (h56 f _ (by omega)) ?_
    rintro v4 H4 ⟨rfl, m4, n4⟩
    have m4' : H4.m = H3.m := m4
    simp only [next_bump] at n4
    repeat' (first | refine WK.seq ?_ | (apply WK.reg; (· exact lnn)) | refine WKO.nil ?_ | ((first | apply WKO.op); (· first | exact k_mv rfl); (· rfl)) | refine pN ?_ | fail)
    refine WKO.bsZ (z' := 1) nxx ?_
    intro H5 r5 n5 g5
    have hk5 : ∀ q, q < H3.next → H5.get q = H3.get q := fun q hq => (g5 q (by omega)).trans (show H4.m.get q = _ by rw [m4']; rfl)
    have hT5 := hT3.up (H' := H5) (by rw [n5]; exact nxx) hk5
    have hO5 := hO3.frame (H' := H5) (by rw [n5]; exact nxx) (fun q hq => hk5 q (hO3.own_lt hq))
    repeat' (first | ((first | apply WKO.op); (· first | exact k_mv rfl); (· rfl)) | fail)
    refine WKO.appR (z := 1) (len := 0) (cs := []) rfl rfl r5 (RdR.of hO5) (by decide) (by simp [AV.oneCell, nA]) (by omega) (by decide) ?_
    intro v6 H6 r6 n6 g6 o6
    repeat' (first | ((first | apply WKO.op); (· first | exact k_mv rfl); (· rfl)) | fail)
    refine WKO.ap1c (bytes := 8) (by decide) r6 rfl (Nat.le_refl _) (by simp only [next_bump] at n5; omega) (fun e => by
      simp only [next_bump] at n5
      rcases o6 _ e with w | w
      · simp only [AV.own, Option.some.injEq] at w; omega
      · omega) (by omega) rfl rfl rfl rfl ?_
    intro v7 H7 r7 n7 g7 o7
    rw [List.nil_append, Nat.zero_add] at r7
    have r7' : RowE 1 H7 v7 (i :: st).length ((i :: st).reverse.map nA) := by rw [List.reverse_cons, List.map_append]; exact r7
    have hk7 : ∀ q, q < H3.next → H7.get q = H3.get q := fun q hq => (g7 q (by simp only [next_bump] at n5; omega) (by omega) (fun e => by
      simp only [next_bump] at n5
      rcases o6 _ e with w | w
      · simp only [AV.own, Option.some.injEq] at w; omega
      · omega)).trans ((g6 q (by simp only [next_bump] at n5; omega) (fun e => by simp only [AV.own, Option.some.injEq] at e; omega)).trans (hk5 q hq))
    have hn7 : H3.next ≤ H7.next := by simp only [next_bump] at n5; omega
    have hT7 := hT3.up hn7 hk7
    have hO7 := hO3.frame hn7 (fun q hq => hk7 q (hO3.own_lt hq))
    clear r7 g7 o7 r6 g6 o6 r5 g5 hT5 hO5 hk5 n7 n6 n5
    repeat' (first | refine WK.seq ?_ | refine WK.block ?_ | (apply WK.reg; (· exact lnn)) | refine WKO.nil ?_ | ((first | apply WKO.op); (· first | exact k_mv rfl | exact k_lenE rfl (RdR.of hO7) | exact opA); (· rfl)) | refine pN ?_ | fail)
    have hT8 := hT7.same_m (H' := (H7.bump 3).bump 14) rfl nxx
    have hO8 := r7'.frame (H' := (H7.bump 3).bump 14) nxx (fun _ _ => rfl)
    have hsf : sizeF f ≤ i := by
      have := List.countP_le_length (p := fun x : UInt8 => x == 40) (l := f)
      rw [hfl] at this
      exact this
    have hbd := mostR_bound may n (i :: st) (i + 1) (by omega)
    refine WKO.callV rfl rfl rfl (h57 (i :: st) (i + 1) v7 _ hT8 hO8 (by omega) (fun l hl => by
      rcases List.mem_cons.1 hl with rfl | hl
      · omega
      · have := hst l hl; omega) (by rw [List.length_cons]; omega)) ?_
    rintro v9 H9 ⟨rfl, m9, n9⟩
    have m9' : H9.m = H7.m := m9
    simp only [next_bump] at n9
    have hT9 := hT7.same_m m9' (by omega)
    have hO9 := hO7.frame (H' := H9) (by omega) (fun q _ => (show H9.m.get q = _ by rw [m9']; rfl))
    have r9 := r7'.frame (H' := H9) (by omega) (fun q _ => (show H9.m.get q = _ by rw [m9']; rfl))
    have hstp := hI.step may hin (by omega)
    have hM : ((lenN may n 0 - 1 : Nat) : Int) = (lenN may n 0 : Int) - 1 := by omega
    have stl : ∀ l ∈ i :: st, l < i + 1 := fun l hl => by
      rcases List.mem_cons.1 hl with rfl | hl
      · omega
      · have := hst l hl; omega
    clear hT3 hO3 hT7 hO7 r7' hk7 hT8 hO8
    cases st with
    | nil =>
      repeat' (first | refine WK.seq ?_ | (apply WK.reg; (· exact lnn)) | refine WKO.nil ?_ | ((first | apply WKO.op); (· first | exact k_mv rfl | exact k_addII rfl rfl (by omega) (by omega) | (apply k_addII (b := 1); (· rfl); (· rfl); (· omega); (· omega)) | exact k_eqII rfl rfl | exact k_catS rfl rfl (by rw [hfl]; show i + 1 < 1000000; omega) | exact opA); (· rfl)) | ((first | apply WKO.gnoT); (· rfl); (· exact dcd)) | refine pN ?_ | refine bN ?_ | (apply WK.condF; (· rfl); (· exact dcd)) | (apply WK.condD; (· rfl); all_goals intro _) | fail)
      · rename_i h
        have e : stepG may n i f [] = (f ++ [40], [i]) := by unfold stepG; rw [if_pos (by omega)]
        rw [e] at hstp
        exact ⟨(i + 1, f ++ [40], [i], v7), (.cons rfl <| .cons rfl <| .cons rfl <| .cons rfl <| .cons rfl <| .cons rfl <| .cons rfl <| .cons rfl <| .nil _), ⟨hT9.same_m rfl nxx, r9.frame nxx (fun _ _ => rfl), hstp, stl, by show 1 ≤ i + 1; omega, by show i + 1 ≤ n; omega⟩, by show n - (i + 1) < n - i; omega⟩
      · rename_i h
        have e : stepG may n i f [] = (f ++ [46], []) := by unfold stepG; rw [if_neg (by omega)]
        rw [e] at hstp
        exact ⟨(i + 1, f ++ [46], [], O), (.cons rfl <| .cons rfl <| .cons rfl <| .cons rfl <| .cons rfl <| .cons rfl <| .cons rfl <| .cons rfl <| .nil _), ⟨hT9.same_m rfl nxx, hO9.frame nxx (fun _ _ => rfl), hstp, fun l hl => (by cases hl), by show 0 ≤ i + 1; omega, by show i + 1 ≤ n; omega⟩, by show n - (i + 1) < n - i; omega⟩
    | cons l st =>
      have hli : l < i := hst l List.mem_cons_self
      rw [List.length_cons] at hsi
      have hgt : ∀ {q : Nat} {Hq : AHeap} {K : KL0} {x : XO}, evK K x = some (nA (l :: st).length) → XV cf K Hq q (.bin .gtr x (.k (.int .i64 (.ofNat 0)))) = some (.bool true, Hq) := fun {q Hq K x} hx => k_bin hx rfl (by
        show some (AV.bool (decide (((l :: st).length : Int) > 0))) = _
        rw [decide_eq_true (by rw [List.length_cons]; omega)])
      have hsubL : ∀ {q : Nat} {Hq : AHeap} {K : KL0} {x : XO}, evK K x = some (nA (l :: st).length) → XV cf K Hq q (.bin .sub x (.k (.int .i64 (.ofNat 1)))) = some (nA st.length, Hq) := fun {q Hq K x} hx => by
        have := k_subN (cf := cf) (n := q) (H := Hq) (b := 1) (y := .k (.int .i64 (.ofNat 1))) hx rfl (by rw [List.length_cons]; omega) (by rw [List.length_cons]; omega)
        rwa [List.length_cons, Nat.add_sub_cancel] at this
      have hlast : ((l :: st).reverse.map nA)[st.length]? = some (nA l) := by
        rw [List.getElem?_map, List.reverse_cons, List.getElem?_append_right (by simp)]
        simp
      obtain ⟨w, hw1, hw2⟩ := frontU hO9 (m := st.length) (by rw [List.length_cons]; omega) (by rw [List.length_cons]; omega)
      rw [Nat.mul_one, ← List.map_take, List.reverse_cons, List.take_left' (by simp)] at hw2
      have hcut : ∀ {q : Nat} {Hq : AHeap} {K : KL0} {x y : XO}, evK K x = some O → evK K y = some (nA st.length) → XV cf K Hq q (.cut 1 x none (some y) none) = some (w, Hq) := fun hx hy => k_cut hx (hw1 _ _ hy)
      have hbd2 := mostR_bound may n st (i + 1) (by omega)
      obtain ⟨v10, H10, e10, rfl, m10, n10⟩ := h57 st (i + 1) w (H9.bump 32) (hT9.same_m rfl nxx) (hw2.frame nxx (fun _ _ => rfl)) (by omega) (fun q hq => by have := hst q (List.mem_cons_of_mem _ hq); omega) (by omega)
      have m10' : H10.m = H9.m := m10
      simp only [next_bump] at n10
      have hT10 := hT9.same_m m10' (by omega)
      have hO10 := hO9.frame (H' := H10) (by omega) (fun q _ => (show H10.m.get q = _ by rw [m10']; rfl))
      have w10 := hw2.frame (H' := H10) (by omega) (fun q _ => (show H10.m.get q = _ by rw [m10']; rfl))
      repeat' (first | refine WK.seq ?_ | (apply WK.reg; (· exact lnn)) | refine WKO.nil ?_ | ((first | apply WKO.op | ((first | apply WKO.gop); (· rfl); (· exact dcd))); (· first | exact k_mv rfl | exact k_addII rfl rfl (by omega) (by omega) | (apply k_addII (b := 1); (· rfl); (· rfl); (· omega); (· omega)) | exact k_eqII rfl rfl | exact k_catS rfl rfl (by rw [hfl]; show i + 1 < 1000000; omega) | exact hgt rfl | exact hsubL rfl | exact k_iaE rfl rfl (RdR.of hO9) (by rw [List.length_cons]; omega) | (apply k_ld1; (· rfl); (· exact hO9); (· rfl); (· exact hlast)) | exact hcut rfl rfl | (apply k_call; (· rfl); (· rfl); (· first | exact h53 l i hli hin _ | exact e10)) | exact opA); (· rfl)) | ((first | apply WKO.gnoT); (· rfl); (· exact dcd)) | ((first | apply WKO.gspB); (· rfl); all_goals ((fail_if_success (refine known ?_ ?_; (· assumption))); intro _)) | refine pN ?_ | refine bN ?_ | (apply WK.condF; (· rfl); (· exact dcd)) | (apply WK.condD; (· rfl); all_goals intro _) | fail)
      · rename_i h
        have e : stepG may n i f (l :: st) = (f ++ [40], i :: l :: st) := by unfold stepG; rw [if_pos (by omega)]
        rw [e] at hstp
        exact ⟨(i + 1, f ++ [40], i :: l :: st, v7), (.cons rfl <| .cons rfl <| .cons rfl <| .cons rfl <| .cons rfl <| .cons rfl <| .cons rfl <| .cons rfl <| .nil _), ⟨hT9.same_m rfl nxx, r9.frame nxx (fun _ _ => rfl), hstp, stl, by show st.length + 1 + 1 ≤ i + 1; omega, by show i + 1 ≤ n; omega⟩, by show n - (i + 1) < n - i; omega⟩
      · rename_i h hm h2
        have e : stepG may n i f (l :: st) = (f ++ [41], st) := by
          unfold stepG
          rw [if_neg (by omega)]
          simp only
          rw [if_pos ⟨hm, by omega⟩]
        rw [e] at hstp
        refine WKO.bsZ (z' := 1) nxx ?_
        intro H11 r11 n11 g11
        have hk11 : ∀ q, q < H10.next → H11.get q = H10.get q := fun q hq => (g11 q (by omega)).trans rfl
        simp only [next_bump] at n11
        have w11 := w10.frame (H' := H11) (by omega) (fun q hq => hk11 q (w10.own_lt hq))
        repeat' (first | ((first | apply WKO.op); (· first | exact k_mv rfl | exact hsubL rfl | exact hcut rfl rfl); (· rfl)) | fail)
        refine WKO.appR (z := 1) (len := 0) (cs := []) rfl rfl r11 (RdR.of w11) (by decide) (by simp [AV.oneCell, nA]) (by omega) (by decide) ?_
        intro v12 H12 r12 n12 g12 o12
        rw [List.nil_append, Nat.zero_add] at r12
        repeat' (first | (apply WK.reg; (· exact lnn)) | refine WKO.nil ?_ | ((first | apply WKO.op); (· first | exact k_mv rfl | exact opA); (· rfl)) | refine pN ?_ | refine bN ?_ | fail)
        refine ⟨(i + 1, f ++ [41], st, v12), (.cons rfl <| .cons rfl <| .cons rfl <| .cons rfl <| .cons rfl <| .cons rfl <| .cons rfl <| .cons rfl <| .nil _), ⟨(hT10.up (H' := H12) (by omega) (fun q hq => (g12 q (by omega) (fun e => by simp only [AV.own, Option.some.injEq] at e; omega)).trans (hk11 q hq))).same_m rfl nxx, r12.frame nxx (fun _ _ => rfl), hstp, fun q hq => by have := hst q (List.mem_cons_of_mem _ hq); show q < i + 1; omega, by show st.length ≤ i + 1; omega, by show i + 1 ≤ n; omega⟩, by show n - (i + 1) < n - i; omega⟩
      · rename_i h hm h2
        have e : stepG may n i f (l :: st) = (f ++ [46], l :: st) := by
          unfold stepG
          rw [if_neg (by omega)]
          simp only
          rw [if_neg (fun q => h2 (by have := q.2; omega))]
        rw [e] at hstp
        exact ⟨(i + 1, f ++ [46], l :: st, O), (.cons rfl <| .cons rfl <| .cons rfl <| .cons rfl <| .cons rfl <| .cons rfl <| .cons rfl <| .cons rfl <| .nil _), ⟨hT10.same_m rfl nxx, hO10.frame nxx (fun _ _ => rfl), hstp, fun q hq => by have := hst q hq; show q < i + 1; omega, by show st.length + 1 ≤ i + 1; omega, by show i + 1 ≤ n; omega⟩, by show n - (i + 1) < n - i; omega⟩
      · rename_i h hm
        have e : stepG may n i f (l :: st) = (f ++ [46], l :: st) := by
          unfold stepG
          rw [if_neg (by omega)]
          simp only
          rw [if_neg (fun q => by rw [hm] at q; exact absurd q.1 (by decide))]
        rw [e] at hstp
        exact ⟨(i + 1, f ++ [46], l :: st, O), (.cons rfl <| .cons rfl <| .cons rfl <| .cons rfl <| .cons rfl <| .cons rfl <| .cons rfl <| .cons rfl <| .nil _), ⟨hT9.same_m rfl nxx, hO9.frame nxx (fun _ _ => rfl), hstp, fun q hq => by have := hst q hq; show q < i + 1; omega, by show st.length + 1 ≤ i + 1; omega, by show i + 1 ≤ n; omega⟩, by show n - (i + 1) < n - i; omega⟩
  · have hin2 : i = n := by omega
    subst hin2
    repeat' (first | refine WK.seq ?_ | refine WK.exit ?_ | (apply WK.reg; (· exact lnn)) | refine WKO.nil ?_ | ((first | apply WKO.op); (· first | exact k_mv rfl | exact hslen rfl | exact opA); (· rfl)) | refine pN ?_ | refine pX ?_ | refine bX ?_ | (apply WK.condF; (· rfl); (· exact dcd)) | fail)
    refine ⟨fun _ => ?_, fun q => absurd rfl q⟩
    repeat' (first | refine WK.seq ?_ | refine WK.ret ?_ | (apply WK.reg; (· exact lnn)) | refine WKO.nil ?_ | ((first | apply WKO.op); (· first | exact k_mv rfl); (· rfl)) | refine pN ?_ | fail)
    exact ⟨fun id q => (by cases q), _, rfl, congrArg AV.str hI.done⟩
end Go.Proofs.YtfcgofffalmdfaaGreatDoor.PA
namespace Go.Proofs.YtfcgofffalmdfaaGreatDoor.PA
open Go Go.Eng Go.Proofs
section
variable {cf : CF} {n : Nat} {H' : AHeap} {l : KL0} {x y : XO} {v : AV} {b : List Nat} {r : List XOper} {R : KL0 → AHeap → Prop}
end
theorem mem_sum {l : List Nat} {n : Nat} (h : n ∈ l) : n ≤ l.sum := by
  obtain ⟨a, b, rfl⟩ := List.append_of_mem h
  rw [List.sum_append, List.sum_cons]
  omega
end Go.Proofs.YtfcgofffalmdfaaGreatDoor.PA
namespace Go.Proofs.YtfcgofffalmdfaaGreatDoor.PA
open Go Go.Eng Go.Proofs
theorem First_pure (s : List UInt8) (l : List (Int × Int)) (gap : Int) (H : AHeap) : CallOK Tryz.prog 14 [.str s, pairsI l, .int .i64 gap] H (.tup [.str (FirstV s l gap).1, .int .i64 (FirstV s l gap).2]) H := by
  obtain ⟨H', h⟩ := First_call s l gap
  exact h.pure (by simp only [AV.frozL, pairs_froz, AV.froz, Bool.and_self]) (Fz.froz rfl)
noncomputable def KW : CF := fun f args H => if f ∈ [18, 56, 57] then none else match f, args with
  | 14, [.str s, P, .int .i64 gap] => (unP P).map fun l => (.tup [.str (FirstV s l gap).1, .int .i64 (FirstV s l gap).2], H)
  | _, _ => KV f args H
theorem KW_ok : CFok Tryz.prog KW := by
  intro f args H v H' h
  unfold KW at h
  split at h
  · cases h
  · split at h
    · obtain ⟨l, h1, h2⟩ := Option.map_eq_some_iff.1 h
      cases h2
      rw [unP_some h1]
      exact First_pure _ l _ H
    · exact KV_ok _ _ _ _ _ h
theorem KW_still : Still KW := by
  intro f args H v H' h
  unfold KW at h
  split at h
  · cases h
  · split at h
    · obtain ⟨l, h1, h2⟩ := Option.map_eq_some_iff.1 h
      cases h2; rfl
    · exact KV_still _ _ _ _ _ h
theorem KW_none {f : Nat} {args : List AV} {H : AHeap} (h : f ∈ [18, 56, 57]) : KW f args H = none := by
  unfold KW
  rw [if_pos h]
theorem KW_V {f : Nat} {args : List AV} {H : AHeap} (h : f ∉ [14, 18, 56, 57]) : KW f args H = KV f args H := by
  unfold KW
  rw [if_neg (fun e => h (List.mem_cons_of_mem _ e))]
  split
  · exact absurd (by decide) h
  · rfl
theorem KW_no {f : Nat} {args : List AV} {H : AHeap} (h : f ∈ [13, 17, 36, 37, 38, 54, 55, 75]) (h2 : f ∉ [14, 18, 56, 57]) : KW f args H = none := (KW_V h2).trans (KV_none h)
theorem KW_E {f : Nat} {args : List AV} {H : AHeap} {r : AV × AHeap} (h : KE f args H = some r) (h1 : f ∉ [12, 13, 17, 36, 37, 38, 54, 55, 75]) (h2 : f ∉ [24, 16, 25, 31, 26]) (h3 : f ∉ [14, 18, 56, 57]) : KW f args H = some r := (KW_V h3).trans (KV_E h h1 h2)
noncomputable abbrev kwn := xcallK KW F 3000
set_option maxHeartbeats 16000000 in
theorem x3 (l0 : List (Int × Int)) (gap : Int) (x : List UInt8) :
    ∃ v H', xfunc (xcallK KW F 3000 44) 3000 L3 [.agg [pairsI l0, .int .i64 gap], .str x] ⟨.e, 0⟩ = some (v, H') ∧ v = .bool true := by
  refine xfunc_ofK rfl (by show 2 ≤ 58; omega) ?_
  have hcc : CleanCF (kwn 44) := xcallK_clean KW_still.clean 44
  have hcl : Go.Eng.Clean ⟨.e, 0⟩ := fun j _ => get_e0 j
  have hF := HF.start ⟨.e, 0⟩
  generalize (⟨.e, 0⟩ : AHeap) = H at hcl hF ⊢
  have c12 : ∀ {H' : AHeap}, kwn 44 12 [.agg [pairsI l0, .int .i64 gap]] H' = some (.tup [pairsI (l0.take 17), .int .i64 gap], H') := cfhit ((KW_V (by decide)).trans (KV_few _ _ _))
  unfold L3
  dsimp only
  repeat' (first | refine WK.seqC (by assumption) ?_ | intro (_ : CleanTo _ _) | (apply WK.reg; (· exact lnn)) | (apply WKO.boxO; (· rfl); (· assumption); (· rfl); (· exact nxx); (· exact nxx); (· exact nxx); intro _ _ _) | refine WKO.nil ?_ | ((first | apply WKO.op); (· first | exact k_mv rfl | (apply k_call; (· rfl); (· rfl); (· exact c12)) | (apply k_ldA; (· rfl); (· assumption); (· rfl); (· exact mmb); (· first | rfl)) | exact opA); (· rfl)) | refine pN ?_ | fail)
  rename_i H1 hF1 hn1 hc1 hc2
  refine WKO.callV rfl rfl rfl (show ∃ v H', kwn 44 13 [.str x, nA 16] ((H1.bump 7).bump 3) = some (v, H') ∧ v = .str (cutS x 16) ∧ H'.m = ((H1.bump 7).bump 3).m ∧ ((H1.bump 7).bump 3).next ≤ H'.next from by
    obtain ⟨v, H', q1, q2⟩ := cut_walk (cf := kwn 43) (fuel := 3000) (H := (H1.bump 7).bump 3) (x := x) (m := 16)
    exact ⟨v, H', (cfstep (KW_no (by decide) (by decide)) rfl).trans q1, q2⟩) ?_
  rintro _ H2 ⟨rfl, m2, n2⟩
  have hC1 := hc1.1 hcl
  have hC2 : Go.Eng.Clean H2 := fun j hj => (show H2.m.get j = _ by rw [m2]; exact hC1 j (by simp only [next_bump] at n2; omega))
  clear c12 hF hF1 hc1 hc2 m2
  generalize cutS x 16 = s
  generalize l0.take 17 = l
  have c15 : ∀ {H' : AHeap} {k : Nat}, kwn k 15 [.str s, pairsI l, .int .i64 gap] H' = some (zA (readE s l gap), H') := fun {H' k} => cfhit (KW_E (E15 _ _ _ _) (by decide) (by decide) (by decide))
  have c14 : ∀ {H' : AHeap} {k : Nat}, kwn k 14 [.str s, pairsI l, .int .i64 gap] H' = some (.tup [.str (FirstV s l gap).1, .int .i64 (FirstV s l gap).2], H') := fun {H' k} => cfhit (by
      unfold KW
      rw [if_neg (by decide)]
      show (unP (pairsI l)).map _ = _
      rw [unP_V, Option.map_some])
  have c16 : ∀ {H' : AHeap} {k : Nat}, kwn k 16 [] H' = some (.bool true, H') := fun {H' k} => cfhit ((KW_V (by decide)).trans (by
      unfold KV
      rw [if_neg (by decide)]
      rfl))
  by_cases hE : readE s l gap = 0
  · have v1 : FirstV s l gap = (fsF s (rulesOf l) gap 0 s.length, 0) := by unfold FirstV; rw [if_pos hE]
    simp only [v1] at c14
    rw [hE] at c15
    have hs40 := (readE_zero hE).1
    have hz52 : ∀ (n : Nat), n < 100 → ∀ {k : Nat} (H : AHeap), kwn k 52 [nA n] H = some (zN n, H) := fun n h {k} H => cfhit (KW_E (E52 (by omega) H) (by decide) (by decide) (by decide))
    have hz66 : ∀ (m n : Nat), m < bigN → n < bigN → ∀ {k : Nat} (H : AHeap), kwn k 66 [zN m, zN n] H = some (zN (m + n), H) := fun m n hm hn {k} H => cfhit (KW_E (E66 (by have := dz_big hm; omega) (by have := dz_big hn; omega) H) (by decide) (by decide) (by decide))
    have hz72 : ∀ (m n : Nat), m < bigN → n < bigN → ∀ {k : Nat} (H : AHeap), kwn k 72 [zN m, zN n] H = some (zN (m * n), H) := fun m n hm hn {k} H => cfhit (KW_E (E72 (by have := dz_big hm; omega) (by have := dz_big hn; omega) H) (by decide) (by decide) (by decide))
    have h53 : ∀ a b, a < b → b < s.length → ∀ (k : Nat) (H : AHeap), kwn k 53 [.str s, pairsI l, .int .i64 gap, nA a, nA b] H = some (.bool (mayF s (rulesOf l) gap a b), H) := fun a b hab hb k H => cfhit (KW_E (E53 hE hab hb H) (by decide) (by decide) (by decide))
    have h17 : ∀ {H' : AHeap}, Go.Eng.Clean H' → ∃ v H1, kwn 44 17 [.str s, pairsI l, .int .i64 gap] H' = some (v, H1) ∧ ∃ R, R.length = s.length + 1 ∧ TabH (szM (mayF s (rulesOf l) gap)) s.length H' v R (fun i j => i ≤ j) H1 := fun {H'} hc => by
      obtain ⟨v, H1, q1, q2⟩ := TabOf_ok (cf := kwn 43) (xcallK_clean KW_still.clean 43) (fuel := 3000) hc hE (by decide) (hz52 1 (by decide)) (fun i j hij hj H => h53 i j hij hj _ H)
        (fun X Y a b H hX hY ha hb hs => by
          obtain ⟨v, H', p1, p2⟩ := plusS_ok (cf := kwn 42) (fuel := 3000) hX hY ha hb (by decide) (hz52 0 (by decide)) (fun m n hm hn H => hz66 m n (by
            rcases hm with rfl | hm
            · exact Nat.lt_of_le_of_lt (Nat.zero_le _) hs
            · have := mem_sum hm; omega) (by
            rcases hn with hn | hn
            · have := mem_sum hn; omega
            · have := mem_sum hn; omega) H)
          exact ⟨v, H', (cfstep (KW_no (by decide) (by decide)) rfl).trans p1, p2⟩)
        (fun X Y a b H hX hY ha hb ha0 hb0 hs hsa hsb => by
          obtain ⟨v, H', p1, p2⟩ := timesS_ok (cf := kwn 42) (fuel := 3000) hX hY ha hb ha0 hb0 (by decide) hs hsa hsb (hz52 0 (by decide)) (fun m n hmn H => hz66 m n (by omega) (by omega) H) (fun m n hm hn H => hz72 m n hm hn H)
          exact ⟨v, H', (cfstep (KW_no (by decide) (by decide)) rfl).trans p1, p2⟩)
      exact ⟨v, H1, (cfstep (KW_no (by decide) (by decide)) rfl).trans q1, q2⟩
    have h75 : ∀ (k : Nat) (X : AV) (b : List Nat) (H : AHeap), RdR 2 H X b.length (zC b) → 0 < b.length → b.length < 400 → ∃ v H', kwn (k + 1) 75 [X] H = some (v, H') ∧ v = nA (topN b (b.length - 1)) ∧ H'.m = H.m ∧ H.next ≤ H'.next := fun k X b H hX h0 hb => by
      obtain ⟨v, H', p1, p2⟩ := top_walk (cf := kwn k) (fuel := 3000) hX h0 hb (by decide) (fun n H => cfhit (KW_E (E109 n H) (by decide) (by decide) (by decide)))
      exact ⟨v, H', (cfstep (KW_no (by decide) (by decide)) rfl).trans p1, p2⟩
    repeat' (first | refine WK.seqC (by assumption) ?_ | intro (_ : CleanTo _ _) | refine WK.skip ?_ | (apply WK.reg; (· exact lnn)) | refine WKO.nil ?_ | ((first | apply WKO.op); (· first | exact k_mv rfl | (apply k_call; (· rfl); (· rfl); (· first | exact c14 | exact c15)) | exact k_neE rfl | exact opA); (· rfl)) | refine pN ?_ | (apply WK.condF; (· rfl); (· exact dcd)) | fail)
    refine WKO.callV rfl rfl rfl (h17 (fun j hj => hC2 j (by simp only [next_bump] at hj; omega))) ?_
    rintro X H17 ⟨R, hRl, hT⟩
    repeat' (first | ((first | apply WKO.op); (· first | exact k_mv rfl); (· rfl)) | fail)
    obtain ⟨v18, H18, e18, rfl⟩ : ∃ v H', kwn 44 18 [X, .str s, pairsI l, .int .i64 gap] H17 = some (v, H') ∧ v = .str (fsF s (rulesOf l) gap 0 s.length) := by
      have hpos : 0 < (szM (mayF s (rulesOf l) gap) 0 s.length).length := lenN_pos _ _ _
      have hlen : (szM (mayF s (rulesOf l) gap) 0 s.length).length < 400 := by
        have := lenN_le (mayF s (rulesOf l) gap) (s.length - 0) 0
        have e : (szM (mayF s (rulesOf l) gap) 0 s.length).length = lenN (mayF s (rulesOf l) gap) (s.length - 0) 0 := rfl
        omega
      have hlast : (szM (mayF s (rulesOf l) gap) 0 s.length).getD ((szM (mayF s (rulesOf l) gap) 0 s.length).length - 1) 0 ≠ 0 := Nat.ne_of_gt (sizes_allP _ _ _ _ (by
        show _ < (szM (mayF s (rulesOf l) gap) 0 s.length).length
        omega))
      obtain ⟨v, H', p1, p2⟩ := firstT_walk (cf := kwn 43) (fuel := 3000) rfl hT hRl hs40 (by decide) (fun a b hab hb H => h53 a b hab hb _ H)
        (fun H' hm hn => by
          obtain ⟨v, H'', p1, p2⟩ := sizesT_walk (cf := kwn 42) (fuel := 3000) (hT.same_m hm hn) hRl hs40 hpos hlen hlast (h75 41)
          exact ⟨v, H'', (cfstep (KW_no (by decide) (by decide)) rfl).trans p1, p2⟩)
        (fun f H hf => by
          obtain ⟨v, H', p1, p2⟩ := Size_ok (cf := kwn 42) (fuel := 3000) (H := H) f (by omega) (by omega)
          exact ⟨v, H', (cfstep (KW_none (by decide)) rfl).trans p1, p2⟩)
        (fun st i O H' hT' hO hi hst hl => most_call (K := KW) (fuel := 3000) rfl hRl hs40 (by decide) (fun _ _ => KW_none (by decide)) h53 h75 st 41 i O H' hT' hO hi hst (by omega) hl)
      exact ⟨v, H', (cfstep (KW_none (by decide)) rfl).trans p1, by rw [p2]; rfl⟩
    have q1 : ∀ {n : Nat} {Hq : AHeap} {K : KL0} {x y : XO} {z : Int}, evK K x = some (.int .i64 z) → evK K y = some (.int .i64 z) → XV (kwn 44) K Hq n (.bin .eql x y) = some (.bool true, Hq) := fun hx hy => k_bin hx hy (by simp [binA, intCmpA])
    have q2 : ∀ {n : Nat} {Hq : AHeap} {K : KL0} {x y : XO} {z : List UInt8}, evK K x = some (.str z) → evK K y = some (.str z) → XV (kwn 44) K Hq n (.bin .eql x y) = some (.bool true, Hq) := fun hx hy => k_bin hx hy (by simp [binA, strA])
    repeat' (first | intro (_ : CleanTo _ _) | refine WK.ret ?_ | refine WKO.nil ?_ | ((first | apply WKO.op | ((first | apply WKO.gop); (· rfl); (· exact dcd))); (· first | exact k_mv rfl | exact q1 rfl rfl | exact q2 rfl rfl | (apply k_call; (· rfl); (· rfl); (· first | exact e18 | exact c16)) | exact opA); (· rfl)) | refine pN ?_ | fail)
    exact ⟨fun id q => (by cases q), _, rfl, rfl⟩
  · have v1 : FirstV s l gap = ([], readE s l gap) := by unfold FirstV; rw [if_neg hE]
    simp only [v1] at c14
    generalize readE s l gap = e at *
    have q1 : ∀ {n : Nat} {Hq : AHeap} {K : KL0} {x y : XO} {z : Int}, evK K x = some (.int .i64 z) → evK K y = some (.int .i64 z) → XV (kwn 44) K Hq n (.bin .eql x y) = some (.bool true, Hq) := fun hx hy => k_bin hx hy (by simp [binA, intCmpA])
    have q2 : ∀ {n : Nat} {Hq : AHeap} {K : KL0} {x : XO}, evK K x = some (.str []) → XV (kwn 44) K Hq n (.bin .eql x (.k (.str []))) = some (.bool true, Hq) := fun hx => k_bin hx rfl rfl
    repeat' (first | refine WK.seqC (by assumption) ?_ | intro (_ : CleanTo _ _) | refine WK.ret ?_ | (apply WK.reg; (· exact lnn)) | refine WKO.nil ?_ | ((first | apply WKO.op | ((first | apply WKO.gop); (· rfl); (· exact dcd))); (· first | exact k_mv rfl | exact q1 rfl rfl | exact q2 rfl | (apply k_call; (· rfl); (· rfl); (· first | exact c14 | exact c15 | exact c16)) | exact k_neE rfl | exact opA); (· rfl)) | refine pN ?_ | refine pR ?_ | (apply WK.condT; (· rfl); (· exact dcd)) | fail)
    exact ⟨fun id q => (by cases q), _, rfl, rfl⟩
end Go.Proofs.YtfcgofffalmdfaaGreatDoor.PA
namespace Go.Proofs.YtfcgofffalmdfaaGreatDoor.PA
open Go Go.Eng Go.Proofs Go.RowKit Go.ChangeShapes Go.Deep
section
variable {H : Type} {enc : TypeId × Value → H} {P : Program} {w : World} {base : Nat} {held : Bool}
end
end Go.Proofs.YtfcgofffalmdfaaGreatDoor.PA
namespace Go.Proofs.YtfcgofffalmdfaaGreatDoor.PA
open Go Go.Eng Go.Proofs Go.RowKit Go.ChangeShapes Go.WideShapes Go.Deep Go.Joins
open Go.ChangeMaps (open_string)
theorem pairs_cells {E : Env} {w : World} {b : Nat} : ∀ (l : List (Int × Int)) (s : Nat), (∀ i p, l[i]? = some p → w.cell? ⟨b, s + i * 2, none⟩ = some (.int .i64 p.1) ∧ w.cell? ⟨b, s + i * 2 + 1, none⟩ = some (.int .i64 p.2)) →
    ∃ us, (∀ j u, us[j]? = some u → w.cell? ⟨b, s + j, none⟩ = some u) ∧ AVRelL E w (encPairs l) us
  | [], s, _ => ⟨[], fun j u h => (by cases h), by simp [encPairs, AVRelL]⟩
  | p :: l, s, h => by
    obtain ⟨us, h1, h2⟩ := pairs_cells (E := E) l (s + 2) (fun i q hq => by
      have := h (i + 1) q (by simpa using hq)
      rw [show s + (i + 1) * 2 = s + 2 + i * 2 by omega] at this
      exact this)
    obtain ⟨p1, p2⟩ := h 0 p rfl
    refine ⟨.int .i64 p.1 :: .int .i64 p.2 :: us, fun j u hu => ?_, ?_⟩
    · match j, hu with
      | 0, hu => cases hu; simpa using p1
      | 1, hu => cases hu; simpa using p2
      | j + 2, hu =>
        have := h1 j u hu
        rwa [show s + 2 + j = s + (j + 2) by omega] at this
    · have e : encPairs (p :: l) = [.int .i64 p.1, .int .i64 p.2] ++ encPairs l := rfl
      rw [e]
      simp only [List.cons_append, List.nil_append, AVRelL, AVRel]
      exact ⟨_, _, rfl, rfl, _, _, rfl, rfl, h2⟩
section
variable {H : Type} {enc : TypeId × Value → H} {w : World} {base : Nat} {held : Bool}
theorem read_pairs {v : Value} {x : DataW H × List MemPlace} {fuel : Nat} (hf : DataW.trod enc Tryz.prog w base (fun _ => true) held fuel 22 [v] = some x) : ∃ l : List (Int × Int), AVRel (E0 w) w (pairsI l) v := by
  have c59 : Tryz.prog.cellsOf 59 = 2 := by kernel_rfl
  have c3 : Tryz.prog.cellsOf 3 = 1 := by kernel_rfl
  rcases open_slice Tryz.underlying22 hf with ⟨h0, _⟩ | ⟨a, len, cap, m, n, D, Pl, h0, hb, hl, hm, hmm, _, hx⟩
  · cases h0
    refine ⟨[], ?_⟩
    unfold pairsI
    simp only [AVRel]
    exact .inl ⟨rfl, rfl, none, 0, rfl, by simp⟩
  · cases h0
    by_cases hz : len = 0
    · subst hz
      refine ⟨[], ?_⟩
      unfold pairsI
      simp only [AVRel]
      exact .inl ⟨rfl, rfl, some a, cap, rfl, by simp⟩
    · have hmc : m = cap := by simpa using hmm
      obtain ⟨f, hfn⟩ := choose_lt (n := len) (p := fun i (p : Int × Int) => w.cell? (a.add (i * 2)) = some (.int .i64 p.1) ∧ w.cell? (a.add (i * 2 + 1)) = some (.int .i64 p.2)) (fun i hi => by
        obtain ⟨cs', h1, h2⟩ := hx i (by omega)
        rw [c59] at h1
        obtain ⟨y0, y1, n2, _, hlen, t0, t1⟩ := trod_struct2 Tryz.underlying59 h2
        obtain ⟨_, hcl, hcell⟩ := World.cells?_some h1
        rw [c3] at t0 t1
        obtain ⟨z0, e0, _⟩ := DataW.trod_int Tryz.underlying3 t0
        obtain ⟨z1, e1, _⟩ := DataW.trod_int Tryz.underlying3 t1
        match cs', hcl with
        | [u0, u1], _ =>
          simp at e0 e1
          have q0 := hcell 0 (by omega)
          have q1 := hcell 1 (by omega)
          subst e0 e1
          exact ⟨(z0, z1), by simpa [Go.Deep.add_add] using q0, by simpa [Go.Deep.add_add] using q1⟩)
      have hs : a.spot = none := by
        have h0 := (hfn 0 (by omega)).1
        have h0' : w.cell? a = some (.int .i64 (f 0).1) := by simpa [Addr.add] using h0
        unfold World.cell? at h0'
        split at h0'
        · split at h0'
          · cases h0'
          · rename_i q
            simpa using q
        · cases h0'
      obtain ⟨b, s, sp⟩ := a
      simp only at hs
      subst hs
      have hadd : ∀ j, (⟨b, s, none⟩ : Addr).add j = ⟨b, s + j, none⟩ := fun j => by
        unfold Addr.add
        split
        · rename_i q; subst q; rfl
        · rfl
      obtain ⟨us, u1, u2⟩ := pairs_cells (E := E0 w) (w := w) (b := b) ((List.range len).map f) s (fun i p hp => by
        rw [List.getElem?_map, Option.map_eq_some_iff] at hp
        obtain ⟨i', h1, rfl⟩ := hp
        have hi' : i < len := by
          rcases Nat.lt_or_ge i len with q | q
          · exact q
          · rw [List.getElem?_eq_none (by simpa using q)] at h1; cases h1
        rw [List.getElem?_range hi'] at h1
        cases h1
        have := hfn _ hi'
        rw [hadd, hadd, ← Nat.add_assoc] at this
        exact this)
      refine ⟨(List.range len).map f, ?_⟩
      unfold pairsI
      simp only [AVRel, List.length_map, List.length_range]
      refine .inr ⟨b, s, cap, us, rfl, ?_, u1, u2, by omega, by simp⟩
      have h0 := (hfn 0 (by omega)).1
      rw [hadd] at h0
      exact World.block_lt_of_cell? _ _ h0
set_option maxRecDepth 100000 in
theorem read_rules {dm : Reach} {b2 : Nat} {v : Value} {d : DataW H} {ps : List MemPlace} (hv : Value.okWide Tryz.prog w dm b2 24 v) (h : DataW.Trod enc Tryz.prog w base (fun _ => true) held 24 v d ps) :
    ∃ (l : List (Int × Int)) (gap : Int), AVRel (E0 w) w (.agg [pairsI l, .int .i64 gap]) v := by
  obtain ⟨c0, c1, y0, y1, n, rfl, hd0, hp0, t0, t1⟩ := open_agg2 Tryz.underlying24 (by kernel_rfl) (by kernel_rfl) hv h
  obtain ⟨l, hl⟩ := read_pairs t0
  obtain ⟨gap, hg, _⟩ := DataW.trod_int Tryz.underlying3 t1
  simp only [List.cons.injEq, and_true] at hg
  subst hg
  refine ⟨l, gap, ?_⟩
  simp only [AVRel, AVRelL]
  exact ⟨_, rfl, _, _, rfl, hl, _, _, rfl, rfl, rfl⟩
set_option maxRecDepth 100000 in
theorem read_str {t : TypeId} {dm : Reach} {b2 : Nat} {v : Value} {d : DataW H} {ps : List MemPlace} (ht : Tryz.prog.underlying t = some .string) (hv : Value.okWide Tryz.prog w dm b2 t v) (h : DataW.Trod enc Tryz.prog w base (fun _ => true) held t v d ps) :
    ∃ s : List UInt8, AVRel (E0 w) w (.str s) v := by
  obtain ⟨a1, rfl, _⟩ := open_string ht hv h
  exact ⟨a1.data.toList, by simp only [AVRel]; exact ⟨_, rfl, rfl⟩⟩
end
end Go.Proofs.YtfcgofffalmdfaaGreatDoor.PA
namespace Go.Proofs.YtfcgofffalmdfaaGreatDoor.ropeFirsts
open Go Go.ChangeShapes Go.WideShapes Go.ChangeAt Go.RowKit Go.Deep Go.Joins Go.Eng
theorem own : ownKnob Tryz.prog.godebug = none := by kernel_rfl
theorem laidOut : laidOutB Tryz.prog = true := by kernel_rfl
theorem call (w : World) {ps : List (Int × Int)} {gap : Int} {s1 : List UInt8} {v0 v1 : Value} (h0 : AVRel (E0 w) w (.agg [PA.pairsI ps, .int .i64 gap]) v0) (h1 : AVRel (E0 w) w (.str s1) v1) :
    Calls Tryz.prog 3 #[v0, v1] w fun e w' => e = .returned (.bool true) ∧ Below w.heap.size w w' := by
  obtain ⟨v, H', q1, rfl⟩ := PA.x3 ps gap s1
  have h3 := (xfunc_sound PA.mixed (xcallK_sound PA.mixed PA.KW_ok PA.F_ok 3000 44) 3000 (PA.F_ok 3 PA.L3 rfl) q1).2 (E0 w) w [v0, v1] (rel0 w) (by
    simp only [AVRelL]
    exact ⟨_, _, rfl, h0, ⟨_, _, rfl, h1, rfl⟩⟩)
  refine h3.mono fun e w' ⟨u, E', he, hs, hr⟩ => ?_
  simp only [AVRel] at hr
  subst hr
  exact ⟨he, below0 hs⟩
set_option maxRecDepth 100000 in
theorem lifted (os : Os) (started : os.Started) (H : Type) (enc : TypeId × Value → H) :
    ReturnsInHanded {} Tryz.checked os 3 .any (fun w args => (Rows.ropeFirstsSpec.pre enc Tryz.prog Tryz.f3 Rows.ropeFirstsRow.domain false w args ∧ laidMetH Tryz.prog Rows.ropeFirstsRow.laid w) ∧ sizedMet enc Tryz.prog Tryz.f3 (OpenSpec.ofChange Rows.ropeFirstsSpec) false w args)
      (Rows.ropeFirstsSpec.post enc Tryz.prog Tryz.f3 false true false false) := by
  refine returnsInHanded_of_change_and (C := Tryz.checked) (X := fun w _ => laidMetH Tryz.prog Rows.ropeFirstsRow.laid w) (fun _ _ _ hh h => h.of_heap hh) own started (by kernel_rfl) Tryz.func3
    (ChangeSpec.witness_shaped (enc := enc) (C := Tryz.checked) (os := os) (X := fun w _ => laidMetH Tryz.prog Rows.ropeFirstsRow.laid w) false (World.laidAll Tryz.prog os Rows.ropeFirstsRow.laid) #[.agg #[.slice none 0 0, .int .i64 0], .string ByteArray.empty] 8 (World.laidAll_os _ _ _)
      (World.shaped_of_ZipB (by kernel_rfl) (by kernel_rfl)) (by kernel_rfl) (by kernel_rfl) (by kernel_rfl)
      (by rw [MakeChecks.laidMetH_plain _ _ _ (by kernel_rfl)]; exact laidMet_laidAll _ (by kernel_rfl) (by kernel_rfl))) ?_
  intro W base args ds gs before hval0 hW hcnd _ _ _
  have hval : ∀ (j : Nat) t v, Tryz.f3.params[j]? = some t → args[j]? = some v → Value.okWide Tryz.prog W .any base t v := hval0
  have hW' := hW
  obtain ⟨p, q, hA0, hV, rfl, hfz, hnd⟩ := hW
  have hA : DataW.TrodAll enc Tryz.prog W 0 (fun _ => true) true Tryz.f3.params.toList args.toList ds p := hA0
  rw [Tryz.params3] at hA hval
  obtain ⟨v0, vs0, d0, ds0, p0, q0, hargs, rfl, rfl, h0, r0⟩ := trodAll_cons hA
  obtain ⟨v1, vs1, d1, ds1, p1, q1, rfl, rfl, rfl, h1, r1⟩ := trodAll_cons r0
  obtain ⟨rfl, rfl, rfl⟩ := trodAll_nil r1
  obtain rfl : args = #[v0, v1] := by cases args; simp_all
  obtain ⟨rfl, rfl⟩ := trodVars_none hV
  have k0 := h0
  have lt0 : ∀ x ∈ p0, x.block < W.heap.size := by obtain ⟨m, hm⟩ := k0; exact DataW.trod_lt m _ _ _ hm
  have k1 := h1
  have lt1 : ∀ x ∈ p1, x.block < W.heap.size := by obtain ⟨m, hm⟩ := k1; exact DataW.trod_lt m _ _ _ hm
  obtain ⟨ps, gap, r0x⟩ := PA.read_rules (hval 0 24 v0 rfl rfl) h0
  obtain ⟨s1, r1x⟩ := PA.read_str (Tryz.underlying9) (hval 1 9 v1 rfl rfl) h1
  clear hA0 hval0
  refine (call W   r0x r1x).mono fun e W' ⟨he, bel⟩ => ?_
  subst he
  exact ⟨_, rfl, _, _, _, [], _, [], hW', trodAll_mk1 (shut_bool Tryz.underlying4 _), (trodAll_cons_mk (Below.trod laidOut (by kernel_rfl) (of_decide_eq_true (by kernel_rfl)) k0 bel lt0) (trodAll_cons_mk (Below.trod laidOut (by kernel_rfl) (of_decide_eq_true (by kernel_rfl)) k1 bel lt1) trodAll_mk0)), rfl, bel.frame _, fun h => by cases h⟩
theorem over : Rows.RopeFirstsSaid :=
  OpenClaim.holds_of_wide 3 Tryz.f3 rfl rfl rfl rfl rfl rfl rfl ⟨rfl, rfl, rfl, rfl, rfl⟩ rfl rfl rfl rfl rfl (by kernel_rfl) Tryz.func3 (by kernel_rfl)
    (of_decide_eq_true (by kernel_rfl)) (by unfold Func.isWrapper; first | (rw [if_pos (by decide +kernel)]; kernel_rfl) | (rw [if_neg (by decide +kernel)]; exact ⟨rfl, rfl⟩))
    (fun os started H enc _ => lifted os started H enc)
end Go.Proofs.YtfcgofffalmdfaaGreatDoor.ropeFirsts
namespace Go.Proofs.YtfcgofffalmdfaaGreatDoor
open Go
theorem ropeFirsts_card : Rows.RopeFirstsCardSaid :=
  Claim7.holds_tied_plain_at .later [] [.data, .pinned] true (true, "5e7abd25e6fdffa6dc8dfc12cd5002f17c6143cad05b03ef55e8e1654f75baf7") false ropeFirsts.over (fun _ h => by cases h) (by kernel_rfl) (fun _ h => by cases h) ropeFirsts_row_tie rfl ⟨rfl, rfl⟩ (by kernel_rfl) rfl
    (fun f fn hf hfn => by
      obtain rfl : f = 3 := Option.some.inj ((show Tryz.prog.funcNamed "woggle/wogglelaw03.RopeFirsts" = some 3 by kernel_rfl).symm.trans hf) |>.symm
      obtain rfl : fn = Tryz.f3 := (Option.some.inj (Tryz.func3.symm.trans hfn)).symm
      exact ⟨by kernel_rfl, fun j t ht => by
        rw [Tryz.params3] at ht
        have hm : t ∈ [24, 9] := by simpa using Array.mem_of_getElem? ht
        have hall : ([24, 9].all fun u => !Tryz.prog.wantsStandIn u) = true := by kernel_rfl
        exact (show Tryz.prog.wantsStandIn t = false by simpa using List.all_eq_true.1 hall t hm)⟩)
    (by kernel_rfl)
#print axioms ropeFirsts_card
end Go.Proofs.YtfcgofffalmdfaaGreatDoor
