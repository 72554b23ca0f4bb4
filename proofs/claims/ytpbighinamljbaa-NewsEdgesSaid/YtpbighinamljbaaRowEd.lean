/- NewsEdges: with a further edge the rounds are never more, for all inputs: the row. No condition. -/
import Derived.Test.YtpbighinamljbaaJF
import Derived.Test.YtpbighinamljbaaJE
import Derived.OpenShut
import Derived.Deep.SlicePairs
import Derived.Test.YtpbighinamljbaaRows
import Derived.ProofKit
import Derived.LaidMore
import Derived.Lay
import Derived.SizedLaws
import Derived.Carry
/- The search of a shortest broadcast, whole: schedule. No condition. -/
set_option linter.unusedSimpArgs false
set_option linter.unusedVariables false
namespace Go.Proofs.Ytpbighinamljbaa.PA
open Go Go.Eng Go.Proofs
theorem _root_.Go.Eng.HF.re {H0 H : AHeap} {mod : List Nat} {T : Nat} {fs gs : List (Nat × AObj)} (h : HF H0 mod T fs H) (hs : ∀ p ∈ gs, p ∈ fs) (nd : (gs.map (·.1)).Nodup) : HF H0 mod T gs H :=
  ⟨fun p hp => h.obj p (hs p hp), fun p hp => h.lt p (hs p hp), nd, h.base, h.le, h.fr⟩
theorem _root_.Go.Eng.HF.top {H0 H : AHeap} {mod : List Nat} {T : Nat} {fs : List (Nat × AObj)} (h : HF H0 mod T fs H) : HF H0 mod H.next fs H :=
  ⟨h.obj, fun p hp => Nat.lt_of_lt_of_le (h.lt p hp) h.le, h.nd, Nat.le_trans h.base h.le, Nat.le_refl _, h.fr⟩
theorem _root_.Go.Eng.HF.addK {H0 H H' : AHeap} {mod : List Nat} {T : Nat} {fs : List (Nat × AObj)} (h : HF H0 mod T fs H) (hk : Kp H H') {i : Nat} {o : AObj} (hi : H.next ≤ i) (hl : i < H'.next) (hg : H'.get i = some o) : HF H0 mod H'.next ((i, o) :: fs) H' :=
  ((h.callK hk).top).add hg hl (fun w => by
    obtain ⟨p, hp, e⟩ := List.mem_map.1 w
    have := h.lt p hp
    have := h.le
    omega)
theorem _root_.Go.Eng.HF.rebase {H H1 H' : AHeap} {mod mod1 : List Nat} {T T1 : Nat} {fs fs1 : List (Nat × AObj)} (h : HF H1 mod1 T fs H') (h0 : HF H mod T1 fs1 H1) (hm : ∀ j ∈ mod1, H.next ≤ j ∨ j ∈ mod) : HF H mod T fs H' :=
  ⟨h.obj, h.lt, h.nd, Nat.le_trans h0.base (Nat.le_trans h0.le h.base), h.le, fun k h1 h2 => (h.fr k (Nat.lt_of_lt_of_le h1 (Nat.le_trans h0.base h0.le)) (fun w => by
    rcases hm k w with w | w
    · omega
    · exact h2 w)).trans (h0.fr k h1 h2)⟩
theorem _root_.Go.Eng.HF.here {H H0 : AHeap} {mod : List Nat} {T : Nat} {fs : List (Nat × AObj)} (h : HF H0 mod T fs H) (mod' : List Nat) : HF H mod' H.next fs H :=
  ⟨h.obj, fun p hp => Nat.lt_of_lt_of_le (h.lt p hp) h.le, h.nd, Nat.le_refl _, Nat.le_refl _, fun _ _ _ => rfl⟩
theorem _root_.Go.Eng.HF.rows {H H' : AHeap} {J T : Nat} {fs : List (Nat × AObj)} {o : AObj} (h : HF H [J] T fs H') (hJ : H.get J = some o) (ho : ∀ f z, o ≠ .cells f (some z)) : Kr H H' :=
  Kr.but (Nat.le_trans h.base h.le) hJ ho fun k hk hne => h.fr k hk (by simpa using hne)
/-- The whole of the loop's round, as it is known at its begin. -/
structure SchI (H0 : AHeap) (m : Nat) (N : List Nat) (s b5 k : Nat) (W : FW) (H : AHeap) : Prop where
  w : WInv N s k W
  lo : ∀ j, j < k → ¬ Rcs N j (2 ^ s) (2 ^ m - 1)
  hf : ∃ I T es, H0.next ≤ I ∧ HF H0 [] T [(b5, .cells [.map I] none), (I, .map es)] H ∧ EntF H es W
  cl : Go.Eng.Clean H
/-- What schedule answers. -/
def SchR (H0 : AHeap) (N : List Nat) (s : Nat) (u : AV) (H' : AHeap) : Prop :=
  ∃ k ls, IsT N s k ∧ ls.length = k ∧ RRw H' u ls ∧ vR N ls (2 ^ s) = some (2 ^ N.length - 1) ∧ (∀ l ∈ ls, l.length ≤ N.length ∧ ∀ c ∈ l, c.1 < N.length ∧ c.2 < N.length) ∧ Kp H0 H'
def body47 : XCode := match L47.code with
  | .seq _ (.seq _ (.block _ (.loop c))) => c
  | _ => .skip
set_option maxHeartbeats 2000000 in
theorem body47_ok {kk fuel G M m s b5 k : Nat} {N : List Nat} {W : FW} {H0 H : AHeap} (hNl : N.length = m) (hm : m ≤ 10) (hNt : ∀ c ∈ N, c < 1024) (hN2 : ∀ c ∈ N, c < 2 ^ N.length) (hfu : 1030 < fuel) (hs : s < m)
    (hg : GrH H0 G M m N) (hI : SchI H0 m N s b5 k W H) (hb5 : H0.next ≤ b5) {T : Nat} (hT : IsT N s T) (hT10 : T ≤ 10)
    (h70 : ∀ b8 b10 J I inf W, inf < 1024 → (∀ p ∈ W, p.1 < 1024) → (lookW W inf).length < 1000 → K70 (cfG kk) N m G M b8 b5 b10 J I inf W 0)
    (h69 : ∀ I H, ∃ u H', cfG kk 69 [.map I] H = some (u, H') ∧ ∃ p, u = .fn 81 [.ptr p 0] ∧ H.next ≤ p ∧ p < H'.next ∧ H'.get p = some (.cells [.map I] none) ∧ Kp H H') :
    WK (cfG kk) fuel body47 [(0, .ptr G 0), (1, nA s), (4, .nils), (5, .ptr b5 0)] H fun e l' H' =>
      (e = .normal → ∃ W', Eng.Sub l' [(0, .ptr G 0), (1, nA s), (4, .nils), (5, .ptr b5 0)] ∧ SchI H0 m N s b5 (k + 1) W' H' ∧ k < T) ∧
      (e ≠ .normal → e = .ret ∧ ∃ u, Eng.look l' 4 = some u ∧ SchR H0 N s u H') := by
  obtain ⟨hw, hlo, ⟨I, T0, es, hIn, hF, hE⟩, hcl⟩ := hI
  have hcc := cfG_clean kk
  have hpw := pow_le10 hm
  have hW1 : ∀ p ∈ W, p.1 < 1024 := fun p hp => Nat.lt_of_lt_of_le (hw.ok p hp).1 (by rw [hNl]; exact hpw)
  have hfull : 2 ^ m - 1 < 1024 := by have := Nat.one_le_two_pow (n := m); omega
  have hTl := hF.le
  have hTb := hF.base
  have g5 : H.get b5 = some (.cells [.map I] none) := hF.obj _ (.head _)
  have gI : H.get I = some (.map es) := hF.obj _ (.tail _ (.head _))
  have gG : H.get G = some (.cells [nA m, .sl M 0 m m] none) := (hF.fr G hg.lg (by simp)).trans hg.g
  have l5 : b5 < H.next := Nat.lt_of_lt_of_le (hF.lt _ (.head _)) hTl
  have lI : I < H.next := Nat.lt_of_lt_of_le (hF.lt _ (.tail _ (.head _))) hTl
  have lG := hg.lg
  have ne5 : b5 ≠ I := fun e => by rw [e, gI] at g5; cases g5
  have hgH : GrH H G M m N := hg.up hF.kp
  have hFb : HF H [b5] H.next [(b5, .cells [.map I] none), (I, .map es), (G, .cells [nA m, .sl M 0 m m] none)] H := {
    obj := by simp only [List.mem_cons, List.not_mem_nil, or_false, forall_eq_or_imp, forall_eq]; exact ⟨g5, gI, gG⟩
    lt := by simp only [List.mem_cons, List.not_mem_nil, or_false, forall_eq_or_imp, forall_eq]; exact ⟨l5, lI, by omega⟩
    nd := by simp only [List.map_cons, List.map_nil, List.nodup_cons, List.mem_cons, List.not_mem_nil, or_false, not_or, not_false_eq_true, List.nodup_nil, and_true]; exact ⟨⟨ne5, by omega⟩, by omega⟩
    base := Nat.le_refl _
    le := Nat.le_refl _
    fr := fun _ _ _ => rfl }
  have hrows : ∀ {H' : AHeap} {T' : Nat} {fs : List (Nat × AObj)}, HF H [b5] T' fs H' → Kr H H' := fun h => h.rows g5 (fun _ _ => nofun)
  refine WK.cl hcc ?_
  unfold body47 L47
  dsimp only
  rcases find16 (a := 2 ^ m - 1) 0 hE hW1 with ⟨f1, f2, _⟩ | ⟨f1, j, v, f2, f3⟩
  · have hnot : ¬ Rcs N k (2 ^ s) (2 ^ m - 1) := fun q => by
      rw [← hNl, ← winv_full hw] at q
      rw [hNl, ← hasF_iff, f1] at q
      cases q
    have hkT : k < T := by
      rcases Nat.lt_or_ge k T with q | q
      · exact q
      · exact absurd ((hNl ▸ hT.1).le q) hnot
    repeat' (first | refine WK.seqC (by assumption) ?_ | intro (_ : CleanTo _ _) | refine WK.skip ?_ | refine WK.ret ?_ | refine WK.exit ?_ | refine WK.block ?_ | (apply WK.reg; (· exact lnn)) | (apply WK.regC; (· rfl); (· exact lnn); (· decide)) | (apply WK.regd0; (· exact lnn)) | (apply WKO.boxO; (· rfl); (· assumption); (· rfl); (· exact nxx); (· exact nxx); (· exact nxx); intro _ _ _) | (apply WKO.alO; (· assumption); (· rfl); (· exact nxx); (· exact nxx); (· exact nxx); intro _ _ _) | (apply WKO.mapO; (· assumption); (· rfl); (· exact nxx); (· exact nxx); (· exact nxx); intro _ _ _) | (apply WKO.bsO; (· rfl); (· rfl); (· assumption); (· rfl); (· exact nxx); (· exact nxx); (· exact nxx); intro _ _ _) | (apply WKO.stO0; (· rfl); (· rfl); (· assumption); (· rfl); (· exact nxx); (· first | exact .inr nxx | exact .inl (by simp)); (· rfl); (· rfl); (· first | decide | (simp; done) | omega); intro _ _ _) | (apply WKO.stO1; (· rfl); (· rfl); (· assumption); (· rfl); (· exact nxx); (· first | exact .inr nxx | exact .inl (by simp)); (· rfl); (· rfl); (· first | decide | (simp; done) | omega); intro _ _ _) | (apply WKO.stO2; (· rfl); (· rfl); (· assumption); (· rfl); (· exact nxx); (· first | exact .inr nxx | exact .inl (by simp)); (· rfl); (· rfl); (· first | decide | (simp; done) | omega); intro _ _ _) | refine WKC.nil ?_ | refine WKO.nil ?_ | ((first | apply WKC.op | apply WKO.op | ((first | apply WKC.gop | apply WKO.gop); (· rfl); (· exact dcd))); (· first | exact k_mv rfl | exact k_shl16 rfl rfl (by omega) | exact k_sub16 rfl rfl Nat.one_le_two_pow (by omega) | (apply k_lookX; (· rfl); (· rfl); (· exact gI); (· exact key16 hfull); (· exact f2); (· rfl)) | (apply k_ldO; (· rfl); (· assumption); (· rfl); (· exact mmb); (· rfl)) | (apply k_ldA; (· rfl); (· assumption); (· rfl); (· exact mmb); (· first | rfl | assumption | (simp; done))) | exact k_faddr rfl | exact k_nilc rfl | exact opA); (· rfl)) | ((first | apply WKC.gnoT | apply WKO.gnoT | apply WKC.gnoF | apply WKO.gnoF); (· rfl); (· exact dcd)) | ((first | apply WKC.gnu | apply WKO.gnu); (· rfl)) | ((first | apply WKC.gsp | apply WKO.gsp); (· rfl); all_goals ((fail_if_success (refine known ?_ ?_; (· assumption))); intro _)) | ((first | apply WKC.gspB | apply WKO.gspB); (· rfl); all_goals ((fail_if_success (refine known ?_ ?_; (· assumption))); intro _)) | refine pN ?_ | refine pR ?_ | refine pX ?_ | refine bN ?_ | refine bR ?_ | refine bX ?_ | refine bO (by decide) ?_ | (apply WK.condT; (· rfl); (· exact dcd)) | (apply WK.condF; (· rfl); (· exact dcd)) | (apply WK.condD; (· rfl); all_goals intro _) | (apply WK.condN; (· rfl); all_goals intro _) | (apply WK.condB; (· rfl); all_goals intro _))
    rename_i c1 c2 c3 Ha _ na Hb _ nb H1 hF1 n1 cl1
    have hC1 : Go.Eng.Clean H1 := cl1.1 (c3.1 hcl)
    have hn1 : H1.next = H.next + 17 := by simp only [next_bump] at na; omega
    have hb8 : ((H.bump 13).bump 1).next = H.next + 14 := by simp only [next_bump]
    rw [hb8] at hF1 ⊢
    clear hb8 na nb n1 c1 c2 c3 cl1 hFb
    rename_i hx1 hx2
    clear hx1 hx2 Ha Hb
    generalize hJ : H.next + 14 = J at hF1 ⊢
    have hT1 := hF1.le
    refine WKO.callV rfl rfl rfl (h69 I (H1.bump 5)) ?_
    rintro _ H2 ⟨p, rfl, p1, p2, p3, hk2⟩
    have hF2 := (hF1.up (H' := H1.bump 5) rfl (by simp only [next_bump]; omega)).addK hk2 p1 p2 p3
    have hW0 : W ≠ [] := fun e => by
      obtain ⟨q, hq, _⟩ := hw.cp _ ((show Rcs N 0 (2 ^ s) (2 ^ s) from rfl).le (Nat.zero_le k))
      rw [e] at hq
      cases hq
    refine WKO.callV rfl rfl rfl (g_68 (hF2.obj _ (.head _)) (hF2.obj (I, .map es) (by simp)) (hE.kr (hrows hF2)) hW1 hW0 (winv_len (by omega) hw)) ?_
    rintro _ H3 ⟨S, ks, rfl, s0, s1, s2, s3, s4, hk3⟩
    have hF3 := hF2.addK hk3 s2 s3 s4
    have hS : H1.next ≤ S := by have := hk2.1; simp only [next_bump] at this; omega
    have hF4 := hF3.re (gs := [(J, .map []), (S, .cells (ks.map sA) (some 1)), (J + 1, .cells [.map J] none), (b5, .cells [.map I] none), (I, .map es), (G, .cells [nA m, .sl M 0 m m] none)]) (by
      intro q hq
      simp only [List.mem_cons, List.not_mem_nil, or_false] at hq ⊢
      rcases hq with rfl | rfl | rfl | rfl | rfl | rfl
      · exact .inr (.inr (.inr (.inl rfl)))
      · exact .inl rfl
      · exact .inr (.inr (.inl rfl))
      · exact .inr (.inr (.inr (.inr (.inl rfl))))
      · exact .inr (.inr (.inr (.inr (.inr (.inl rfl)))))
      · exact .inr (.inr (.inr (.inr (.inr (.inr rfl)))))) (by
      simp only [List.map_cons, List.map_nil, List.nodup_cons, List.mem_cons, List.not_mem_nil, or_false, not_or, not_false_eq_true, List.nodup_nil, and_true]
      refine ⟨⟨?_, ?_, ?_, ?_, ?_⟩, ⟨?_, ?_, ?_, ?_⟩, ⟨?_, ?_, ?_⟩, ⟨?_, ?_⟩, ?_⟩ <;> omega)
    clear hF2 hF3 p3
    have hT3 := hF4.le
    repeat' (first | refine WK.seqC (by assumption) ?_ | intro (_ : CleanTo _ _) | refine WK.skip ?_ | refine WK.ret ?_ | refine WK.exit ?_ | refine WK.block ?_ | (apply WK.reg; (· exact lnn)) | (apply WK.regC; (· rfl); (· exact lnn); (· decide)) | (apply WK.regd0; (· exact lnn)) | refine WKC.nil ?_ | refine WKO.nil ?_ | ((first | apply WKC.op | apply WKO.op | ((first | apply WKC.gop | apply WKO.gop); (· rfl); (· exact dcd))); (· first | exact k_mv rfl | exact opA); (· rfl)) | ((first | apply WKC.gnoT | apply WKO.gnoT | apply WKC.gnoF | apply WKO.gnoF); (· rfl); (· exact dcd)) | ((first | apply WKC.gnu | apply WKO.gnu); (· rfl)) | ((first | apply WKC.gsp | apply WKO.gsp); (· rfl); all_goals ((fail_if_success (refine known ?_ ?_; (· assumption))); intro _)) | ((first | apply WKC.gspB | apply WKO.gspB); (· rfl); all_goals ((fail_if_success (refine known ?_ ?_; (· assumption))); intro _)) | refine pN ?_ | refine pR ?_ | refine pX ?_ | refine bN ?_ | refine bR ?_ | refine bX ?_ | refine bO (by decide) ?_ | (apply WK.condT; (· rfl); (· exact dcd)) | (apply WK.condF; (· rfl); (· exact dcd)) | (apply WK.condD; (· rfl); all_goals intro _) | (apply WK.condN; (· rfl); all_goals intro _) | (apply WK.condB; (· rfl); all_goals intro _))
    rename_i cl3
    have hC3 : Go.Eng.Clean H3 := cl3.1 hC1
    clear cl3
    refine WK.loop (α := Nat × FW) (fun q => [(0, .ptr G 0), (1, nA s), (4, .nils), (5, .ptr b5 0), (8, .ptr (J + 1) 0), (35, .sl S 0 ks.length openCap), (36, nA ks.length), (37, nA q.1)])
      (fun q H' => q.1 ≤ ks.length ∧ q.2 = (ks.take q.1).foldl (fun F a => (outs N a N.length 0 a []).foldl (addF (lookW W a)) F) [] ∧ (∃ T' esJ, HF H [b5] T' [(J, .map esJ), (S, .cells (ks.map sA) (some 1)), (J + 1, .cells [.map J] none), (b5, .cells [.map I] none), (I, .map es), (G, .cells [nA m, .sl M 0 m m] none)] H' ∧ EntF H' esJ q.2) ∧ Go.Eng.Clean H')
      (fun q => ks.length - q.1) (0, []) (.cons rfl <| .cons rfl <| .cons rfl <| .cons rfl <| .cons rfl <| .cons rfl <| .cons rfl <| .cons rfl <| .nil _) ⟨Nat.zero_le _, rfl, ⟨_, [], hF4.up rfl (by first | exact Nat.le_refl _ | (simp only [next_bump]; omega)), trivial⟩, clean_eqm hC3 rfl (by first | exact Nat.le_refl _ | (simp only [next_bump]; omega))⟩ (by dsimp only; omega) ?_
    clear hF4 hC3 hT3
    rintro ⟨i, F'⟩ H4 ⟨a1, a2, ⟨T4, esJ, hF4, hEJ⟩, hC4⟩
    dsimp only at a1 a2 hF4 hEJ ⊢
    have hT4 := hF4.le
    have hB4 := hF4.base
    by_cases hi : i < ks.length
    · have gJ4 : H4.get J = some (.map esJ) := hF4.obj _ (.head _)
      have lJ4 : J < H4.next := Nat.lt_of_lt_of_le (hF4.lt _ (.head _)) hT4
      have hR := hF4.here [J]
      refine WK.cl hcc ?_
      repeat' (first | refine WK.seqC (by assumption) ?_ | intro (_ : CleanTo _ _) | refine WK.skip ?_ | refine WK.ret ?_ | refine WK.exit ?_ | refine WK.block ?_ | (apply WK.reg; (· exact lnn)) | (apply WK.regC; (· rfl); (· exact lnn); (· decide)) | (apply WK.regd0; (· exact lnn)) | (apply WKO.boxO; (· rfl); (· assumption); (· rfl); (· exact nxx); (· exact nxx); (· exact nxx); intro _ _ _) | (apply WKO.alO; (· assumption); (· rfl); (· exact nxx); (· exact nxx); (· exact nxx); intro _ _ _) | (apply WKO.mapO; (· assumption); (· rfl); (· exact nxx); (· exact nxx); (· exact nxx); intro _ _ _) | (apply WKO.bsO; (· rfl); (· rfl); (· assumption); (· rfl); (· exact nxx); (· exact nxx); (· exact nxx); intro _ _ _) | (apply WKO.stO0; (· rfl); (· rfl); (· assumption); (· rfl); (· exact nxx); (· first | exact .inr nxx | exact .inl (by simp)); (· rfl); (· rfl); (· first | decide | (simp; done) | omega); intro _ _ _) | (apply WKO.stO1; (· rfl); (· rfl); (· assumption); (· rfl); (· exact nxx); (· first | exact .inr nxx | exact .inl (by simp)); (· rfl); (· rfl); (· first | decide | (simp; done) | omega); intro _ _ _) | (apply WKO.stO2; (· rfl); (· rfl); (· assumption); (· rfl); (· exact nxx); (· first | exact .inr nxx | exact .inl (by simp)); (· rfl); (· rfl); (· first | decide | (simp; done) | omega); intro _ _ _) | refine WKC.nil ?_ | refine WKO.nil ?_ | ((first | apply WKC.op | apply WKO.op | ((first | apply WKC.gop | apply WKO.gop); (· rfl); (· exact dcd))); (· first | exact k_mv rfl | exact k_ia1s rfl rfl (by omega) | (apply k_ldO; (· rfl); (· assumption); (· rfl); (· exact mmb); (· exact map_at (by omega))) | exact k_mkfn rfl | (apply k_ldO; (· rfl); (· assumption); (· rfl); (· exact mmb); (· rfl)) | (apply k_ldA; (· rfl); (· assumption); (· rfl); (· exact mmb); (· first | rfl | assumption | (simp; done))) | exact k_faddr rfl | exact k_nilc rfl | exact opA); (· rfl)) | ((first | apply WKC.gnoT | apply WKO.gnoT | apply WKC.gnoF | apply WKO.gnoF); (· rfl); (· exact dcd)) | ((first | apply WKC.gnu | apply WKO.gnu); (· rfl)) | ((first | apply WKC.gsp | apply WKO.gsp); (· rfl); all_goals ((fail_if_success (refine known ?_ ?_; (· assumption))); intro _)) | ((first | apply WKC.gspB | apply WKO.gspB); (· rfl); all_goals ((fail_if_success (refine known ?_ ?_; (· assumption))); intro _)) | refine pN ?_ | refine pR ?_ | refine pX ?_ | refine bN ?_ | refine bR ?_ | refine bX ?_ | refine bO (by decide) ?_ | (apply WK.condT; (· rfl); (· exact dcd)) | (apply WK.condF; (· rfl); (· exact dcd)) | (apply WK.condD; (· rfl); all_goals intro _) | (apply WK.condN; (· rfl); all_goals intro _) | (apply WK.condB; (· rfl); all_goals intro _))
      rename_i c1 c2 Ha _ na H5 hF5 n5 cl5
      have hC5 : Go.Eng.Clean H5 := cl5.1 (c2.1 (c1.1 hC4))
      have hkr := hF5.rows gJ4 (fun _ _ => nofun)
      generalize (H4.bump 1).next + 1 + 1 = b10 at hF5 ⊢
      have hT5 := hF5.le
      have hB5 := hF5.base
      have hF6 := hF5.up (H' := H5.bump 5) rfl (by simp only [next_bump]; omega)
      have hkr6 : Kr H4 (H5.bump 5) := hkr.trans (Kp.bump 5).kr
      have hT6 := hF6.le
      have hmem : ks.getD i 0 ∈ ks := by
        rw [List.getD_eq_getElem?_getD, List.getElem?_eq_getElem hi]
        exact List.getElem_mem _
      obtain ⟨pw, hpw1, hpw2⟩ := List.mem_map.1 ((s1 _).1 hmem)
      have inf10 : ks.getD i 0 < 1024 := by rw [← hpw2]; exact hW1 pw hpw1
      have hlk : (lookW W (ks.getD i 0)).length < 1000 := by
        rw [lookW_mem hw.nd (l := pw.2) (by rw [← hpw2]; exact hpw1), (hw.ok pw hpw1).2.1]
        omega
      have hF1024 : ∀ q ∈ F', q.1 < 1024 := fun q hq => by
        rw [a2] at hq
        rcases nextG_mem _ _ q hq with h | ⟨c, hc, r, hr, rfl⟩
        · cases h
        · obtain ⟨pc, hpc, rfl⟩ := List.mem_map.1 ((s1 _).1 (List.mem_of_mem_take hc))
          exact outs_lt (by omega) _ _ _ _ (hW1 pc hpc) r hr
      have hA : AddC (H5.bump 5) (J + 1) b5 b10 J I (ks.getD i 0) F' W := {
        g8 := hF6.obj (J + 1, _) (by simp)
        g5 := hF6.obj (b5, _) (by simp)
        g10 := hF6.obj _ (.head _)
        l8 := Nat.lt_of_lt_of_le (hF6.lt (J + 1, .cells [.map J] none) (by simp)) hT6
        l5 := Nat.lt_of_lt_of_le (hF6.lt (b5, .cells [.map I] none) (by simp)) hT6
        l10 := Nat.lt_of_lt_of_le (hF6.lt _ (.head _)) hT6
        lJ := Nat.lt_of_lt_of_le (hF6.lt (J, .map esJ) (by simp)) hT6
        lI := Nat.lt_of_lt_of_le (hF6.lt (I, .map es) (by simp)) hT6
        eJ := ⟨esJ, hF6.obj (J, _) (by simp), hEJ.kr hkr6⟩
        eI := ⟨es, hF6.obj (I, _) (by simp), hE.kr ((hrows hF4).trans hkr6)⟩
        ne := by omega }
      have hgr : GrH (H5.bump 5) G M m N := ⟨hF6.obj (G, _) (by simp), (hF6.fr M (by have := hg.ls; omega) (by have := hg.ls; simp only [List.mem_singleton]; omega)).trans ((hF4.fr M (by have := hg.ls; omega) (by have := hg.ls; simp only [List.mem_singleton]; omega)).trans hgH.s), by omega, by have := hg.ls; omega⟩
      have hC6 : Go.Eng.Clean (H5.bump 5) := clean_eqm hC5 rfl (by simp only [next_bump]; omega)
      have c70 := h70 (J + 1) b10 J I (ks.getD i 0) W inf10 hW1 hlk (H5.bump 5) (ks.getD i 0) [] .nils F' hC6 hA hgr (Row.nil 2 _) inf10 hF1024 (Nat.le_refl _)
      refine WKO.callV rfl rfl rfl c70 ?_
      rintro _ H7 ⟨rfl, hr⟩
      repeat' (first | refine WK.seqC (by assumption) ?_ | intro (_ : CleanTo _ _) | refine WK.skip ?_ | refine WK.ret ?_ | refine WK.exit ?_ | refine WK.block ?_ | (apply WK.reg; (· exact lnn)) | (apply WK.regC; (· rfl); (· exact lnn); (· decide)) | (apply WK.regd0; (· exact lnn)) | refine WKC.nil ?_ | refine WKO.nil ?_ | ((first | apply WKC.op | apply WKO.op | ((first | apply WKC.gop | apply WKO.gop); (· rfl); (· exact dcd))); (· first | exact k_mv rfl | exact opA); (· rfl)) | ((first | apply WKC.gnoT | apply WKO.gnoT | apply WKC.gnoF | apply WKO.gnoF); (· rfl); (· exact dcd)) | ((first | apply WKC.gnu | apply WKO.gnu); (· rfl)) | ((first | apply WKC.gsp | apply WKO.gsp); (· rfl); all_goals ((fail_if_success (refine known ?_ ?_; (· assumption))); intro _)) | ((first | apply WKC.gspB | apply WKO.gspB); (· rfl); all_goals ((fail_if_success (refine known ?_ ?_; (· assumption))); intro _)) | refine pN ?_ | refine pR ?_ | refine pX ?_ | refine bN ?_ | refine bR ?_ | refine bX ?_ | refine bO (by decide) ?_ | (apply WK.condT; (· rfl); (· exact dcd)) | (apply WK.condF; (· rfl); (· exact dcd)) | (apply WK.condD; (· rfl); all_goals intro _) | (apply WK.condN; (· rfl); all_goals intro _) | (apply WK.condB; (· rfl); all_goals intro _))
      rename_i cl7 cl8
      obtain ⟨es', e1, e2⟩ := hr.e
      have hn7 := hr.nx
      have hF7 := ((((hF6.sub (gs := [(S, .cells (ks.map sA) (some 1)), (J + 1, .cells [.map J] none), (b5, .cells [.map I] none), (I, .map es), (G, .cells [nA m, .sl M 0 m m] none)]) (.cons _ (.cons _ (.refl _))) (Nat.le_refl _) hT6).call (H' := H7) (mod' := [J]) (fun k hk hm => hr.fr k hk (by simpa using hm)) hn7 (fun k hk => .inl hk) (by
        simp only [List.mem_cons, List.not_mem_nil, or_false, forall_eq_or_imp, forall_eq, List.mem_singleton]
        refine ⟨?_, ?_, ?_, ?_, ?_⟩ <;> omega)).top).add e1 (by omega) (by
        simp only [List.map_cons, List.map_nil, List.mem_cons, List.not_mem_nil, or_false, not_or]
        refine ⟨?_, ?_, ?_, ?_, ?_⟩ <;> omega)).rebase hF4 (fun j hj => by
        have : j = J := by simpa using hj
        subst this
        exact .inl (by omega))
      refine ⟨(i + 1, _), (.cons rfl <| .cons rfl <| .cons rfl <| .cons rfl <| .cons rfl <| .cons rfl <| .cons rfl <| .cons rfl <| .nil _), ⟨hi, ?_, ⟨_, es', hF7.up rfl (by simp only [next_bump]; omega), EntF.kr (Kp.kr (Kp.bump 2)) e2⟩, cl8.1 hC4⟩, by dsimp only; omega⟩
      have htk : ks.take (i + 1) = ks.take i ++ [ks.getD i 0] := by
        rw [List.take_add_one, List.getD_eq_getElem?_getD, List.getElem?_eq_getElem hi]
        rfl
      dsimp only
      rw [htk, List.foldl_append, ← a2, hNl]
      rfl
    · have hF5 := (hF4.re (gs := [(b5, .cells [.map I] none), (J, .map esJ), (J + 1, .cells [.map J] none)]) (by
        intro q hq
        simp only [List.mem_cons, List.not_mem_nil, or_false] at hq ⊢
        rcases hq with rfl | rfl | rfl <;> simp) (by simp; omega)).here [b5]
      have gJ4 : H4.get J = some (.map esJ) := hF4.obj _ (.head _)
      have g54 : H4.get b5 = some (.cells [.map I] none) := hF4.obj (b5, _) (by simp)
      have lJ4 : J < H4.next := Nat.lt_of_lt_of_le (hF4.lt _ (.head _)) hT4
      have hjn : H.next ≤ J := by omega
      have heq : F' = nextF N W ks := by rw [a2, List.take_of_length_le (by omega)]; rfl
      have hFk : ∀ q ∈ F', q.1 < 1024 := fun q hq => by
        rw [heq] at hq
        exact Nat.lt_of_lt_of_le (next_ok hN2 hw s1 hq).1 (by rw [hNl]; exact hpw)
      have hFn : (F'.map (·.1)).Nodup := by rw [heq]; exact nextG_nd ks [] (by simp)
      repeat' (first | refine WK.seqC (by assumption) ?_ | intro (_ : CleanTo _ _) | refine WK.skip ?_ | refine WK.ret ?_ | refine WK.exit ?_ | refine WK.block ?_ | (apply WK.reg; (· exact lnn)) | (apply WK.regC; (· rfl); (· exact lnn); (· decide)) | (apply WK.regd0; (· exact lnn)) | (apply WKO.boxO; (· rfl); (· assumption); (· rfl); (· exact nxx); (· exact nxx); (· exact nxx); intro _ _ _) | (apply WKO.alO; (· assumption); (· rfl); (· exact nxx); (· exact nxx); (· exact nxx); intro _ _ _) | (apply WKO.mapO; (· assumption); (· rfl); (· exact nxx); (· exact nxx); (· exact nxx); intro _ _ _) | (apply WKO.bsO; (· rfl); (· rfl); (· assumption); (· rfl); (· exact nxx); (· exact nxx); (· exact nxx); intro _ _ _) | (apply WKO.stO0; (· rfl); (· rfl); (· assumption); (· rfl); (· exact nxx); (· first | exact .inr nxx | exact .inl (by simp)); (· rfl); (· rfl); (· first | decide | (simp; done) | omega); intro _ _ _) | (apply WKO.stO1; (· rfl); (· rfl); (· assumption); (· rfl); (· exact nxx); (· first | exact .inr nxx | exact .inl (by simp)); (· rfl); (· rfl); (· first | decide | (simp; done) | omega); intro _ _ _) | (apply WKO.stO2; (· rfl); (· rfl); (· assumption); (· rfl); (· exact nxx); (· first | exact .inr nxx | exact .inl (by simp)); (· rfl); (· rfl); (· first | decide | (simp; done) | omega); intro _ _ _) | refine WKC.nil ?_ | refine WKO.nil ?_ | ((first | apply WKC.op | apply WKO.op | ((first | apply WKC.gop | apply WKO.gop); (· rfl); (· exact dcd))); (· first | exact k_mv rfl | (apply k_ldO; (· rfl); (· assumption); (· rfl); (· exact mmb); (· rfl)) | (apply k_ldA; (· rfl); (· assumption); (· rfl); (· exact mmb); (· first | rfl | assumption | (simp; done))) | exact k_faddr rfl | exact k_nilc rfl | exact opA); (· rfl)) | ((first | apply WKC.gnoT | apply WKO.gnoT | apply WKC.gnoF | apply WKO.gnoF); (· rfl); (· exact dcd)) | ((first | apply WKC.gnu | apply WKO.gnu); (· rfl)) | ((first | apply WKC.gsp | apply WKO.gsp); (· rfl); all_goals ((fail_if_success (refine known ?_ ?_; (· assumption))); intro _)) | ((first | apply WKC.gspB | apply WKO.gspB); (· rfl); all_goals ((fail_if_success (refine known ?_ ?_; (· assumption))); intro _)) | refine pN ?_ | refine pR ?_ | refine pX ?_ | refine bN ?_ | refine bR ?_ | refine bX ?_ | refine bO (by decide) ?_ | (apply WK.condT; (· rfl); (· exact dcd)) | (apply WK.condF; (· rfl); (· exact dcd)) | (apply WK.condD; (· rfl); all_goals intro _) | (apply WK.condN; (· rfl); all_goals intro _) | (apply WK.condB; (· rfl); all_goals intro _))
      rename_i c1 c2 c3 Ha _ na H8 hF8 n8 cl8
      generalize hI2 : (H4.bump 1).next = I2 at hF8 ⊢
      have hn8 : H4.next + 3 ≤ H8.next := by simp only [next_bump] at na; omega
      have hI2n : I2 = H4.next + 1 := by rw [← hI2]; rfl
      have gI8 : H8.get I2 = some (.map []) := hF8.obj _ (.head _)
      have g58 : H8.get b5 = some (.cells [.map I2] none) := hF8.obj _ (.tail _ (.head _))
      have gJ8 : H8.get J = some (.map esJ) := hF8.obj (J, _) (by simp)
      have g88 : H8.get (J + 1) = some (.cells [.map J] none) := hF8.obj (J + 1, _) (by simp)
      have hE8 : EntF H8 esJ F' := hEJ.kr (hF8.rows g54 (fun _ _ => nofun))
      have fr8 : ∀ j, j < H4.next → j ≠ b5 → H8.get j = H4.get j := fun j h1 h2 => hF8.fr j h1 (by simpa using h2)
      have l8J : J + 1 < H4.next := Nat.lt_of_lt_of_le (hF4.lt (J + 1, .cells [.map J] none) (by simp)) hT4
      clear hF8 na n8 hI2 c1 c2 c3 cl8
      rename_i hx1 hx2
      clear hx1 hx2 Ha
      refine WK.mrange (k := 2) (k' := 5) rfl rfl ?_
      repeat' (first | refine WK.seq ?_ | refine WK.skip ?_ | refine WK.ret ?_ | refine WK.exit ?_ | refine WK.block ?_ | (apply WK.reg; (· exact lnn)) | (apply WK.regC; (· rfl); (· exact lnn); (· decide)) | (apply WK.regd0; (· exact lnn)) | refine WKC.nil ?_ | refine WKO.nil ?_ | ((first | apply WKC.op | apply WKO.op | ((first | apply WKC.gop | apply WKO.gop); (· rfl); (· exact dcd))); (· first | exact k_mv rfl | (apply k_ldX; (· rfl); (· exact g88); (· rfl)) | exact opA); (· rfl)) | ((first | apply WKC.gnoT | apply WKO.gnoT | apply WKC.gnoF | apply WKO.gnoF); (· rfl); (· exact dcd)) | ((first | apply WKC.gnu | apply WKO.gnu); (· rfl)) | ((first | apply WKC.gsp | apply WKO.gsp); (· rfl); all_goals ((fail_if_success (refine known ?_ ?_; (· assumption))); intro _)) | ((first | apply WKC.gspB | apply WKO.gspB); (· rfl); all_goals ((fail_if_success (refine known ?_ ?_; (· assumption))); intro _)) | refine pN ?_ | refine pR ?_ | refine pX ?_ | refine bN ?_ | refine bR ?_ | refine bX ?_ | refine bO (by decide) ?_ | (apply WK.condT; (· rfl); (· exact dcd)) | (apply WK.condF; (· rfl); (· exact dcd)) | (apply WK.condD; (· rfl); all_goals intro _) | (apply WK.condN; (· rfl); all_goals intro _) | (apply WK.condB; (· rfl); all_goals intro _))
      refine ⟨J, esJ, fun _ => [(49, .ptr (H8.bump 2).next 0), (0, .ptr G 0), (1, nA s), (4, .nils), (5, .ptr b5 0), (8, .ptr (J + 1) 0)],
        fun done H2 => (∀ j, H2.get j = if j = J then some (.lmap esJ (H8.bump 2).next) else if j = I2 then some (.map (done.filter fun e => !inE esJ e)) else H8.get j) ∧ H8.next ≤ H2.next,
        [(0, .ptr G 0), (1, nA s), (4, .nils), (5, .ptr b5 0)], rfl, gJ8, (.cons rfl <| .cons rfl <| .cons rfl <| .cons rfl <| .cons rfl <| .cons rfl <| .nil _), ⟨fun j => ?_, ?_⟩, fun done H2 h2 => by rw [h2.1, if_pos rfl], fun _ => rfl, fun _ => rfl, fun done e todo hp H2 h2 => ?_, fun r r' H2 H3 hr hr' h2 h3 j => ?_, fun _ _ => (.cons rfl <| .cons rfl <| .cons rfl <| .cons rfl <| .nil _), fun r H2 H3 hr h2 hg3 hn3 => ?_⟩
      · show ((H8.m.set J _).get j) = _
        rw [Tr.get_set]
        split
        · rfl
        · split
          · rename_i e; rw [e]; exact gI8
          · rfl
      · show H8.next ≤ H8.next + 2 + 1
        omega
      · obtain ⟨pe, hpe, he1, _⟩ := EntF.mem hE8 (hp.mem_iff.1 (by simp : e ∈ done ++ e :: todo))
        have ha := hFk pe hpe
        obtain ⟨ek, ev⟩ := e
        dsimp only at he1
        subst he1
        generalize pe.1 = a at ha hp ⊢
        have g82 : H2.get (J + 1) = some (.cells [.map J] none) := by rw [h2.1, if_neg (by omega), if_neg (by omega)]; exact g88
        have gJ2 : H2.get J = some (.lmap esJ (H8.bump 2).next) := by rw [h2.1, if_pos rfl]
        have g52 : H2.get b5 = some (.cells [.map I2] none) := by rw [h2.1, if_neg (by omega), if_neg (by omega)]; exact g58
        have gI2 : H2.get I2 = some (.map (done.filter fun e => !inE esJ e)) := by rw [h2.1, if_neg (by omega), if_pos rfl]
        dsimp only
        repeat' (first | refine WK.seq ?_ | refine WK.skip ?_ | refine WK.ret ?_ | refine WK.exit ?_ | refine WK.block ?_ | (apply WK.reg; (· exact lnn)) | (apply WK.regC; (· rfl); (· exact lnn); (· decide)) | (apply WK.regd0; (· exact lnn)) | refine WKC.nil ?_ | refine WKO.nil ?_ | ((first | apply WKC.op | apply WKO.op | ((first | apply WKC.gop | apply WKO.gop); (· rfl); (· exact dcd))); (· first | exact k_mv rfl | exact opA); (· rfl)) | ((first | apply WKC.gnoT | apply WKO.gnoT | apply WKC.gnoF | apply WKO.gnoF); (· rfl); (· exact dcd)) | ((first | apply WKC.gnu | apply WKO.gnu); (· rfl)) | ((first | apply WKC.gsp | apply WKO.gsp); (· rfl); all_goals ((fail_if_success (refine known ?_ ?_; (· assumption))); intro _)) | ((first | apply WKC.gspB | apply WKO.gspB); (· rfl); all_goals ((fail_if_success (refine known ?_ ?_; (· assumption))); intro _)) | refine pN ?_ | refine pR ?_ | refine pX ?_ | refine bN ?_ | refine bR ?_ | refine bX ?_ | refine bO (by decide) ?_ | (apply WK.condT; (· rfl); (· exact dcd)) | (apply WK.condF; (· rfl); (· exact dcd)) | (apply WK.condD; (· rfl); all_goals intro _) | (apply WK.condN; (· rfl); all_goals intro _) | (apply WK.condB; (· rfl); all_goals intro _))
        refine WK.mrangeL (k := 2) (k' := 3) rfl rfl ?_
        repeat' (first | refine WK.seq ?_ | refine WK.skip ?_ | refine WK.ret ?_ | refine WK.exit ?_ | refine WK.block ?_ | (apply WK.reg; (· exact lnn)) | (apply WK.regC; (· rfl); (· exact lnn); (· decide)) | (apply WK.regd0; (· exact lnn)) | refine WKC.nil ?_ | refine WKO.nil ?_ | ((first | apply WKC.op | apply WKO.op | ((first | apply WKC.gop | apply WKO.gop); (· rfl); (· exact dcd))); (· first | exact k_mv rfl | (apply k_ldX; (· rfl); (· exact g82); (· rfl)) | exact opA); (· rfl)) | ((first | apply WKC.gnoT | apply WKO.gnoT | apply WKC.gnoF | apply WKO.gnoF); (· rfl); (· exact dcd)) | ((first | apply WKC.gnu | apply WKO.gnu); (· rfl)) | ((first | apply WKC.gsp | apply WKO.gsp); (· rfl); all_goals ((fail_if_success (refine known ?_ ?_; (· assumption))); intro _)) | ((first | apply WKC.gspB | apply WKO.gspB); (· rfl); all_goals ((fail_if_success (refine known ?_ ?_; (· assumption))); intro _)) | refine pN ?_ | refine pR ?_ | refine pX ?_ | refine bN ?_ | refine bR ?_ | refine bX ?_ | refine bO (by decide) ?_ | (apply WK.condT; (· rfl); (· exact dcd)) | (apply WK.condF; (· rfl); (· exact dcd)) | (apply WK.condD; (· rfl); all_goals intro _) | (apply WK.condN; (· rfl); all_goals intro _) | (apply WK.condB; (· rfl); all_goals intro _))
        refine ⟨J, (H8.bump 2).next, esJ, fun d => [(56, .ptr _ 0), (13, .bool (d.any fun q => decide (a ≠ keyN q.1) && decide (sdiff a (keyN q.1) = 0))), (0, .ptr G 0), (1, nA s), (4, .nils), (5, .ptr b5 0), (8, .ptr (J + 1) 0), (49, .ptr (H8.bump 2).next 0), (11, sA a), (12, ev)],
          [(13, .bool (inE esJ (sA a, ev))), (0, .ptr G 0), (1, nA s), (4, .nils), (5, .ptr b5 0), (8, .ptr (J + 1) 0), (49, .ptr (H8.bump 2).next 0), (11, sA a), (12, ev)], rfl, gJ2, (.cons rfl <| .cons rfl <| .cons rfl <| .cons rfl <| .cons rfl <| .cons rfl <| .cons rfl <| .cons rfl <| .cons rfl <| .cons rfl <| .nil _), fun _ => rfl, fun _ => rfl, fun d e' todo' hp' H5 hm5 hn5 => ?_, fun r hr => ?_, fun H5 hm5 hn5 => ?_⟩
        · obtain ⟨pe', hpe', he1', _⟩ := EntF.mem hE8 (hp'.mem_iff.1 (by simp : e' ∈ d ++ e' :: todo'))
          have hb := hFk pe' hpe'
          obtain ⟨ek', ev'⟩ := e'
          dsimp only at he1'
          subst he1'
          generalize pe'.1 = b at hb hp' ⊢
          have hany : ((d ++ [(sA b, ev')]).any fun q => decide (a ≠ keyN q.1) && decide (sdiff a (keyN q.1) = 0)) = ((d.any fun q => decide (a ≠ keyN q.1) && decide (sdiff a (keyN q.1) = 0)) || (decide (a ≠ b) && decide (sdiff a b = 0))) := by
            rw [List.any_append]
            simp only [List.any_cons, List.any_nil, Bool.or_false]
            rfl
          dsimp only
          rw [hany]
          generalize (d.any fun q => decide (a ≠ keyN q.1) && decide (sdiff a (keyN q.1) = 0)) = X
          repeat' (first | refine WK.seq ?_ | refine WK.skip ?_ | refine WK.ret ?_ | refine WK.exit ?_ | refine WK.block ?_ | (apply WK.reg; (· exact lnn)) | (apply WK.regC; (· rfl); (· exact lnn); (· decide)) | (apply WK.regd0; (· exact lnn)) | refine WKC.nil ?_ | refine WKO.nil ?_ | ((first | apply WKC.op | apply WKO.op | ((first | apply WKC.gop | apply WKO.gop); (· rfl); (· exact dcd))); (· first | exact k_mv rfl | exact k_neq16 rfl rfl | exact k_dif16 rfl rfl ha hb | exact k_eql16 rfl rfl | exact opA); (· rfl)) | ((first | apply WKC.gnoT | apply WKO.gnoT | apply WKC.gnoF | apply WKO.gnoF); (· rfl); (· exact dcd)) | ((first | apply WKC.gnu | apply WKO.gnu); (· rfl)) | ((first | apply WKC.gsp | apply WKO.gsp); (· rfl); all_goals ((fail_if_success (refine known ?_ ?_; (· assumption))); intro _)) | ((first | apply WKC.gspB | apply WKO.gspB); (· rfl); all_goals ((fail_if_success (refine known ?_ ?_; (· assumption))); intro _)) | refine pN ?_ | refine pR ?_ | refine pX ?_ | refine bN ?_ | refine bR ?_ | refine bX ?_ | refine bO (by decide) ?_ | (apply WK.condT; (· rfl); (· exact dcd)) | (apply WK.condF; (· rfl); (· exact dcd)) | (apply WK.condD; (· rfl); all_goals intro _) | (apply WK.condN; (· rfl); all_goals intro _) | (apply WK.condB; (· rfl); all_goals intro _))
          · rename_i hX
            exact ⟨.inl rfl, (.cons rfl <| .cons (by rw [hX]; rfl) <| .cons rfl <| .cons rfl <| .cons rfl <| .cons rfl <| .cons rfl <| .cons rfl <| .cons rfl <| .cons rfl <| .nil _), hm5, by simp only [next_bump] at *; omega⟩
          · rename_i hX hab
            exact ⟨.inl rfl, (.cons rfl <| .cons (by rw [hX, decide_eq_true hab]; rfl) <| .cons rfl <| .cons rfl <| .cons rfl <| .cons rfl <| .cons rfl <| .cons rfl <| .cons rfl <| .cons rfl <| .nil _), hm5, by simp only [next_bump] at *; omega⟩
          · rename_i hX hab
            exact ⟨.inl rfl, (.cons rfl <| .cons (by rw [hX, decide_eq_false hab]; rfl) <| .cons rfl <| .cons rfl <| .cons rfl <| .cons rfl <| .cons rfl <| .cons rfl <| .cons rfl <| .cons rfl <| .nil _), hm5, by simp only [next_bump] at *; omega⟩
        · have e : (r.any fun q => decide (a ≠ keyN q.1) && decide (sdiff a (keyN q.1) = 0)) = inE esJ (sA a, ev) := by rw [hr.any_eq]; rfl
          dsimp only
          rw [e]
          exact (.cons rfl <| .cons rfl <| .cons rfl <| .cons rfl <| .cons rfl <| .cons rfl <| .cons rfl <| .cons rfl <| .cons rfl <| .nil _)
        · have hg5 : ∀ j, H5.get j = H2.get j := fun j => (show H5.m.get j = _ by rw [hm5]; rfl)
          have hn5' : H2.next ≤ H5.next := by simp only [next_bump] at hn5; omega
          have hnd : (((done ++ (sA a, ev) :: todo).map (·.1))).Nodup := by
            refine (hp.map _).nodup_iff.2 ?_
            rw [hE8.keys]
            rw [List.nodup_iff_pairwise_ne, List.pairwise_map] at hFn ⊢
            exact hFn.imp fun {p q} hne e => hne (by
              have : ((p.1 : Nat) : Int) = q.1 := by injection e
              omega)
          have hup : updE K16 [Lit.int .u16 (a : Int)] (sA a) ev (done.filter fun e => !inE esJ e) = some ((done.filter fun e => !inE esJ e) ++ [(sA a, ev)]) := by
            have := findE_none (a := a) rfl (done.filter fun e => !inE esJ e) 0 (fun e he => by
              have he := (List.mem_filter.1 he).1
              obtain ⟨q, hq, hq1, _⟩ := EntF.mem hE8 (hp.mem_iff.1 (by simp [he] : e ∈ done ++ (sA a, ev) :: todo))
              refine ⟨q.1, hq1, hFk q hq, fun e2 => ?_⟩
              rw [List.map_append, List.nodup_append] at hnd
              exact hnd.2.2 e.1 (List.mem_map_of_mem he) (sA a) (by simp) (by rw [hq1, e2]))
            simp only [updE, this]
          repeat' (first | refine WK.seq ?_ | refine WK.skip ?_ | refine WK.ret ?_ | refine WK.exit ?_ | refine WK.block ?_ | (apply WK.reg; (· exact lnn)) | (apply WK.regC; (· rfl); (· exact lnn); (· decide)) | (apply WK.regd0; (· exact lnn)) | refine WKC.nil ?_ | refine WKO.nil ?_ | ((first | apply WKC.op | apply WKO.op | ((first | apply WKC.gop | apply WKO.gop); (· rfl); (· exact dcd))); (· first | exact k_mv rfl | (apply k_ldX; (· rfl); (· exact (hg5 _).trans g52); (· rfl)) | exact opA); (· rfl)) | ((first | apply WKC.gnoT | apply WKO.gnoT | apply WKC.gnoF | apply WKO.gnoF); (· rfl); (· exact dcd)) | ((first | apply WKC.gnu | apply WKO.gnu); (· rfl)) | ((first | apply WKC.gsp | apply WKO.gsp); (· rfl); all_goals ((fail_if_success (refine known ?_ ?_; (· assumption))); intro _)) | ((first | apply WKC.gspB | apply WKO.gspB); (· rfl); all_goals ((fail_if_success (refine known ?_ ?_; (· assumption))); intro _)) | refine pN ?_ | refine pR ?_ | refine pX ?_ | refine bN ?_ | refine bR ?_ | refine bX ?_ | refine bO (by decide) ?_ | (apply WK.condT; (· rfl); (· exact dcd)) | (apply WK.condF; (· rfl); (· exact dcd)) | (apply WK.condD; (· rfl); all_goals intro _) | (apply WK.condN; (· rfl); all_goals intro _) | (apply WK.condB; (· rfl); all_goals intro _))
          · rename_i hk
            refine WKO.opn (k_updX rfl rfl rfl ((hg5 _).trans gI2) (key16 ha) hup) rfl (WKO.nil ⟨.inl rfl, (.cons rfl <| .cons rfl <| .cons rfl <| .cons rfl <| .cons rfl <| .cons rfl <| .nil _), fun j => ?_, ?_⟩)
            · rw [AHeap.get_set]
              by_cases e : j = I2
              · subst e
                rw [if_pos rfl, if_neg (by omega), if_pos rfl, List.filter_append, List.filter_cons, hk]
                rfl
              · rw [if_neg e]
                refine (hg5 j).trans ?_
                rw [h2.1, if_neg e, if_neg e]
            · rw [next_set]
              simp only [next_bump]
              have := h2.2
              omega
          · rename_i hk
            refine ⟨.inl rfl, (.cons rfl <| .cons rfl <| .cons rfl <| .cons rfl <| .cons rfl <| .cons rfl <| .nil _), fun j => (hg5 j).trans ?_, ?_⟩
            · rw [h2.1, List.filter_append, List.filter_cons, hk]
              simp only [Bool.not_true, Bool.false_eq_true, if_false, List.filter_nil, List.append_nil]
            · simp only [next_bump]
              have := h2.2
              omega
      · rw [h2.1, h3.1]
        split
        · exact objEq_refl _
        · split
          · exact permEq_of ((hr.trans hr'.symm).filter _)
          · exact objEq_refl _
      · refine ⟨nofun, fun _ hcl3 => ⟨fun _ => ?_, fun q => absurd rfl q⟩⟩
        have hne : I2 ≠ J := by omega
        have gI3 : H3.get I2 = some (.map (r.filter fun e => !inE esJ e)) := by rw [hg3, if_neg hne, h2.1, if_neg hne, if_pos rfl]
        have g3 : ∀ j, j ≠ I2 → H3.get j = H8.get j := fun j hj => by
          rw [hg3]
          split
          · rename_i e; rw [e, gJ8]
          · rename_i e; rw [h2.1, if_neg e, if_neg hj]
        have hkr3 : Kr H8 H3 := Kr.but (Nat.le_trans h2.2 hn3) gI8 (fun _ _ => nofun) fun k _ hk => g3 k hk
        obtain ⟨F2, hp2, hE2⟩ := EntF.perm hr.symm hE8
        have hEf := (EntF.filter hE8 hE2).kr hkr3
        have hwp : (F2.filter fun p => !inO F' p.1).Perm (maxF (nextF N W ks)) := by
          rw [← heq]
          exact hp2.filter _
        have h3n : H8.next ≤ H3.next := Nat.le_trans h2.2 hn3
        refine ⟨F2.filter fun p => !inO F' p.1, (.cons rfl <| .cons rfl <| .cons rfl <| .cons rfl <| .nil _), ⟨winv_next (by omega) hN2 hw s1 hwp, fun j hj => ?_, ⟨I2, H3.next, _, by omega, ?_, hEf⟩, hcl3.1 hcl⟩, hkT⟩
        · rcases Nat.lt_or_ge j k with q | q
          · exact hlo j q
          · obtain rfl : j = k := by omega
            exact hnot
        · exact {
            obj := by simp only [List.mem_cons, List.not_mem_nil, or_false, forall_eq_or_imp, forall_eq]; exact ⟨(g3 b5 (by omega)).trans g58, gI3⟩
            lt := by simp only [List.mem_cons, List.not_mem_nil, or_false, forall_eq_or_imp, forall_eq]; exact ⟨by omega, by omega⟩
            nd := by simp; omega
            base := by omega
            le := Nat.le_refl _
            fr := fun j hj _ => by rw [g3 j (by omega), fr8 j (by omega) (by omega), hF4.fr j (by omega) (by simp only [List.mem_singleton]; omega), hF.fr j hj (by simp)] }
  · repeat' (first | refine WK.seq ?_ | refine WK.skip ?_ | refine WK.ret ?_ | refine WK.exit ?_ | refine WK.block ?_ | (apply WK.reg; (· exact lnn)) | (apply WK.regC; (· rfl); (· exact lnn); (· decide)) | (apply WK.regd0; (· exact lnn)) | (apply WKO.boxO; (· rfl); (· assumption); (· rfl); (· exact nxx); (· exact nxx); (· exact nxx); intro _ _ _) | (apply WKO.alO; (· assumption); (· rfl); (· exact nxx); (· exact nxx); (· exact nxx); intro _ _ _) | (apply WKO.mapO; (· assumption); (· rfl); (· exact nxx); (· exact nxx); (· exact nxx); intro _ _ _) | (apply WKO.bsO; (· rfl); (· rfl); (· assumption); (· rfl); (· exact nxx); (· exact nxx); (· exact nxx); intro _ _ _) | (apply WKO.stO0; (· rfl); (· rfl); (· assumption); (· rfl); (· exact nxx); (· first | exact .inr nxx | exact .inl (by simp)); (· rfl); (· rfl); (· first | decide | (simp; done) | omega); intro _ _ _) | (apply WKO.stO1; (· rfl); (· rfl); (· assumption); (· rfl); (· exact nxx); (· first | exact .inr nxx | exact .inl (by simp)); (· rfl); (· rfl); (· first | decide | (simp; done) | omega); intro _ _ _) | (apply WKO.stO2; (· rfl); (· rfl); (· assumption); (· rfl); (· exact nxx); (· first | exact .inr nxx | exact .inl (by simp)); (· rfl); (· rfl); (· first | decide | (simp; done) | omega); intro _ _ _) | refine WKC.nil ?_ | refine WKO.nil ?_ | ((first | apply WKC.op | apply WKO.op | ((first | apply WKC.gop | apply WKO.gop); (· rfl); (· exact dcd))); (· first | exact k_mv rfl | exact k_shl16 rfl rfl (by omega) | exact k_sub16 rfl rfl Nat.one_le_two_pow (by omega) | (apply k_lookX; (· rfl); (· rfl); (· exact gI); (· exact key16 hfull); (· exact f2); (· rfl)) | (apply k_ldO; (· rfl); (· assumption); (· rfl); (· exact mmb); (· rfl)) | (apply k_ldA; (· rfl); (· assumption); (· rfl); (· exact mmb); (· first | rfl | assumption | (simp; done))) | exact k_faddr rfl | exact k_nilc rfl | exact opA); (· rfl)) | ((first | apply WKC.gnoT | apply WKO.gnoT | apply WKC.gnoF | apply WKO.gnoF); (· rfl); (· exact dcd)) | ((first | apply WKC.gnu | apply WKO.gnu); (· rfl)) | ((first | apply WKC.gsp | apply WKO.gsp); (· rfl); all_goals ((fail_if_success (refine known ?_ ?_; (· assumption))); intro _)) | ((first | apply WKC.gspB | apply WKO.gspB); (· rfl); all_goals ((fail_if_success (refine known ?_ ?_; (· assumption))); intro _)) | refine pN ?_ | refine pR ?_ | refine pX ?_ | refine bN ?_ | refine bR ?_ | refine bX ?_ | refine bO (by decide) ?_ | (apply WK.condT; (· rfl); (· exact dcd)) | (apply WK.condF; (· rfl); (· exact dcd)) | (apply WK.condD; (· rfl); all_goals intro _) | (apply WK.condN; (· rfl); all_goals intro _) | (apply WK.condB; (· rfl); all_goals intro _))
    intro _
    refine ⟨nofun, fun _ => ⟨rfl, _, rfl, ?_⟩⟩
    obtain ⟨p, hp, hpe⟩ := List.mem_map.1 (hasF_iff.1 f1)
    have hlk : lookW W (2 ^ m - 1) = p.2 := lookW_mem hw.nd (by rw [← hpe]; exact hp)
    obtain ⟨o1, o2, o3, o4⟩ := hw.ok p hp
    rw [hlk] at f3
    have hkp : Kp H ((((H.bump 13).bump 1).bump 2)) := Kp.eqm rfl (by simp only [next_bump]; omega)
    refine ⟨k, p.2, ?_, o2, f3.kr hkp.kr, by rw [o3, hpe, hNl], o4, hF.kp.trans hkp⟩
    refine ⟨?_, fun j hj => by rw [hNl]; exact hlo j hj⟩
    rw [← winv_full hw, ← hasF_iff, hNl]
    exact f1
end Go.Proofs.Ytpbighinamljbaa.PA
/- The search of a shortest broadcast, over the machine cfG. No condition. -/
set_option linter.unusedSimpArgs false
set_option linter.unusedVariables false
namespace Go.Proofs.Ytpbighinamljbaa.PA
open Go Go.Eng Go.Proofs
set_option maxHeartbeats 1000000 in
theorem x47 {kk fuel G M m s : Nat} {N : List Nat} {H0 : AHeap} (hNl : N.length = m) (hm : m ≤ 10) (hN2 : ∀ c ∈ N, c < 2 ^ N.length) (hfu : 1030 < fuel) (hs : s < m) (hg : GrH H0 G M m N) (hcl : Go.Eng.Clean H0) (hS : Sym N) (hc : connN N = true)
    (h70 : ∀ b8 b5 b10 J I inf W, inf < 1024 → (∀ p ∈ W, p.1 < 1024) → (lookW W inf).length < 1000 → K70 (cfG kk) N m G M b8 b5 b10 J I inf W 0)
    (h69 : ∀ I H, ∃ u H', cfG kk 69 [.map I] H = some (u, H') ∧ ∃ p, u = .fn 81 [.ptr p 0] ∧ H.next ≤ p ∧ p < H'.next ∧ H'.get p = some (.cells [.map I] none) ∧ Kp H H') :
    ∃ u H', xfunc (cfG kk) fuel L47 [.ptr G 0, nA s] H0 = some (u, H') ∧ SchR H0 N s u H' := by
  refine xfunc_ofK rfl (by show 2 ≤ 78; omega) ?_
  obtain ⟨T, hT1, hT⟩ := isT_ex hS (by omega) hN2 hc (by omega : s < N.length)
  have hF0 := hf0 H0
  have hp := pow_le10 hm
  have hNt : ∀ c ∈ N, c < 1024 := fun c hc => Nat.lt_of_lt_of_le (hN2 c hc) (by rw [hNl]; exact hp)
  have hps : 2 ^ s < 1024 := pow10 (by omega)
  have hcc := cfG_clean kk
  have hb := @body47_ok kk fuel G M m s
  unfold body47 at hb
  unfold L47 at hb ⊢
  dsimp only at hb ⊢
  repeat' (first | refine WK.seqC (by assumption) ?_ | intro (_ : CleanTo _ _) | refine WK.skip ?_ | refine WK.ret ?_ | refine WK.exit ?_ | refine WK.block ?_ | (apply WK.reg; (· exact lnn)) | (apply WK.regC; (· rfl); (· exact lnn); (· decide)) | (apply WK.regd0; (· exact lnn)) | (apply WKO.updO0; (· rfl); (· rfl); (· rfl); (· assumption); (· rfl); (· first | omega | (simp only [next_bump] at *; omega)); (· exact .inr (by first | omega | (simp only [next_bump] at *; omega))); (· exact key16 hps); (· rfl); intro _ _ _) | (apply WKO.boxO; (· rfl); (· assumption); (· rfl); (· exact nxx); (· exact nxx); (· exact nxx); intro _ _ _) | (apply WKO.alO; (· assumption); (· rfl); (· exact nxx); (· exact nxx); (· exact nxx); intro _ _ _) | (apply WKO.mapO; (· assumption); (· rfl); (· exact nxx); (· exact nxx); (· exact nxx); intro _ _ _) | (apply WKO.bsO; (· rfl); (· rfl); (· assumption); (· rfl); (· exact nxx); (· exact nxx); (· exact nxx); intro _ _ _) | (apply WKO.stO0; (· rfl); (· rfl); (· assumption); (· rfl); (· exact nxx); (· first | exact .inr nxx | exact .inl (by simp)); (· rfl); (· rfl); (· first | decide | (simp; done) | omega); intro _ _ _) | (apply WKO.stO1; (· rfl); (· rfl); (· assumption); (· rfl); (· exact nxx); (· first | exact .inr nxx | exact .inl (by simp)); (· rfl); (· rfl); (· first | decide | (simp; done) | omega); intro _ _ _) | (apply WKO.stO2; (· rfl); (· rfl); (· assumption); (· rfl); (· exact nxx); (· first | exact .inr nxx | exact .inl (by simp)); (· rfl); (· rfl); (· first | decide | (simp; done) | omega); intro _ _ _) | refine WKC.nil ?_ | refine WKO.nil ?_ | ((first | apply WKC.op | apply WKO.op | ((first | apply WKC.gop | apply WKO.gop); (· rfl); (· exact dcd))); (· first | exact k_mv rfl | exact k_shl16 rfl rfl (by omega) | (apply k_ldO; (· rfl); (· assumption); (· rfl); (· exact mmb); (· rfl)) | (apply k_ldA; (· rfl); (· assumption); (· rfl); (· exact mmb); (· first | rfl | assumption | (simp; done))) | exact k_faddr rfl | exact k_nilc rfl | exact opA); (· rfl)) | ((first | apply WKC.gnoT | apply WKO.gnoT | apply WKC.gnoF | apply WKO.gnoF); (· rfl); (· exact dcd)) | ((first | apply WKC.gnu | apply WKO.gnu); (· rfl)) | ((first | apply WKC.gsp | apply WKO.gsp); (· rfl); all_goals ((fail_if_success (refine known ?_ ?_; (· assumption))); intro _)) | ((first | apply WKC.gspB | apply WKO.gspB); (· rfl); all_goals ((fail_if_success (refine known ?_ ?_; (· assumption))); intro _)) | refine pN ?_ | refine pR ?_ | refine pX ?_ | refine bN ?_ | refine bR ?_ | refine bX ?_ | refine bO (by decide) ?_ | (apply WK.condT; (· rfl); (· exact dcd)) | (apply WK.condF; (· rfl); (· exact dcd)) | (apply WK.condD; (· rfl); all_goals intro _) | (apply WK.condN; (· rfl); all_goals intro _) | (apply WK.condB; (· rfl); all_goals intro _))
  rename_i c1 Ha _ na Hb _ nb Hc _ nc H1 hF1 n1 cl1
  have hC1 : Go.Eng.Clean H1 := cl1.1 (c1.1 hcl)
  have hT1' := hF1.le
  have hm1 : (H0.bump 1).next = H0.next + 1 := rfl
  rw [hm1] at hF1 hT1' ⊢
  have hw0 : WInv N s 0 [(2 ^ s, [])] := winv0 (by omega)
  refine WK.loop (α := Nat × FW) (fun _ => [(0, .ptr G 0), (1, nA s), (4, .nils), (5, .ptr (H0.next + 1 + 1 + 1 + 1 + 1 + 1) 0)]) (fun p H => SchI H0 m N s (H0.next + 1 + 1 + 1 + 1 + 1 + 1) p.1 p.2 H) (fun p => T + 1 - p.1) (0, [(2 ^ s, [])]) (.cons rfl <| .cons rfl <| .cons rfl <| .cons rfl <| .nil _)
    ⟨hw0, fun j hj => absurd hj (Nat.not_lt_zero _), ⟨H0.next + 1, _, [(sA (2 ^ s), .nils)], by omega, hF1, rfl, RRw.nil _, trivial⟩, hC1⟩ (by dsimp only; omega) ?_
  rintro ⟨k, W⟩ H hI
  refine (hb (b5 := H0.next + 1 + 1 + 1 + 1 + 1 + 1) hNl hm hNt hN2 hfu hs hg hI (by omega) hT (by omega) (fun b8 b10 J I inf W => h70 b8 _ b10 J I inf W) h69).mono ?_
  rintro e l' H' ⟨q1, q2⟩
  refine ⟨fun he => ?_, fun he => ?_⟩
  · obtain ⟨W', r1, r2, r3⟩ := q1 he
    exact ⟨(k + 1, W'), r1, r2, by dsimp only; omega⟩
  · obtain ⟨rfl, u, r1, r2⟩ := q2 he
    refine ⟨nofun, fun _ => ⟨nofun, [u], ?_, r2⟩⟩
    simp only [resK, resK1, r1, Option.bind_some]
/-! ### over the machine -/
section
variable {k : Nat}
theorem g_82 {H : AHeap} {v : AV} {m : Nat} {cs : List AV} (h : Row 2 H v m cs) (hm : m < 1048576) : ∃ u H', cfG (k + 1) 82 [v] H = some (u, H') ∧ ClipR 2 H m cs u H' := cfG_run rfl rfl (x82 h hm)
theorem g_72 {H : AHeap} {v : AV} {m : Nat} {cs : List AV} (h : Row 1 H v m cs) (hm : m < 1048576) : ∃ u H', cfG (k + 1) 72 [v] H = some (u, H') ∧ ClipR 1 H m cs u H' := cfG_run rfl rfl (x72 h hm)
theorem g_69 (I : Nat) (H : AHeap) : ∃ u H', cfG (k + 1) 69 [.map I] H = some (u, H') ∧ ∃ p, u = .fn 81 [.ptr p 0] ∧ H.next ≤ p ∧ p < H'.next ∧ H'.get p = some (.cells [.map I] none) ∧ Kp H H' := cfG_run rfl rfl x69
theorem g_70 {N : List Nat} {m G M b8 b5 b10 J I inf : Nat} {W : FW} (hNl : N.length = m) (hm : m ≤ 10) (hNt : ∀ c ∈ N, c < 1024) (hi : inf < 1024) (hW : ∀ p ∈ W, p.1 < 1024) (hlk : (lookW W inf).length < 1000) : ∀ (d k v : Nat), v + d = m → K70 (cfG (k + 3 + d)) N m G M b8 b5 b10 J I inf W v := by
  intro d
  induction d using Nat.strongRecOn with
  | ind d ih =>
    intro k v hv H now cs CS F hcl hA hg hC hnow hF hcs
    have e : k + 3 + d = (k + 2 + d) + 1 := by omega
    rw [e]
    refine cfG_run rfl rfl (x70 hNl hm hNt (by omega) (cfG_clean _) hcl hA hg hC hnow hF hcs (by omega) hi (fun H m i h1 h2 => g_64 h1 h2) (fun H v m cs h1 h2 => ?_) (fun H now cs CS F q1 q2 q3 q4 q5 => ?_) (fun v' h1 h2 => ?_))
    · rw [show k + 2 + d = (k + 1 + d) + 1 by omega]
      exact g_82 h1 h2
    · rw [show k + 2 + d = (k + 1 + d) + 1 by omega]
      refine cfG_run rfl rfl (x71 q1 q2 q3 hW q4 hi q5 hlk fun H v m cs h1 h2 => ?_)
      rw [show k + 1 + d = (k + d) + 1 by omega]
      exact g_72 h1 h2
    · have := ih (m - v') (by omega) (k + (d - 1 - (m - v'))) v' (by omega)
      rwa [show k + (d - 1 - (m - v')) + 3 + (m - v') = k + 2 + d by omega] at this
theorem g_47 {G M m s : Nat} {N : List Nat} {H0 : AHeap} (hNl : N.length = m) (hm : m ≤ 10) (hN2 : ∀ c ∈ N, c < 2 ^ N.length) (hs : s < m) (hg : GrH H0 G M m N) (hcl : Go.Eng.Clean H0) (hS : Sym N) (hc : connN N = true) :
    ∃ u H', cfG (k + 14) 47 [.ptr G 0, nA s] H0 = some (u, H') ∧ SchR H0 N s u H' := by
  have hp := pow_le10 hm
  have hNt : ∀ c ∈ N, c < 1024 := fun c hc => Nat.lt_of_lt_of_le (hN2 c hc) (by rw [hNl]; exact hp)
  refine cfG_run rfl rfl (x47 hNl hm hN2 (by omega) hs hg hcl hS hc (fun b8 b5 b10 J I inf W h1 h2 h3 => ?_) (fun I H => g_69 I H))
  have := g_70 (G := G) (M := M) (b8 := b8) (b5 := b5) (b10 := b10) (J := J) (I := I) hNl hm hNt h1 h2 h3 m (k + 10 - m) 0 (by omega)
  rwa [show k + 10 - m + 3 + m = k + 13 by omega] at this
end
end Go.Proofs.Ytpbighinamljbaa.PA
/- news.Rounds and news.Schedule. No condition. -/
set_option linter.unusedSimpArgs false
set_option linter.unusedVariables false
namespace Go.Proofs.Ytpbighinamljbaa.PA
open Go Go.Eng Go.Proofs
/-- The neighbours of a graph that was read. -/
def NZ (n : Int) (l : ZPrs) : List Nat := nearN n.toNat (l.map nE)
/-- Whether a graph is valid, and connected, and a vertex one of its. -/
def cgZ (n : Int) (l : ZPrs) : Bool := grZ n l && connN (NZ n l)
def cnZ (n : Int) (l : ZPrs) (s : Int) : Bool := cgZ n l && decide (0 ≤ s ∧ s < n)
theorem zc_inj : ∀ {l l' : ZPrs}, zc l = zc l' → l = l'
  | [], [], _ => rfl
  | [], _ :: _, h => by cases h
  | _ :: _, [], h => by cases h
  | (a, b) :: l, (c, d) :: l', h => by
    have h' : AV.int .i64 a :: .int .i64 b :: zc l = .int .i64 c :: .int .i64 d :: zc l' := h
    simp only [List.cons.injEq, AV.int.injEq, true_and] at h'
    obtain ⟨h1, h2, h3⟩ := h'
    rw [h1, h2, zc_inj h3]
theorem nE_of {l : ZPrs} {q : Prs} (h : zc l = prsC q) : l.map nE = q := by
  rw [← zc_prs] at h
  rw [zc_inj h, List.map_map]
  conv => rhs; rw [← List.map_id q]
  exact List.map_congr_left fun c _ => rfl
theorem gr_of {n : Int} {l : ZPrs} (h : grZ n l = true) : ∃ m : Nat, n = m ∧ 1 ≤ m ∧ m ≤ 10 ∧ l.length ≤ 60 ∧ Egs m (l.map nE) ∧ zc l = prsC (l.map nE) ∧ NZ n l = nearN m (l.map nE) := by
  simp only [grZ, Bool.and_eq_true, decide_eq_true_eq] at h
  obtain ⟨⟨⟨h1, h2⟩, h3⟩, h4⟩ := h
  obtain ⟨m, rfl⟩ : ∃ m : Nat, n = m := ⟨n.toNat, by omega⟩
  have hall := List.all_eq_true.1 h4
  refine ⟨m, rfl, by omega, by omega, h3, fun c hc => ?_, ?_, rfl⟩
  · obtain ⟨p, hp, rfl⟩ := List.mem_map.1 hc
    obtain ⟨a, b, rfl, h⟩ := okE_nat (hall p hp)
    exact h
  · rw [← zc_prs, List.map_map]
    congr 1
    conv => lhs; rw [← List.map_id l]
    refine List.map_congr_left fun p hp => ?_
    obtain ⟨a, b, rfl, _⟩ := okE_nat (hall p hp)
    rfl
/-- What is known of a valid graph's neighbours. -/
structure NOk (N : List Nat) : Prop where
  l1 : 1 ≤ N.length
  l10 : N.length ≤ 10
  lt : ∀ c ∈ N, c < 2 ^ N.length
  sym : Sym N
  con : connN N = true
theorem cg_ok {n : Int} {l : ZPrs} (h : cgZ n l = true) : NOk (NZ n l) ∧ n = ((NZ n l).length : Nat) := by
  simp only [cgZ, Bool.and_eq_true] at h
  obtain ⟨h1, h2⟩ := h
  obtain ⟨m, rfl, m1, m2, _, hq, _, hN⟩ := gr_of h1
  have hl : (NZ (m : Int) l).length = m := by rw [hN, nearN_len]
  exact ⟨⟨by omega, by omega, by rw [hl, hN]; exact nearN_lt2 hq, by rw [hN]; exact nearN_sym hq, h2⟩, by rw [hl]⟩
/-- What Rounds answers. -/
def RndR (n : Int) (l : ZPrs) (s : Int) (v : AV) : Prop :=
  (cnZ n l s = false ∧ v = .tup [nA 0, nA 1]) ∨ (cnZ n l s = true ∧ ∃ k, IsT (NZ n l) s.toNat k ∧ v = .tup [nA k, nA 0])
/-- A graph that was read, and a vertex. -/
theorem from_cases {H0 H' : AHeap} {n s : Int} {l : ZPrs} {v : AV} (h : FromR H0 n l s v H') :
    (cnZ n l s = false ∧ (∃ p, v = .tup [p, .bool false]) ∧ Kp H0 H') ∨ (cnZ n l s = true ∧ ∃ G M, v = .tup [.ptr G 0, .bool true] ∧ GrH H' G M (NZ n l).length (NZ n l) ∧ Kp H0 H' ∧ NOk (NZ n l) ∧ s.toNat < (NZ n l).length ∧ s = s.toNat) := by
  rcases h with ⟨hg, rfl, hk⟩ | ⟨hg, m, q, G, M, rfl, m1, m2, hz, hql, hqE, rfl, T, hF⟩
  · exact .inl ⟨by simp [cnZ, cgZ, hg], ⟨_, rfl⟩, hk⟩
  · have hq := nE_of hz
    have hN : NZ (m : Int) l = nearN m q := by rw [NZ, hq]; rfl
    have hcs := conS_near m1 m2 hqE
    have hl : (NZ (m : Int) l).length = m := by rw [hN, nearN_len]
    have hb : (conS (nearN m q) && decide (0 ≤ s ∧ s < (m : Int))) = cnZ (m : Int) l s := by rw [cnZ, cgZ, hg, hN, hcs, Bool.true_and]
    rw [hb]
    cases hc : cnZ (m : Int) l s with
    | false => exact .inl ⟨rfl, ⟨_, rfl⟩, hF.kp⟩
    | true =>
      have hc' := hc
      simp only [cnZ, Bool.and_eq_true, decide_eq_true_eq] at hc'
      obtain ⟨hcg, h0, h1⟩ := hc'
      refine .inr ⟨rfl, G, M, rfl, ?_, hF.kp, (cg_ok hcg).1, by omega, by omega⟩
      rw [hl, hN]
      exact ⟨hF.obj _ (.head _), hF.obj _ (.tail _ (.head _)), Nat.lt_of_lt_of_le (hF.lt _ (.head _)) hF.le, Nat.lt_of_lt_of_le (hF.lt _ (.tail _ (.head _))) hF.le⟩
theorem RRw.len {H : AHeap} {u : AV} {ls : List Prs} (h : RRw H u ls) : lenN u = some ls.length := by
  obtain ⟨cs, h1, _⟩ := h
  exact (RdR.of (.inl h1)).len
section
variable {kk fuel : Nat} {H0 : AHeap} {n s : Int} {l : ZPrs} {X : AV}
theorem x23 (hX : RdR 2 H0 X l.length (zc l)) (hcl : Go.Eng.Clean H0)
    (h50 : ∀ H, RdR 2 H X l.length (zc l) → ∃ v H', cfG kk 50 [.int .i64 n, X, .int .i64 s] H = some (v, H') ∧ FromR H n l s v H')
    (h47 : ∀ H G M s N, GrH H G M N.length N → NOk N → s < N.length → Go.Eng.Clean H → ∃ u H', cfG kk 47 [.ptr G 0, nA s] H = some (u, H') ∧ SchR H N s u H') :
    ∃ u H', xfunc (cfG kk) fuel L23 [.int .i64 n, X, .int .i64 s] H0 = some (u, H') ∧ RndR n l s u ∧ Kp H0 H' := by
  refine xfunc_ofK rfl (by show 3 ≤ 23; omega) ?_
  have hcc := cfG_clean kk
  unfold L23
  dsimp only
  have hk0 : Kp H0 ((H0.bump 2).bump 9) := (Kp.bump _).trans (Kp.bump _)
  repeat' (first | refine WK.seqC (by assumption) ?_ | intro (_ : CleanTo _ _) | refine WK.skip ?_ | refine WK.ret ?_ | refine WK.exit ?_ | refine WK.block ?_ | (apply WK.reg; (· exact lnn)) | (apply WK.regC; (· rfl); (· exact lnn); (· decide)) | (apply WK.regd0; (· exact lnn)) | (refine WKO.callV rfl rfl rfl (h50 _ (hX.kp (by apply Kp.eqm; (· rfl); (· simp only [next_bump]; omega)))) ?_; rintro v1 H1 hv1) | refine WKC.nil ?_ | refine WKO.nil ?_ | ((first | apply WKC.op | apply WKO.op | ((first | apply WKC.gop | apply WKO.gop); (· rfl); (· exact dcd))); (· first | exact k_mv rfl | exact opA); (· rfl)) | ((first | apply WKC.gnoT | apply WKO.gnoT | apply WKC.gnoF | apply WKO.gnoF); (· rfl); (· exact dcd)) | ((first | apply WKC.gnu | apply WKO.gnu); (· rfl)) | ((first | apply WKC.gsp | apply WKO.gsp); (· rfl); all_goals ((fail_if_success (refine known ?_ ?_; (· assumption))); intro _)) | ((first | apply WKC.gspB | apply WKO.gspB); (· rfl); all_goals ((fail_if_success (refine known ?_ ?_; (· assumption))); intro _)) | refine pN ?_ | refine pR ?_ | refine pX ?_ | refine bN ?_ | refine bR ?_ | refine bX ?_ | refine bO (by decide) ?_ | (apply WK.condT; (· rfl); (· exact dcd)) | (apply WK.condF; (· rfl); (· exact dcd)) | (apply WK.condD; (· rfl); all_goals intro _) | (apply WK.condN; (· rfl); all_goals intro _) | (apply WK.condB; (· rfl); all_goals intro _))
  rename_i c1
  rcases from_cases hv1 with ⟨hb, ⟨p, rfl⟩, hk⟩ | ⟨hb, G, M, rfl, hg, hk, hN, hs, hse⟩
  · repeat' (first | refine WK.seqC (by assumption) ?_ | intro (_ : CleanTo _ _) | refine WK.skip ?_ | refine WK.ret ?_ | refine WK.exit ?_ | refine WK.block ?_ | (apply WK.reg; (· exact lnn)) | (apply WK.regC; (· rfl); (· exact lnn); (· decide)) | (apply WK.regd0; (· exact lnn)) | refine WKC.nil ?_ | refine WKO.nil ?_ | ((first | apply WKC.op | apply WKO.op | ((first | apply WKC.gop | apply WKO.gop); (· rfl); (· exact dcd))); (· first | exact k_mv rfl | exact opA); (· rfl)) | ((first | apply WKC.gnoT | apply WKO.gnoT | apply WKC.gnoF | apply WKO.gnoF); (· rfl); (· exact dcd)) | ((first | apply WKC.gnu | apply WKO.gnu); (· rfl)) | ((first | apply WKC.gsp | apply WKO.gsp); (· rfl); all_goals ((fail_if_success (refine known ?_ ?_; (· assumption))); intro _)) | ((first | apply WKC.gspB | apply WKO.gspB); (· rfl); all_goals ((fail_if_success (refine known ?_ ?_; (· assumption))); intro _)) | refine pN ?_ | refine pR ?_ | refine pX ?_ | refine bN ?_ | refine bR ?_ | refine bX ?_ | refine bO (by decide) ?_ | (apply WK.condT; (· rfl); (· exact dcd)) | (apply WK.condF; (· rfl); (· exact dcd)) | (apply WK.condD; (· rfl); all_goals intro _) | (apply WK.condN; (· rfl); all_goals intro _) | (apply WK.condB; (· rfl); all_goals intro _))
    exact ⟨nofun, _, rfl, .inl ⟨hb, rfl⟩, (hk0.trans hk).up rfl (by simp only [next_bump]; omega)⟩
  · obtain ⟨t, rfl⟩ : ∃ t : Nat, s = t := ⟨_, hse⟩
    rw [Int.toNat_natCast] at hs
    repeat' (first | refine WK.seqC (by assumption) ?_ | intro (_ : CleanTo _ _) | refine WK.skip ?_ | refine WK.ret ?_ | refine WK.exit ?_ | refine WK.block ?_ | (apply WK.reg; (· exact lnn)) | (apply WK.regC; (· rfl); (· exact lnn); (· decide)) | (apply WK.regd0; (· exact lnn)) | refine WKC.nil ?_ | refine WKO.nil ?_ | ((first | apply WKC.op | apply WKO.op | ((first | apply WKC.gop | apply WKO.gop); (· rfl); (· exact dcd))); (· first | exact k_mv rfl | exact opA); (· rfl)) | ((first | apply WKC.gnoT | apply WKO.gnoT | apply WKC.gnoF | apply WKO.gnoF); (· rfl); (· exact dcd)) | ((first | apply WKC.gnu | apply WKO.gnu); (· rfl)) | ((first | apply WKC.gsp | apply WKO.gsp); (· rfl); all_goals ((fail_if_success (refine known ?_ ?_; (· assumption))); intro _)) | ((first | apply WKC.gspB | apply WKO.gspB); (· rfl); all_goals ((fail_if_success (refine known ?_ ?_; (· assumption))); intro _)) | refine pN ?_ | refine pR ?_ | refine pX ?_ | refine bN ?_ | refine bR ?_ | refine bX ?_ | refine bO (by decide) ?_ | (apply WK.condT; (· rfl); (· exact dcd)) | (apply WK.condF; (· rfl); (· exact dcd)) | (apply WK.condD; (· rfl); all_goals intro _) | (apply WK.condN; (· rfl); all_goals intro _) | (apply WK.condB; (· rfl); all_goals intro _))
    rename_i c2 _ _
    have hC1 : Go.Eng.Clean H1 := c2.1 (c1.1 hcl)
    refine WKO.callV rfl rfl rfl (h47 _ G M t (NZ n l) (hg.up ?_) hN hs (clean_eqm hC1 ?_ ?_)) ?_
    · exact Kp.eqm rfl (by simp only [next_bump]; omega)
    · rfl
    · simp only [next_bump]; omega
    rintro u H2 ⟨k, ls, r1, r2, r3, r4, r5, r6⟩
    repeat' (first | refine WK.seqC (by assumption) ?_ | intro (_ : CleanTo _ _) | refine WK.skip ?_ | refine WK.ret ?_ | refine WK.exit ?_ | refine WK.block ?_ | (apply WK.reg; (· exact lnn)) | (apply WK.regC; (· rfl); (· exact lnn); (· decide)) | (apply WK.regd0; (· exact lnn)) | refine WKC.nil ?_ | refine WKO.nil ?_ | ((first | apply WKC.op | apply WKO.op | ((first | apply WKC.gop | apply WKO.gop); (· rfl); (· exact dcd))); (· first | exact k_mv rfl | exact k_lenL rfl r3.len | exact opA); (· rfl)) | ((first | apply WKC.gnoT | apply WKO.gnoT | apply WKC.gnoF | apply WKO.gnoF); (· rfl); (· exact dcd)) | ((first | apply WKC.gnu | apply WKO.gnu); (· rfl)) | ((first | apply WKC.gsp | apply WKO.gsp); (· rfl); all_goals ((fail_if_success (refine known ?_ ?_; (· assumption))); intro _)) | ((first | apply WKC.gspB | apply WKO.gspB); (· rfl); all_goals ((fail_if_success (refine known ?_ ?_; (· assumption))); intro _)) | refine pN ?_ | refine pR ?_ | refine pX ?_ | refine bN ?_ | refine bR ?_ | refine bX ?_ | refine bO (by decide) ?_ | (apply WK.condT; (· rfl); (· exact dcd)) | (apply WK.condF; (· rfl); (· exact dcd)) | (apply WK.condD; (· rfl); all_goals intro _) | (apply WK.condN; (· rfl); all_goals intro _) | (apply WK.condB; (· rfl); all_goals intro _))
    refine ⟨nofun, _, rfl, .inr ⟨hb, k, r1, ?_⟩, (hk0.trans (hk.trans ((Kp.eqm (H := H1) (H' := (H1.bump 2).bump 6) rfl ?_).trans r6)))⟩
    · rw [← r2]; rfl
    · simp only [next_bump]; omega
end
section
variable {k : Nat} {H : AHeap} {n s : Int} {l : ZPrs} {X : AV}
theorem g_47' {k : Nat} : ∀ H G M s N, GrH H G M N.length N → NOk N → s < N.length → Go.Eng.Clean H → ∃ u H', cfG (k + 14) 47 [.ptr G 0, nA s] H = some (u, H') ∧ SchR H N s u H' :=
  fun H G M s N hg hN hs hc => g_47 rfl hN.l10 hN.lt hs hg hc hN.sym hN.con
theorem g_23 (hX : RdR 2 H X l.length (zc l)) (hcl : Go.Eng.Clean H) : ∃ u H', cfG (k + 15) 23 [.int .i64 n, X, .int .i64 s] H = some (u, H') ∧ RndR n l s u ∧ Kp H H' :=
  cfG_run rfl rfl (x23 hX hcl (fun H h => g_50 h) g_47')
end
end Go.Proofs.Ytpbighinamljbaa.PA
/- wogglelaw08.made: a connected graph from numbers. No condition. -/
set_option linter.unusedSimpArgs false
set_option linter.unusedVariables false
namespace Go.Proofs.Ytpbighinamljbaa.PA
open Go Go.Eng Go.Proofs
def bA (a : Nat) : AV := .int .u8 (a : Int)
section
variable {cf : CF} {n a b : Nat} {H : AHeap} {l : KL0} {x y : XO}
theorem k_rem4 (hx : evK l x = some (bA a)) (hy : evK l y = some (.int .u8 (.ofNat 4))) : XV cf l H n (.bin .rem x y) = some (bA (a % 4), H) :=
  k_bin hx hy (by
    show (if (4 : Int) = 0 then none else some (AV.int .u8 ((a : Int).tmod (4 : Int)))) = _
    rw [if_neg (by decide)]
    show some (AV.int .u8 ((a : Int).tmod ((4 : Nat) : Int))) = _
    rw [← Int.ofNat_tmod]
    rfl)
theorem k_gtr8 (hx : evK l x = some (bA a)) (hy : evK l y = some (.int .u8 (.ofNat 0))) : XV cf l H n (.bin .gtr x y) = some (.bool (decide (0 < a)), H) :=
  k_bin hx hy (by
    show some (AV.bool (decide ((a : Int) > 0))) = _
    congr 2
    rw [decide_eq_decide]
    omega)
theorem k_conv8 (hx : evK l x = some (bA a)) (ha : a < 256) : XV cf l H n (.conv .i64 x) = some (nA a, H) :=
  k_any (by
    simp only [xval, xop, hx, bA]
    show some (AV.int .i64 (wrapA .i64 (a : Int)), H) = _
    rw [wrapI _ (by omega) (by omega)]
    rfl)
theorem k_aaM {len o : Nat} {cs : List AV} (hx : evK l x = some (.iptr cs o)) (hy : evK l y = some (nA a)) (h : a < len) : XV cf l H n (.aaddr len 1 x y) = some (.iptr cs (o + a), H) :=
  k_any (by
    have : aaddrA len 1 (.iptr cs o) (.int .i64 (a : Int)) = some (.iptr cs (o + a)) := by
      simp only [aaddrA, idxOk_lt h, if_true, Int.toNat_natCast, Nat.mul_one]
    have hy' : evK l y = some (.int .i64 (a : Int)) := hy
    simp only [xval, xop, hx, hy', this, AR.ofV])
end
/-- A pair behind a row of pairs of one's own. -/
theorem WKO.appendP {cf : CF} {n d1 d2 a b : Nat} {H0 H : AHeap} {K : KL0} {x y : XO} {r : List XOper} {R : KL0 → AHeap → Prop} {L : AV} {p : Prs} {m : Nat} {z0 z1 : AV} (hR : RowE 2 H L m (prsC p)) (hm : p.length = m) (hx : evK K x = some (.agg [nA a, nA b])) (hy : evK ((d1, .sl n 0 1 1) :: K) y = some L) (hl : m < 1000) (hn : n < H.next) (hn0 : H0.next ≤ n) (hf : L.own ≠ some n) (ho : ∀ j, L.own = some j → H0.next ≤ j) (hk : Kp H0 H)
    (k : ∀ L' H1, RowE 2 H1 L' (m + 1) (prsC (p ++ [(a, b)])) → (∀ j, L'.own = some j → H0.next ≤ j) → Kp H0 H1 → H.next ≤ H1.next → (∀ j, j < H.next → j ≠ n → L.own ≠ some j → H1.get j = H.get j) → WKO cf r (n + 1 + 1) ((d2, L') :: (d1, .sl n 0 1 1) :: K) H1 R) :
    WKO cf (⟨some d1, .bslice [z0, z1] [(0, 2, x)] 1, none⟩ :: ⟨some d2, .app 2 16 y (.t d1), none⟩ :: r) n K H R := by
  refine WKO.append1E (new := [nA a, nA b]) hR hy ?_ (by simp [allSm, XOp.opnds, hx]) (by omega) (by omega) (by omega) rfl rfl hn hf fun L' H1 r1 r2 r3 r4 => k L' H1 ?_ (fun j hj => ?_) ⟨Nat.le_trans hk.1 r2, fun j hj => ?_⟩ r2 r3
  · simp [evParts, hx, fillA, AV.cells]
  · rw [prsC_app]; exact .inl r1
  · have := hk.1
    rcases r4 j hj with h | h
    · exact ho j h
    · omega
  · have := hk.1
    rw [r3 j (by omega) (by omega) (fun w => by have := ho j w; omega)]
    exact hk.2 j hj
/-- What made returns: a tree, and further edges. -/
structure MadeR (n : Nat) (l : Prs) : Prop where
  n1 : 1 ≤ n
  n10 : n ≤ 10
  len : l.length ≤ 30
  nl : n ≤ l.length + 1
  tree : ∀ j, j + 1 < n → ∃ a, l[j]? = some (a, j + 1) ∧ a ≤ j
  egs : Egs n l
theorem mod_ne {a d n : Nat} (ha : a < n) (h1 : 1 ≤ d) (h2 : d < n) : a ≠ (a + d) % n := by
  rcases Nat.lt_or_ge (a + d) n with h | h
  · rw [Nat.mod_eq_of_lt h]; omega
  · rw [Nat.mod_eq_sub_mod h, Nat.mod_eq_of_lt (by omega)]; omega
set_option maxHeartbeats 1000000 in
theorem x22 {cf : CF} {fuel : Nat} {H0 : AHeap} {x : Prs} (hx : ∀ p ∈ x, p.1 < 256 ∧ p.2 < 256) (hf : 100 < fuel) :
    ∃ u H', xfunc cf fuel L22 [.imm (arrC x) x.length false] H0 = some (u, H') ∧ ∃ n l L, u = .tup [nA n, L] ∧ MadeR n l ∧ RowE 2 H' L l.length (prsC l) ∧ (∀ j, L.own = some j → H0.next ≤ j) ∧ Kp H0 H' := by
  refine xfunc_ofK rfl (by show 1 ≤ 90; omega) ?_
  have hF0 := hf0 H0
  unfold L22
  dsimp only
  repeat' (first | refine WK.stop1 ?_ | refine WK.stop2 ?_ | refine WK.stop3 ?_ | refine WK.seq ?_ | refine WK.skip ?_ | refine WK.ret ?_ | refine WK.exit ?_ | refine WK.block ?_ | (apply WK.reg; (· exact lnn)) | (apply WK.regC; (· rfl); (· exact lnn); (· decide)) | (apply WK.regd0; (· exact lnn)) | (apply WKO.boxO; (· rfl); (· assumption); (· rfl); (· exact nxx); (· exact nxx); (· exact nxx); intro _ _ _) | (apply WKO.alO; (· assumption); (· rfl); (· exact nxx); (· exact nxx); (· exact nxx); intro _ _ _) | (apply WKO.mapO; (· assumption); (· rfl); (· exact nxx); (· exact nxx); (· exact nxx); intro _ _ _) | (apply WKO.bsO; (· rfl); (· rfl); (· assumption); (· rfl); (· exact nxx); (· exact nxx); (· exact nxx); intro _ _ _) | (apply WKO.stO0; (· rfl); (· rfl); (· assumption); (· rfl); (· exact nxx); (· first | exact .inr nxx | exact .inl (by simp)); (· rfl); (· rfl); (· first | decide | (simp; done) | omega); intro _ _ _) | (apply WKO.stO1; (· rfl); (· rfl); (· assumption); (· rfl); (· exact nxx); (· first | exact .inr nxx | exact .inl (by simp)); (· rfl); (· rfl); (· first | decide | (simp; done) | omega); intro _ _ _) | (apply WKO.stO2; (· rfl); (· rfl); (· assumption); (· rfl); (· exact nxx); (· first | exact .inr nxx | exact .inl (by simp)); (· rfl); (· rfl); (· first | decide | (simp; done) | omega); intro _ _ _) | refine WKC.nil ?_ | refine WKO.nil ?_ | ((first | apply WKC.op | apply WKO.op | ((first | apply WKC.gop | apply WKO.gop); (· rfl); (· exact dcd))); (· first | exact k_mv rfl | (apply k_ldO; (· rfl); (· assumption); (· rfl); (· exact mmb); (· rfl)) | (apply k_ldA; (· rfl); (· assumption); (· rfl); (· exact mmb); (· first | rfl | assumption | (simp; done))) | exact k_faddr rfl | exact k_nilc rfl | exact opA); (· rfl)) | ((first | apply WKC.gnoT | apply WKO.gnoT | apply WKC.gnoF | apply WKO.gnoF); (· rfl); (· exact dcd)) | ((first | apply WKC.gnu | apply WKO.gnu); (· rfl)) | ((first | apply WKC.gsp | apply WKO.gsp); (· rfl); all_goals ((fail_if_success (refine known ?_ ?_; (· assumption))); intro _)) | ((first | apply WKC.gspB | apply WKO.gspB); (· rfl); all_goals ((fail_if_success (refine known ?_ ?_; (· assumption))); intro _)) | refine pN ?_ | refine pR ?_ | refine pX ?_ | refine bN ?_ | refine bR ?_ | refine bX ?_ | refine bO (by decide) ?_ | (apply WK.condT; (· rfl); (· exact dcd)) | (apply WK.condF; (· rfl); (· exact dcd)) | (apply WK.condD; (· rfl); all_goals intro _) | (apply WK.condN; (· rfl); all_goals intro _) | (apply WK.condB; (· rfl); all_goals intro _))
  rename_i H1 hF1 n1
  refine Stop.mk (WK.cut (α := Nat × Prs × AV) (fun p => [(0, .imm (arrC x) x.length false), (4, nA (p.1 + 1)), (5, p.2.2)]) (fun p H => p.1 ≤ x.length ∧ p.1 + 1 ≤ 10 ∧ p.2.1.length = p.1 ∧ (∀ j, j < p.1 → ∃ a, p.2.1[j]? = some (a, j + 1) ∧ a ≤ j) ∧ RowE 2 H p.2.2 p.1 (prsC p.2.1) ∧ (∀ j, p.2.2.own = some j → H0.next ≤ j) ∧ Kp H0 H) ?_ ?_)
  · repeat' (first | refine WK.seq ?_ | refine WK.skip ?_ | refine WK.ret ?_ | refine WK.exit ?_ | refine WK.block ?_ | (apply WK.reg; (· exact lnn)) | (apply WK.regC; (· rfl); (· exact lnn); (· decide)) | (apply WK.regd0; (· exact lnn)) | refine WKC.nil ?_ | refine WKO.nil ?_ | ((first | apply WKC.op | apply WKO.op | ((first | apply WKC.gop | apply WKO.gop); (· rfl); (· exact dcd))); (· first | exact k_mv rfl | exact opA); (· rfl)) | ((first | apply WKC.gnoT | apply WKO.gnoT | apply WKC.gnoF | apply WKO.gnoF); (· rfl); (· exact dcd)) | ((first | apply WKC.gnu | apply WKO.gnu); (· rfl)) | ((first | apply WKC.gsp | apply WKO.gsp); (· rfl); all_goals ((fail_if_success (refine known ?_ ?_; (· assumption))); intro _)) | ((first | apply WKC.gspB | apply WKO.gspB); (· rfl); all_goals ((fail_if_success (refine known ?_ ?_; (· assumption))); intro _)) | refine pN ?_ | refine pR ?_ | refine pX ?_ | refine bN ?_ | refine bR ?_ | refine bX ?_ | refine bO (by decide) ?_ | (apply WK.condT; (· rfl); (· exact dcd)) | (apply WK.condF; (· rfl); (· exact dcd)) | (apply WK.condD; (· rfl); all_goals intro _) | (apply WK.condN; (· rfl); all_goals intro _) | (apply WK.condB; (· rfl); all_goals intro _))
    refine WK.loop (α := Nat × Prs × AV) (fun p => [(0, .imm (arrC x) x.length false), (4, nA (p.1 + 1)), (5, p.2.2), (6, nA p.1)]) (fun p H => p.1 ≤ x.length ∧ p.1 + 1 ≤ 10 ∧ p.2.1.length = p.1 ∧ (∀ j, j < p.1 → ∃ a, p.2.1[j]? = some (a, j + 1) ∧ a ≤ j) ∧ RowE 2 H p.2.2 p.1 (prsC p.2.1) ∧ (∀ j, p.2.2.own = some j → H0.next ≤ j) ∧ Kp H0 H) (fun p => 10 - p.1) (0, [], .sl (H0.bump 2).next 0 0 0) (.cons rfl <| .cons rfl <| .cons rfl <| .cons rfl <| .nil _) ⟨Nat.zero_le _, by omega, rfl, fun j hj => absurd hj (Nat.not_lt_zero _), .inr ⟨rfl, rfl, _, rfl, ?_, hF1.obj _ (.head _)⟩, fun j hj => ?_, hF1.kp.up rfl (by simp only [next_bump]; omega)⟩ (by dsimp only; omega) ?_
    · have h1 := hF1.lt _ (.head _)
      have h2 := hF1.le
      simp only [next_bump] at *
      omega
    · have : (H0.bump 2).next = j := by simpa [AV.own] using hj
      simp only [next_bump] at this
      omega
    rintro ⟨i, l, L⟩ H ⟨a1, a2, a3, a4, a5, a6, a7⟩
    dsimp only at a1 a2 a3 a4 a5 a6 a7 ⊢
    by_cases hi : i < x.length
    · obtain ⟨⟨p1, p2⟩, hp⟩ : ∃ p, x[i]? = some p := ⟨_, List.getElem?_eq_getElem hi⟩
      obtain ⟨q0, q1⟩ := arrC_at hp
      obtain ⟨w0, w1⟩ := hx _ (List.mem_of_getElem? hp)
      dsimp only at q0 q1 w0 w1
      repeat' (first | refine WK.seq ?_ | refine WK.skip ?_ | refine WK.ret ?_ | refine WK.exit ?_ | refine WK.block ?_ | (apply WK.reg; (· exact lnn)) | (apply WK.regC; (· rfl); (· exact lnn); (· decide)) | (apply WK.regd0; (· exact lnn)) | refine WKC.nil ?_ | refine WKO.nil ?_ | ((first | apply WKC.op | apply WKO.op | ((first | apply WKC.gop | apply WKO.gop); (· rfl); (· exact dcd))); (· first | exact k_mv rfl | exact k_iaM rfl rfl hi | exact k_aaM rfl rfl (by omega) | exact k_ldM rfl q0 | exact k_ldM rfl q1 | exact k_rem4 rfl rfl | exact k_gtr8 rfl rfl | exact k_conv8 rfl (by omega) | exact opA); (· rfl)) | ((first | apply WKC.gnoT | apply WKO.gnoT | apply WKC.gnoF | apply WKO.gnoF); (· rfl); (· exact dcd)) | ((first | apply WKC.gnu | apply WKO.gnu); (· rfl)) | ((first | apply WKC.gsp | apply WKO.gsp); (· rfl); all_goals ((fail_if_success (refine known ?_ ?_; (· assumption))); intro _)) | ((first | apply WKC.gspB | apply WKO.gspB); (· rfl); all_goals ((fail_if_success (refine known ?_ ?_; (· assumption))); intro _)) | refine pN ?_ | refine pR ?_ | refine pX ?_ | refine bN ?_ | refine bR ?_ | refine bX ?_ | refine bO (by decide) ?_ | (apply WK.condT; (· rfl); (· exact dcd)) | (apply WK.condF; (· rfl); (· exact dcd)) | (apply WK.condD; (· rfl); all_goals intro _) | (apply WK.condN; (· rfl); all_goals intro _) | (apply WK.condB; (· rfl); all_goals intro _))
      · have hown := fun j (q : L.own = some j) => a5.own_lt q
        have hH0 := a7.1
        refine WKO.appendP (H0 := H0) (p := l) (a := p1 % (i + 1)) (b := i + 1) (a5.frame (by simp only [next_bump]; omega) (fun _ _ => rfl)) a3 rfl rfl (by omega) (by simp only [next_bump]; omega) (by simp only [next_bump]; omega) (fun q => by have := hown _ q; simp only [next_bump] at this; omega) a6 (a7.up rfl (by simp only [next_bump]; omega)) ?_
        intro L' H2 r1 r2 r3 _ _
        repeat' (first | refine WK.seq ?_ | refine WK.skip ?_ | refine WK.ret ?_ | refine WK.exit ?_ | refine WK.block ?_ | (apply WK.reg; (· exact lnn)) | (apply WK.regC; (· rfl); (· exact lnn); (· decide)) | (apply WK.regd0; (· exact lnn)) | refine WKC.nil ?_ | refine WKO.nil ?_ | ((first | apply WKC.op | apply WKO.op | ((first | apply WKC.gop | apply WKO.gop); (· rfl); (· exact dcd))); (· first | exact k_mv rfl | exact opA); (· rfl)) | ((first | apply WKC.gnoT | apply WKO.gnoT | apply WKC.gnoF | apply WKO.gnoF); (· rfl); (· exact dcd)) | ((first | apply WKC.gnu | apply WKO.gnu); (· rfl)) | ((first | apply WKC.gsp | apply WKO.gsp); (· rfl); all_goals ((fail_if_success (refine known ?_ ?_; (· assumption))); intro _)) | ((first | apply WKC.gspB | apply WKO.gspB); (· rfl); all_goals ((fail_if_success (refine known ?_ ?_; (· assumption))); intro _)) | refine pN ?_ | refine pR ?_ | refine pX ?_ | refine bN ?_ | refine bR ?_ | refine bX ?_ | refine bO (by decide) ?_ | (apply WK.condT; (· rfl); (· exact dcd)) | (apply WK.condF; (· rfl); (· exact dcd)) | (apply WK.condD; (· rfl); all_goals intro _) | (apply WK.condN; (· rfl); all_goals intro _) | (apply WK.condB; (· rfl); all_goals intro _))
        have hlt : p1 % (i + 1) < i + 1 := Nat.mod_lt _ (by omega)
        refine ⟨(i + 1, l ++ [(p1 % (i + 1), i + 1)], L'), (.cons rfl <| .cons rfl <| .cons rfl <| .cons rfl <| .nil _), ⟨by dsimp only; omega, by dsimp only; omega, by simp [a3], fun j hj => ?_, r1.frame (by simp only [next_bump]; omega) (fun _ _ => rfl), r2, r3.up rfl (by simp only [next_bump]; omega)⟩, by dsimp only; omega⟩
        dsimp only at hj ⊢
        by_cases e : j < i
        · rw [List.getElem?_append_left (by omega)]
          exact a4 j e
        · obtain rfl : j = i := by omega
          refine ⟨p1 % (j + 1), ?_, by omega⟩
          rw [List.getElem?_append_right (by omega), a3, Nat.sub_self]
          rfl
      all_goals exact ⟨(i, l, L), (.cons rfl <| .cons rfl <| .cons rfl <| .nil _), a1, a2, a3, a4, a5.frame (by simp only [next_bump]; omega) (fun _ _ => rfl), a6, a7.up rfl (by simp only [next_bump]; omega)⟩
    · repeat' (first | refine WK.seq ?_ | refine WK.skip ?_ | refine WK.ret ?_ | refine WK.exit ?_ | refine WK.block ?_ | (apply WK.reg; (· exact lnn)) | (apply WK.regC; (· rfl); (· exact lnn); (· decide)) | (apply WK.regd0; (· exact lnn)) | refine WKC.nil ?_ | refine WKO.nil ?_ | ((first | apply WKC.op | apply WKO.op | ((first | apply WKC.gop | apply WKO.gop); (· rfl); (· exact dcd))); (· first | exact k_mv rfl | exact opA); (· rfl)) | ((first | apply WKC.gnoT | apply WKO.gnoT | apply WKC.gnoF | apply WKO.gnoF); (· rfl); (· exact dcd)) | ((first | apply WKC.gnu | apply WKO.gnu); (· rfl)) | ((first | apply WKC.gsp | apply WKO.gsp); (· rfl); all_goals ((fail_if_success (refine known ?_ ?_; (· assumption))); intro _)) | ((first | apply WKC.gspB | apply WKO.gspB); (· rfl); all_goals ((fail_if_success (refine known ?_ ?_; (· assumption))); intro _)) | refine pN ?_ | refine pR ?_ | refine pX ?_ | refine bN ?_ | refine bR ?_ | refine bX ?_ | refine bO (by decide) ?_ | (apply WK.condT; (· rfl); (· exact dcd)) | (apply WK.condF; (· rfl); (· exact dcd)) | (apply WK.condD; (· rfl); all_goals intro _) | (apply WK.condN; (· rfl); all_goals intro _) | (apply WK.condB; (· rfl); all_goals intro _))
      exact ⟨(i, l, L), (.cons rfl <| .cons rfl <| .cons rfl <| .nil _), a1, a2, a3, a4, a5.frame (by simp only [next_bump]; omega) (fun _ _ => rfl), a6, a7.up rfl (by simp only [next_bump]; omega)⟩
  · rintro ⟨i, l, L⟩ H ⟨a1, a2, a3, a4, a5, a6, a7⟩
    dsimp only at a1 a2 a3 a4 a5 a6 a7 ⊢
    repeat' (first | refine WK.seq ?_ | refine WK.skip ?_ | refine WK.ret ?_ | refine WK.exit ?_ | refine WK.block ?_ | (apply WK.reg; (· exact lnn)) | (apply WK.regC; (· rfl); (· exact lnn); (· decide)) | (apply WK.regd0; (· exact lnn)) | refine WKC.nil ?_ | refine WKO.nil ?_ | ((first | apply WKC.op | apply WKO.op | ((first | apply WKC.gop | apply WKO.gop); (· rfl); (· exact dcd))); (· first | exact k_mv rfl | exact opA); (· rfl)) | ((first | apply WKC.gnoT | apply WKO.gnoT | apply WKC.gnoF | apply WKO.gnoF); (· rfl); (· exact dcd)) | ((first | apply WKC.gnu | apply WKO.gnu); (· rfl)) | ((first | apply WKC.gsp | apply WKO.gsp); (· rfl); all_goals ((fail_if_success (refine known ?_ ?_; (· assumption))); intro _)) | ((first | apply WKC.gspB | apply WKO.gspB); (· rfl); all_goals ((fail_if_success (refine known ?_ ?_; (· assumption))); intro _)) | refine pN ?_ | refine pR ?_ | refine pX ?_ | refine bN ?_ | refine bR ?_ | refine bX ?_ | refine bO (by decide) ?_ | (apply WK.condT; (· rfl); (· exact dcd)) | (apply WK.condF; (· rfl); (· exact dcd)) | (apply WK.condD; (· rfl); all_goals intro _) | (apply WK.condN; (· rfl); all_goals intro _) | (apply WK.condB; (· rfl); all_goals intro _))
    have heg : Egs (i + 1) l := fun c hc => by
      obtain ⟨j, hj⟩ := List.getElem?_of_mem hc
      have hjl : j < l.length := (List.getElem?_eq_some_iff.1 hj).1
      obtain ⟨a, h1, h2⟩ := a4 j (by omega)
      rw [hj] at h1
      cases h1
      exact ⟨by dsimp only; omega, by dsimp only; omega, by dsimp only; omega⟩
    refine WK.loop (α := Nat × Prs × AV) (fun p => [(0, .imm (arrC x) x.length false), (4, nA (i + 1)), (5, p.2.2), (7, nA p.1)]) (fun p H => i ≤ p.2.1.length ∧ p.2.1.length ≤ 30 ∧ p.1 = p.2.1.length ∧ (∀ j, j < i → ∃ a, p.2.1[j]? = some (a, j + 1) ∧ a ≤ j) ∧ Egs (i + 1) p.2.1 ∧ RowE 2 H p.2.2 p.2.1.length (prsC p.2.1) ∧ (∀ j, p.2.2.own = some j → H0.next ≤ j) ∧ Kp H0 H) (fun p => 30 - p.1) (i, l, L) (.cons rfl <| .cons rfl <| .cons rfl <| .cons rfl <| .nil _) ⟨by dsimp only; omega, by dsimp only; omega, a3.symm, a4, heg, by dsimp only; rw [a3]; exact a5.frame (by simp only [next_bump]; omega) (fun _ _ => rfl), a6, a7.up rfl (by simp only [next_bump]; omega)⟩ (by dsimp only; omega) ?_
    clear heg a3 a4 a5 a6 a7 a1
    rintro ⟨i', l, L⟩ H ⟨a1, a3, a4, a8, a9, a5, a6, a7⟩
    dsimp only at a1 a3 a4 a5 a6 a7 a8 a9 ⊢
    subst a4
    have hlen : lenN L = some l.length := (RdR.of a5).len
    by_cases hi : l.length < x.length
    · obtain ⟨⟨p1, p2⟩, hp⟩ : ∃ p, x[l.length]? = some p := ⟨_, List.getElem?_eq_getElem hi⟩
      obtain ⟨q0, q1⟩ := arrC_at hp
      obtain ⟨w0, w1⟩ := hx _ (List.mem_of_getElem? hp)
      dsimp only at q0 q1 w0 w1
      have hm1 : p1 % (i + 1) < i + 1 := Nat.mod_lt _ (by omega)
      have hm2 : p2 % (i + 1 - 1) ≤ p2 := Nat.mod_le _ _
      repeat' (first | refine WK.seq ?_ | refine WK.skip ?_ | refine WK.ret ?_ | refine WK.exit ?_ | refine WK.block ?_ | (apply WK.reg; (· exact lnn)) | (apply WK.regC; (· rfl); (· exact lnn); (· decide)) | (apply WK.regd0; (· exact lnn)) | refine WKC.nil ?_ | refine WKO.nil ?_ | ((first | apply WKC.op | apply WKO.op | ((first | apply WKC.gop | apply WKO.gop); (· rfl); (· exact dcd))); (· first | exact k_mv rfl | exact k_iaM rfl rfl hi | exact k_aaM rfl rfl (by omega) | exact k_ldM rfl q0 | exact k_ldM rfl q1 | exact k_conv8 rfl (by omega) | exact k_lenL rfl hlen | exact opA); (· rfl)) | ((first | apply WKC.gnoT | apply WKO.gnoT | apply WKC.gnoF | apply WKO.gnoF); (· rfl); (· exact dcd)) | ((first | apply WKC.gnu | apply WKO.gnu); (· rfl)) | ((first | apply WKC.gsp | apply WKO.gsp); (· rfl); all_goals ((fail_if_success (refine known ?_ ?_; (· assumption))); intro _)) | ((first | apply WKC.gspB | apply WKO.gspB); (· rfl); all_goals ((fail_if_success (refine known ?_ ?_; (· assumption))); intro _)) | refine pN ?_ | refine pR ?_ | refine pX ?_ | refine bN ?_ | refine bR ?_ | refine bX ?_ | refine bO (by decide) ?_ | (apply WK.condT; (· rfl); (· exact dcd)) | (apply WK.condF; (· rfl); (· exact dcd)) | (apply WK.condD; (· rfl); all_goals intro _) | (apply WK.condN; (· rfl); all_goals intro _) | (apply WK.condB; (· rfl); all_goals intro _))
      · rename_i hi1 hl30
        have hown := fun j (q : L.own = some j) => a5.own_lt q
        have hH0 := a7.1
        have hm3 : p2 % (i + 1 - 1) < i := Nat.mod_lt _ (by omega)
        have hm4 : (p1 % (i + 1) + 1 + p2 % (i + 1 - 1)) % (i + 1) < i + 1 := Nat.mod_lt _ (by omega)
        have hne : p1 % (i + 1) ≠ (p1 % (i + 1) + 1 + p2 % (i + 1 - 1)) % (i + 1) := by
          rw [Nat.add_assoc]
          exact mod_ne hm1 (by omega) (by omega)
        refine WKO.appendP (H0 := H0) (p := l) (a := p1 % (i + 1)) (b := (p1 % (i + 1) + 1 + p2 % (i + 1 - 1)) % (i + 1)) (a5.frame (by simp only [next_bump]; omega) (fun _ _ => rfl)) rfl rfl rfl (by omega) (by simp only [next_bump]; omega) (by simp only [next_bump]; omega) (fun q => by have := hown _ q; simp only [next_bump] at this; omega) a6 (a7.up rfl (by simp only [next_bump]; omega)) ?_
        intro L' H2 r1 r2 r3 _ _
        repeat' (first | refine WK.seq ?_ | refine WK.skip ?_ | refine WK.ret ?_ | refine WK.exit ?_ | refine WK.block ?_ | (apply WK.reg; (· exact lnn)) | (apply WK.regC; (· rfl); (· exact lnn); (· decide)) | (apply WK.regd0; (· exact lnn)) | refine WKC.nil ?_ | refine WKO.nil ?_ | ((first | apply WKC.op | apply WKO.op | ((first | apply WKC.gop | apply WKO.gop); (· rfl); (· exact dcd))); (· first | exact k_mv rfl | exact opA); (· rfl)) | ((first | apply WKC.gnoT | apply WKO.gnoT | apply WKC.gnoF | apply WKO.gnoF); (· rfl); (· exact dcd)) | ((first | apply WKC.gnu | apply WKO.gnu); (· rfl)) | ((first | apply WKC.gsp | apply WKO.gsp); (· rfl); all_goals ((fail_if_success (refine known ?_ ?_; (· assumption))); intro _)) | ((first | apply WKC.gspB | apply WKO.gspB); (· rfl); all_goals ((fail_if_success (refine known ?_ ?_; (· assumption))); intro _)) | refine pN ?_ | refine pR ?_ | refine pX ?_ | refine bN ?_ | refine bR ?_ | refine bX ?_ | refine bO (by decide) ?_ | (apply WK.condT; (· rfl); (· exact dcd)) | (apply WK.condF; (· rfl); (· exact dcd)) | (apply WK.condD; (· rfl); all_goals intro _) | (apply WK.condN; (· rfl); all_goals intro _) | (apply WK.condB; (· rfl); all_goals intro _))
        generalize (p1 % (i + 1) + 1 + p2 % (i + 1 - 1)) % (i + 1) = b at *
        refine ⟨(l.length + 1, l ++ [(p1 % (i + 1), b)], L'), (.cons rfl <| .cons rfl <| .cons rfl <| .cons rfl <| .nil _), ⟨by simp; omega, by simp; omega, by simp, fun j hj => ?_, fun c hc => ?_, ?_, r2, r3.up rfl (by simp only [next_bump]; omega)⟩, by dsimp only; omega⟩
        · dsimp only
          rw [List.getElem?_append_left (by omega)]
          exact a8 j hj
        · rcases List.mem_append.1 hc with hc | hc
          · exact a9 c hc
          · have : c = (p1 % (i + 1), b) := by simpa using hc
            subst this
            exact ⟨hm1, hm4, hne⟩
        · dsimp only
          rw [List.length_append]
          exact r1.frame (by simp only [next_bump]; omega) (fun _ _ => rfl)
      all_goals exact ⟨nofun, _, rfl, i + 1, l, L, rfl, ⟨by omega, a2, a3, by omega, fun j hj => a8 j (by omega), a9⟩, a5.frame (by simp only [next_bump]; omega) (fun _ _ => rfl), a6, a7.up rfl (by simp only [next_bump]; omega)⟩
    · repeat' (first | refine WK.seq ?_ | refine WK.skip ?_ | refine WK.ret ?_ | refine WK.exit ?_ | refine WK.block ?_ | (apply WK.reg; (· exact lnn)) | (apply WK.regC; (· rfl); (· exact lnn); (· decide)) | (apply WK.regd0; (· exact lnn)) | refine WKC.nil ?_ | refine WKO.nil ?_ | ((first | apply WKC.op | apply WKO.op | ((first | apply WKC.gop | apply WKO.gop); (· rfl); (· exact dcd))); (· first | exact k_mv rfl | exact k_lenL rfl hlen | exact opA); (· rfl)) | ((first | apply WKC.gnoT | apply WKO.gnoT | apply WKC.gnoF | apply WKO.gnoF); (· rfl); (· exact dcd)) | ((first | apply WKC.gnu | apply WKO.gnu); (· rfl)) | ((first | apply WKC.gsp | apply WKO.gsp); (· rfl); all_goals ((fail_if_success (refine known ?_ ?_; (· assumption))); intro _)) | ((first | apply WKC.gspB | apply WKO.gspB); (· rfl); all_goals ((fail_if_success (refine known ?_ ?_; (· assumption))); intro _)) | refine pN ?_ | refine pR ?_ | refine pX ?_ | refine bN ?_ | refine bR ?_ | refine bX ?_ | refine bO (by decide) ?_ | (apply WK.condT; (· rfl); (· exact dcd)) | (apply WK.condF; (· rfl); (· exact dcd)) | (apply WK.condD; (· rfl); all_goals intro _) | (apply WK.condN; (· rfl); all_goals intro _) | (apply WK.condB; (· rfl); all_goals intro _))
      all_goals exact ⟨nofun, _, rfl, i + 1, l, L, rfl, ⟨by omega, a2, a3, by omega, fun j hj => a8 j (by omega), a9⟩, a5.frame (by simp only [next_bump]; omega) (fun _ _ => rfl), a6, a7.up rfl (by simp only [next_bump]; omega)⟩
end Go.Proofs.Ytpbighinamljbaa.PA
/- Graphs that were made: connected; their rounds. No condition. -/
set_option linter.unusedSimpArgs false
set_option linter.unusedVariables false
namespace Go.Proofs.Ytpbighinamljbaa.PA
open Go Go.Eng Go.Proofs
/-- A connected graph. -/
structure Gph (n : Nat) (l : Prs) : Prop where
  n1 : 1 ≤ n
  n10 : n ≤ 10
  len : l.length ≤ 60
  egs : Egs n l
  con : connN (nearN n l) = true
theorem con_tree {n : Nat} {l : Prs} (h1 : 1 ≤ n) (h2 : n ≤ 10) (hq : Egs n l) (ht : ∀ j, j + 1 < n → ∃ a, (a, j + 1) ∈ l ∧ a ≤ j) : connN (nearN n l) = true := by
  have hl := nearN_len n l
  have hlt := nearN_lt2 hq
  have hb : ∀ k, k < n → ∀ i, i ≤ k → (ballN (nearN n l) k 1).testBit i = true := by
    intro k
    induction k with
    | zero =>
      intro _ i hi
      obtain rfl : i = 0 := by omega
      rw [ballN]
      decide
    | succ k ih =>
      intro hk i hi
      rw [ballN_step, Nat.testBit_or]
      by_cases e : i ≤ k
      · rw [ih (by omega) i e]; rfl
      · obtain rfl : i = k + 1 := by omega
        obtain ⟨a, ha, hak⟩ := ht k hk
        have h3 := ih (by omega) a hak
        have h4 := around_in (N := nearN n l) (set := ballN (nearN n l) k 1) (i := a) (by omega) (by rw [bt_eq]; exact h3) (k + 1) ((nearN_bit hq a (k + 1)).2 ⟨_, ha, .inl ⟨rfl, rfl⟩⟩)
        rw [h4]
        simp
  have hfull : ClN (nearN n l) (2 ^ n - 1) := fun i _ _ => inn_full (getD_lt2 hlt i)
  have h1f : Inn 1 (2 ^ n - 1) := inn_full (by
    have : 2 ^ 1 ≤ 2 ^ n := Nat.pow_le_pow_right (by omega) h1
    omega)
  rw [connN, decide_eq_true_iff, hl]
  refine Inn.eq (ball_cl hfull h1f) fun i hi => ?_
  rw [Nat.testBit_two_pow_sub_one, decide_eq_true_iff] at hi
  have h5 := hb (n - 1) (by omega) i (by omega)
  have : ballN (nearN n l) n 1 = ballN (nearN n l) (n - 1 + 1) 1 := by rw [Nat.sub_add_cancel h1]
  rw [this, ballN_step, Nat.testBit_or, h5]
  rfl
theorem made_gph {n : Nat} {l : Prs} (h : MadeR n l) : Gph n l := ⟨h.n1, h.n10, by have := h.len; omega, h.egs, con_tree h.n1 h.n10 h.egs fun j hj => by
  obtain ⟨a, h1, h2⟩ := h.tree j hj
  exact ⟨a, List.mem_of_getElem? h1, h2⟩⟩
/-- The pairs as ints. -/
def zP (l : Prs) : ZPrs := l.map fun c => ((c.1 : Int), (c.2 : Int))
theorem zP_nE (l : Prs) : (zP l).map nE = l := by
  rw [zP, List.map_map]
  conv => rhs; rw [← List.map_id l]
  exact List.map_congr_left fun c _ => rfl
theorem zP_len (l : Prs) : (zP l).length = l.length := by simp [zP]
theorem zP_zc (l : Prs) : zc (zP l) = prsC l := zc_prs l
theorem gph_N (n : Nat) (l : Prs) : NZ (n : Int) (zP l) = nearN n l := by rw [NZ, zP_nE]; rfl
theorem gph_gr {n : Nat} {l : Prs} (h1 : 1 ≤ n) (h2 : n ≤ 10) (h3 : l.length ≤ 60) (h4 : Egs n l) : grZ (n : Int) (zP l) = true := by
  simp only [grZ, Bool.and_eq_true, decide_eq_true_eq, zP_len]
  refine ⟨⟨by omega, h3⟩, List.all_eq_true.2 fun p hp => ?_⟩
  obtain ⟨c, hc, rfl⟩ := List.mem_map.1 hp
  have := h4 c hc
  simp only [okE, decide_eq_true_eq]
  omega
theorem Gph.cg {n : Nat} {l : Prs} (h : Gph n l) : cgZ (n : Int) (zP l) = true := by
  rw [cgZ, gph_N, h.con, gph_gr h.n1 h.n10 h.len h.egs]
  rfl
theorem Gph.nok {n : Nat} {l : Prs} (h : Gph n l) : NOk (nearN n l) := by
  have := (cg_ok h.cg).1
  rwa [gph_N] at this
theorem Gph.cn {n a : Nat} {l : Prs} (h : Gph n l) (ha : a < n) : cnZ (n : Int) (zP l) (a : Int) = true := by
  rw [cnZ, h.cg, Bool.true_and, decide_eq_true_iff]
  omega
theorem RdR.zP {H : AHeap} {X : AV} {l : Prs} (h : RdR 2 H X l.length (prsC l)) : RdR 2 H X (zP l).length (zc (PA.zP l)) := by
  rw [zP_len, zP_zc]
  exact h
/-- Rounds of a connected graph. -/
theorem g_rounds {k n a : Nat} {l : Prs} {H : AHeap} {X : AV} (hG : Gph n l) (ha : a < n) (hX : RdR 2 H X l.length (prsC l)) (hcl : Go.Eng.Clean H) :
    ∃ u H', cfG (k + 15) 23 [nA n, X, nA a] H = some (u, H') ∧ (∃ j, j + 1 ≤ n ∧ IsT (nearN n l) a j ∧ u = .tup [nA j, nA 0]) ∧ Kp H H' := by
  obtain ⟨u, H', h1, h2, h3⟩ := g_23 (k := k) (n := (n : Int)) (s := (a : Int)) hX.zP hcl
  refine ⟨u, H', h1, ?_, h3⟩
  rcases h2 with ⟨h2, _⟩ | ⟨_, j, h4, h5⟩
  · rw [hG.cn ha] at h2; cases h2
  · rw [gph_N] at h4
    have hN := hG.nok
    obtain ⟨i, i1, i2⟩ := isT_ex hN.sym hN.l10 hN.lt hN.con (s := a) (by rw [nearN_len]; exact ha)
    have := h4.uniq i2
    subst this
    rw [nearN_len] at i1
    exact ⟨j, i1, h4, h5⟩
section
variable {cf : CF} {n : Nat} {H : AHeap} {l : KL0} {x y : XO}
end
end Go.Proofs.Ytpbighinamljbaa.PA
/- NewsNeighbours over the abstract machine: rounds of neighbouring vertices differ by at most 1. No condition. -/
set_option linter.unusedSimpArgs false
set_option linter.unusedVariables false
namespace Go.Proofs.Ytpbighinamljbaa.PA
open Go Go.Eng Go.Proofs
theorem g_22 {k : Nat} {H : AHeap} {x : Prs} (hx : ∀ p ∈ x, p.1 < 256 ∧ p.2 < 256) :
    ∃ u H', cfG (k + 1) 22 [.imm (arrC x) x.length false] H = some (u, H') ∧ ∃ n l L, u = .tup [nA n, L] ∧ MadeR n l ∧ RowE 2 H' L l.length (prsC l) ∧ (∀ j, L.own = some j → H.next ≤ j) ∧ Kp H H' :=
  cfG_run rfl rfl (x22 hx (by omega))
end Go.Proofs.Ytpbighinamljbaa.PA
/- NewsEdges over the abstract machine: with a further edge rounds are never more. No condition. -/
set_option linter.unusedSimpArgs false
set_option linter.unusedVariables false
namespace Go.Proofs.Ytpbighinamljbaa.PA
open Go Go.Eng Go.Proofs
section
variable {cf : CF} {n : Nat} {H : AHeap} {l : KL0} {x y : XO}
theorem k_aaP {len i p j : Nat} (hx : evK l x = some (.ptr i p)) (hy : evK l y = some (nA j)) (h : j < len) : XV cf l H n (.aaddr len 1 x y) = some (.ptr i (p + j), H) := by
  have := op_aaddr (cf := cf) (H := H) (n := n) (z := 1) (ev := evK l) hx (show evK l y = some (.int .i64 (j : Int)) from hy) h
  rw [Nat.mul_one] at this
  exact k_any this
theorem k_bs0 {z : List AV} : XV cf l H n (.bslice z [] 0) = some (.sl n 0 0 0, H.set n (some (.cells [] none))) := k_any (by simp [xval, xop, evParts, fillA])
theorem k_app {z bytes : Nat} {u v w : AV} {H1 : AHeap} (hx : evK l x = some u) (hy : evK l y = some v) (h : appA H z bytes u v = .eff w H1) : XV cf l H n (.app z bytes x y) = some (w, H1) := k_any (by simp only [xval, xop, hx, hy, h])
end
/-- A further edge. -/
theorem gph_more {n a b : Nat} {l : Prs} (h : MadeR n l) (ha : a < n) (hb : b < n) (hab : a ≠ b) : Gph n (l ++ [(a, b)]) ∧ ∀ i, Inn ((nearN n l).getD i 0) ((nearN n (l ++ [(a, b)])).getD i 0) := by
  have he : Egs n (l ++ [(a, b)]) := fun c hc => by
    rcases List.mem_append.1 hc with hc | hc
    · exact h.egs c hc
    · have : c = (a, b) := by simpa using hc
      subst this
      exact ⟨ha, hb, hab⟩
  refine ⟨⟨h.n1, h.n10, by have := h.len; simp; omega, he, con_tree h.n1 h.n10 he fun j hj => ?_⟩, fun i j hj => ?_⟩
  · obtain ⟨c, h1, h2⟩ := h.tree j hj
    exact ⟨c, List.mem_append.2 (.inl (List.mem_of_getElem? h1)), h2⟩
  · rw [nearN_bit h.egs] at hj
    rw [nearN_bit he]
    obtain ⟨c, hc, hj⟩ := hj
    exact ⟨c, List.mem_append.2 (.inl hc), hj⟩
theorem isT_more {N N' : List Nat} {s j k : Nat} (hl : N'.length = N.length) (hN : ∀ i, Inn (N.getD i 0) (N'.getD i 0)) (h1 : IsT N s j) (h2 : IsT N' s k) : k ≤ j := by
  refine h2.le ?_
  have := h1.1.graph hN
  rwa [hl]
set_option maxHeartbeats 1000000 in
theorem x5 {k fuel y0 y1 y2 : Nat} {H0 : AHeap} {x : Prs} (hx : ∀ p ∈ x, p.1 < 256 ∧ p.2 < 256) (hy0 : y0 < 256) (hy1 : y1 < 256) (hy2 : y2 < 256) (hcl : Go.Eng.Clean H0) :
    ∃ u H', xfunc (cfG (k + 15)) fuel L5 [.imm (arrC x) x.length false, .agg [bA y0, bA y1, bA y2]] H0 = some (u, H') ∧ u = .bool true ∧ True := by
  refine xfunc_ofK rfl (by show 2 ≤ 78; omega) ?_
  have hcc := cfG_clean (k + 15)
  have hF0 := hf0 H0
  unfold L5
  dsimp only
  repeat' (first | refine WK.seqC (by assumption) ?_ | intro (_ : CleanTo _ _) | refine WK.skip ?_ | refine WK.ret ?_ | refine WK.exit ?_ | refine WK.block ?_ | (apply WK.reg; (· exact lnn)) | (apply WK.regC; (· rfl); (· exact lnn); (· decide)) | (apply WK.regd0; (· exact lnn)) | (refine WKO.callV rfl rfl rfl (g_22 hx) ?_; rintro _ H1 ⟨n, l, L, rfl, hM, hR, ho, hk1⟩) | (apply WKO.boxO; (· rfl); (· assumption); (· rfl); (· exact nxx); (· exact nxx); (· exact nxx); intro _ _ _) | (apply WKO.alO; (· assumption); (· rfl); (· exact nxx); (· exact nxx); (· exact nxx); intro _ _ _) | (apply WKO.mapO; (· assumption); (· rfl); (· exact nxx); (· exact nxx); (· exact nxx); intro _ _ _) | (apply WKO.bsO; (· rfl); (· rfl); (· assumption); (· rfl); (· exact nxx); (· exact nxx); (· exact nxx); intro _ _ _) | (apply WKO.stO0; (· rfl); (· rfl); (· assumption); (· rfl); (· exact nxx); (· first | exact .inr nxx | exact .inl (by simp)); (· rfl); (· rfl); (· first | decide | (simp; done) | omega); intro _ _ _) | (apply WKO.stO1; (· rfl); (· rfl); (· assumption); (· rfl); (· exact nxx); (· first | exact .inr nxx | exact .inl (by simp)); (· rfl); (· rfl); (· first | decide | (simp; done) | omega); intro _ _ _) | (apply WKO.stO2; (· rfl); (· rfl); (· assumption); (· rfl); (· exact nxx); (· first | exact .inr nxx | exact .inl (by simp)); (· rfl); (· rfl); (· first | decide | (simp; done) | omega); intro _ _ _) | refine WKC.nil ?_ | refine WKO.nil ?_ | ((first | apply WKC.op | apply WKO.op | ((first | apply WKC.gop | apply WKO.gop); (· rfl); (· exact dcd))); (· first | exact k_mv rfl | exact k_call rfl rfl g_17 | (apply k_ldO; (· rfl); (· assumption); (· rfl); (· exact mmb); (· rfl)) | (apply k_ldA; (· rfl); (· assumption); (· rfl); (· exact mmb); (· first | rfl | assumption | (simp; done))) | exact k_faddr rfl | exact k_nilc rfl | exact opA); (· rfl)) | ((first | apply WKC.gnoT | apply WKO.gnoT | apply WKC.gnoF | apply WKO.gnoF); (· rfl); (· exact dcd)) | ((first | apply WKC.gnu | apply WKO.gnu); (· rfl)) | ((first | apply WKC.gsp | apply WKO.gsp); (· rfl); all_goals ((fail_if_success (refine known ?_ ?_; (· assumption))); intro _)) | ((first | apply WKC.gspB | apply WKO.gspB); (· rfl); all_goals ((fail_if_success (refine known ?_ ?_; (· assumption))); intro _)) | refine pN ?_ | refine pR ?_ | refine pX ?_ | refine bN ?_ | refine bR ?_ | refine bX ?_ | refine bO (by decide) ?_ | (apply WK.condT; (· rfl); (· exact dcd)) | (apply WK.condF; (· rfl); (· exact dcd)) | (apply WK.condD; (· rfl); all_goals intro _) | (apply WK.condN; (· rfl); all_goals intro _) | (apply WK.condB; (· rfl); all_goals intro _))
  · exact ⟨nofun, _, rfl, rfl, trivial⟩
  rename_i Ha hFa na ca c1 c2 hn2 c3
  have hCa : Go.Eng.Clean Ha := ca.1 hcl
  have hC1 : Go.Eng.Clean H1 := c1.1 hCa
  have hF1 := (hFa.up (H' := Ha.bump 7) rfl (by simp only [next_bump]; omega)).callK hk1
  clear hF0 hFa
  have hT1 := hF1.le
  have hB1 := hF1.base
  have hn10 := hM.n10
  have ha : y0 % n < n := Nat.mod_lt _ (by omega)
  have hs : y2 % n < n := Nat.mod_lt _ (by omega)
  have hg3 : ∀ {H' : AHeap}, H'.m = H1.m → H'.get H0.next = some (.cells [bA y0, bA y1, bA y2] none) := fun q => (show (_ : AHeap).m.get H0.next = _ by rw [q]; exact hF1.obj _ (.head _))
  repeat' (first | refine WK.seqC (by assumption) ?_ | intro (_ : CleanTo _ _) | refine WK.skip ?_ | refine WK.ret ?_ | refine WK.exit ?_ | refine WK.block ?_ | (apply WK.reg; (· exact lnn)) | (apply WK.regC; (· rfl); (· exact lnn); (· decide)) | (apply WK.regd0; (· exact lnn)) | refine WKC.nil ?_ | refine WKO.nil ?_ | ((first | apply WKC.op | apply WKO.op | ((first | apply WKC.gop | apply WKO.gop); (· rfl); (· exact dcd))); (· first | exact k_mv rfl | exact k_aaP rfl rfl (by omega) | (apply k_ldX; (· rfl); (· exact hg3 rfl); (· rfl)) | exact k_conv8 rfl (by omega) | exact opA); (· rfl)) | ((first | apply WKC.gnoT | apply WKO.gnoT | apply WKC.gnoF | apply WKO.gnoF); (· rfl); (· exact dcd)) | ((first | apply WKC.gnu | apply WKO.gnu); (· rfl)) | ((first | apply WKC.gsp | apply WKO.gsp); (· rfl); all_goals ((fail_if_success (refine known ?_ ?_; (· assumption))); intro _)) | ((first | apply WKC.gspB | apply WKO.gspB); (· rfl); all_goals ((fail_if_success (refine known ?_ ?_; (· assumption))); intro _)) | refine pN ?_ | refine pR ?_ | refine pX ?_ | refine bN ?_ | refine bR ?_ | refine bX ?_ | refine bO (by decide) ?_ | (apply WK.condT; (· rfl); (· exact dcd)) | (apply WK.condF; (· rfl); (· exact dcd)) | (apply WK.condD; (· rfl); all_goals intro _) | (apply WK.condN; (· rfl); all_goals intro _) | (apply WK.condB; (· rfl); all_goals intro _))
  refine WK.regT (k := 19) rfl ?_
  generalize hB : (H1.bump 2).bump 12 = HB
  have hBm : HB.m = H1.m := by rw [← hB]; rfl
  have hBn : HB.next = H1.next + 14 := by rw [← hB]; rfl
  clear hB
  have hBg : ∀ k, (HB.bump 19).get k = H1.get k := fun k => (show HB.m.get k = _ by rw [hBm]; rfl)
  have g3 : H1.get H0.next = some (.cells [bA y0, bA y1, bA y2] none) := hg3 rfl
  have l3 : H0.next < H1.next := by omega
  have hLo : ∀ j, L.own = some j → j < H1.next := fun j q => hR.own_lt q
  obtain ⟨H2, hH2⟩ : ∃ H2, (HB.bump 19).set HB.next (some (.cells [] none)) = H2 := ⟨_, rfl⟩
  have hn2' : H2.next = HB.next + 19 := by rw [← hH2]; rfl
  have hg2 : ∀ k, k ≠ HB.next → H2.get k = H1.get k := fun k hk => by rw [← hH2, AHeap.get_set, if_neg hk, hBg]
  have hN2 : H2.get HB.next = some (.cells [] none) := by rw [← hH2, AHeap.get_set, if_pos rfl]
  have hE2 : RowE 2 H2 (.sl HB.next 0 0 0) 0 [] := .inr ⟨rfl, rfl, HB.next, rfl, by omega, hN2⟩
  have hR2 : RowE 2 H2 L l.length (prsC l) := hR.frame (by omega) (fun j q => hg2 j (by have := hLo j q; omega))
  obtain ⟨v3, H3, e3, R3, hn3, hg3', ho3⟩ := hE2.app0 (bytes := 16) (n := l.length) (y := L) (new := prsC l) (by omega) (by have := hM.len; omega) (by omega) hR2.len hR2.src (prsC_len l) (prsC_one l)
  rw [Nat.zero_add, List.nil_append] at R3
  have o3 : ∀ j, v3.own = some j → j = HB.next ∨ H2.next ≤ j := fun j q => by
    rcases ho3 j q with q | q
    · cases q; exact .inl rfl
    · exact .inr q
  have h3g : ∀ j, j < H2.next → j ≠ HB.next → H3.get j = H2.get j := fun j q1 q2 => hg3' j q1 (fun q => by cases q; exact q2 rfl)
  have hm1 : y1 % (n - 1) < n - 1 := Nat.mod_lt _ (by omega)
  obtain ⟨b, hb⟩ : ∃ b, (y0 % n + 1 + y1 % (n - 1)) % n = b := ⟨_, rfl⟩
  have hbn : b < n := by rw [← hb]; exact Nat.mod_lt _ (by omega)
  have hab : y0 % n ≠ b := by rw [← hb, Nat.add_assoc]; exact mod_ne ha (by omega) (by omega)
  refine WKT.op (v := .sl HB.next 0 0 0) (H1 := H2) (by rw [← hH2]; exact k_bs0) rfl ?_
  repeat' (first | refine WK.seq ?_ | refine WK.skip ?_ | refine WK.ret ?_ | refine WK.exit ?_ | refine WK.block ?_ | (apply WK.reg; (· exact lnn)) | (apply WK.regC; (· rfl); (· exact lnn); (· decide)) | (apply WK.regd0; (· exact lnn)) | refine WKT.nil ?_ | refine WKC.nil ?_ | refine WKO.nil ?_ | ((first | apply WKT.op | apply WKC.op | apply WKO.op | ((first | apply WKC.gop | apply WKO.gop); (· rfl); (· exact dcd))); (· first | exact k_mv rfl | exact opA); (· rfl)) | ((first | apply WKC.gnoT | apply WKO.gnoT | apply WKC.gnoF | apply WKO.gnoF); (· rfl); (· exact dcd)) | ((first | apply WKC.gnu | apply WKO.gnu); (· rfl)) | ((first | apply WKC.gsp | apply WKO.gsp); (· rfl); all_goals ((fail_if_success (refine known ?_ ?_; (· assumption))); intro _)) | ((first | apply WKC.gspB | apply WKO.gspB); (· rfl); all_goals ((fail_if_success (refine known ?_ ?_; (· assumption))); intro _)) | refine pN ?_ | refine pR ?_ | refine pX ?_ | refine bN ?_ | refine bR ?_ | refine bX ?_ | refine bO (by decide) ?_ | (apply WK.condT; (· rfl); (· exact dcd)) | (apply WK.condF; (· rfl); (· exact dcd)) | (apply WK.condD; (· rfl); all_goals intro _) | (apply WK.condN; (· rfl); all_goals intro _) | (apply WK.condB; (· rfl); all_goals intro _))
  refine WKT.op (v := v3) (H1 := H3) (k_app rfl rfl e3) rfl ?_
  have h3b : ∀ {H' : AHeap}, H'.m = H3.m → H'.get H0.next = some (.cells [bA y0, bA y1, bA y2] none) := fun q => (show (_ : AHeap).m.get H0.next = _ by rw [q]; exact (h3g _ (by omega) (by omega)).trans ((hg2 _ (by omega)).trans g3))
  repeat' (first | refine WK.seq ?_ | refine WK.skip ?_ | refine WK.ret ?_ | refine WK.exit ?_ | refine WK.block ?_ | (apply WK.reg; (· exact lnn)) | (apply WK.regC; (· rfl); (· exact lnn); (· decide)) | (apply WK.regd0; (· exact lnn)) | refine WKT.nil ?_ | refine WKC.nil ?_ | refine WKO.nil ?_ | ((first | apply WKT.op | apply WKC.op | apply WKO.op | ((first | apply WKC.gop | apply WKO.gop); (· rfl); (· exact dcd))); (· first | exact k_mv rfl | exact k_aaP rfl rfl (by omega) | (apply k_ldX; (· rfl); (· exact h3b rfl); (· rfl)) | exact k_conv8 rfl (by omega) | exact opA); (· rfl)) | ((first | apply WKC.gnoT | apply WKO.gnoT | apply WKC.gnoF | apply WKO.gnoF); (· rfl); (· exact dcd)) | ((first | apply WKC.gnu | apply WKO.gnu); (· rfl)) | ((first | apply WKC.gsp | apply WKO.gsp); (· rfl); all_goals ((fail_if_success (refine known ?_ ?_; (· assumption))); intro _)) | ((first | apply WKC.gspB | apply WKO.gspB); (· rfl); all_goals ((fail_if_success (refine known ?_ ?_; (· assumption))); intro _)) | refine pN ?_ | refine pR ?_ | refine pX ?_ | refine bN ?_ | refine bR ?_ | refine bX ?_ | refine bO (by decide) ?_ | (apply WK.condT; (· rfl); (· exact dcd)) | (apply WK.condF; (· rfl); (· exact dcd)) | (apply WK.condD; (· rfl); all_goals intro _) | (apply WK.condN; (· rfl); all_goals intro _) | (apply WK.condB; (· rfl); all_goals intro _))
  rw [hb]
  obtain ⟨H4, hH4⟩ : ∃ H4, H3.set (HB.next + 16) (some (.cells [nA (y0 % n), nA b] none)) = H4 := ⟨_, rfl⟩
  have hg4 : ∀ k, k ≠ HB.next + 16 → H4.get k = H3.get k := fun k hk => by rw [← hH4, AHeap.get_set, if_neg hk]
  have hn4 : H4.next = H3.next := by rw [← hH4]; rfl
  have hN4 : H4.get (HB.next + 16) = some (.cells [nA (y0 % n), nA b] none) := by rw [← hH4, AHeap.get_set, if_pos rfl]
  refine WKT.op (v := .sl (HB.next + 16) 0 1 1) (H1 := H4) (by rw [← hH4]; exact k_bs2 rfl) rfl ?_
  have R4 : RowE 2 H4 v3 l.length (prsC l) := R3.frame (by omega) (fun j q => hg4 j (by rcases o3 j q with q | q <;> omega))
  obtain ⟨v5, H5, e5, R5, hn5, hg5, ho5⟩ := R4.app (bytes := 16) (n := 1) (y := .sl (HB.next + 16) 0 1 1) (new := [nA (y0 % n), nA b]) (by omega) (by have := hM.len; omega) (by omega) (by omega) rfl (by simp only [srcA, hN4]; rfl) rfl rfl
  have R5' : RowE 2 H5 v5 (l ++ [(y0 % n, b)]).length (prsC (l ++ [(y0 % n, b)])) := by
    rw [List.length_append, prsC_app]
    exact .inl R5
  refine WKT.op (v := v5) (H1 := H5) (k_app rfl rfl e5) rfl ?_
  repeat' (first | refine WK.seq ?_ | refine WK.skip ?_ | refine WK.ret ?_ | refine WK.exit ?_ | refine WK.block ?_ | (apply WK.reg; (· exact lnn)) | (apply WK.regC; (· rfl); (· exact lnn); (· decide)) | (apply WK.regd0; (· exact lnn)) | refine WKT.nil ?_ | refine WKC.nil ?_ | refine WKO.nil ?_ | ((first | apply WKT.op | apply WKC.op | apply WKO.op | ((first | apply WKC.gop | apply WKO.gop); (· rfl); (· exact dcd))); (· first | exact k_mv rfl | exact opA); (· rfl)) | ((first | apply WKC.gnoT | apply WKO.gnoT | apply WKC.gnoF | apply WKO.gnoF); (· rfl); (· exact dcd)) | ((first | apply WKC.gnu | apply WKO.gnu); (· rfl)) | ((first | apply WKC.gsp | apply WKO.gsp); (· rfl); all_goals ((fail_if_success (refine known ?_ ?_; (· assumption))); intro _)) | ((first | apply WKC.gspB | apply WKO.gspB); (· rfl); all_goals ((fail_if_success (refine known ?_ ?_; (· assumption))); intro _)) | refine pN ?_ | refine pR ?_ | refine pX ?_ | refine bN ?_ | refine bR ?_ | refine bX ?_ | refine bO (by decide) ?_ | (apply WK.condT; (· rfl); (· exact dcd)) | (apply WK.condF; (· rfl); (· exact dcd)) | (apply WK.condD; (· rfl); all_goals intro _) | (apply WK.condN; (· rfl); all_goals intro _) | (apply WK.condB; (· rfl); all_goals intro _))
  have hk15 : Kp H1 H5 := ⟨by omega, fun j hj => by rw [hg5 j (by omega) (fun q => by rcases o3 j q with q | q <;> omega), hg4 j (by omega), h3g j (by omega) (by omega), hg2 j (by omega)]⟩
  have hless : ∀ (Hq : AHeap) (l : List Nat) (k : Nat), k < HB.next → ((Hq.less HB.next [0, 16]).less HB.next l).get k = Hq.get k := fun Hq l k hk => by rw [less_get (H := Hq) l _ (fun i _ => by omega), less_get (H := Hq) [0, 16] _ (fun i _ => by omega)]
  refine ⟨?_, ?_, (_, H5), rfl, ?_⟩
  · intro q hq
    have hq' : q = (7, [2], [0, 16]) := by simpa using hq
    subst hq'
    refine ⟨_, _, _, _, bA y1, rfl, rfl, rfl, xop_ld rfl (h3b rfl) rfl, fun j hj => ?_⟩
    have hj' : j = 7 ∨ j = 2 ∨ j = 3 := by simpa using hj
    rcases hj' with rfl | rfl | rfl <;>
      exact ⟨_, rfl, xop_ld rfl ((hless _ _ _ (by omega)).trans (by first | exact h3b rfl | exact (hg2 _ (by omega)).trans g3)) rfl⟩
  · intro j hj
    have hj' : j = 0 ∨ j = 16 := by simpa using hj
    have hcl1 : ∀ j, H1.next ≤ j → H1.get j = none := hC1
    rcases hj' with rfl | rfl
    · refine ⟨_, rfl, rfl, fun i hi => ?_⟩
      obtain rfl : i = 0 := by omega
      exact ⟨_, rfl, (hBg _).trans (hcl1 _ (by omega))⟩
    · refine ⟨_, rfl, rfl, fun i hi => ?_⟩
      have hi' : i = 0 ∨ i = 1 ∨ i = 2 ∨ i = 3 ∨ i = 4 ∨ i = 5 ∨ i = 6 ∨ i = 7 ∨ i = 8 ∨ i = 9 ∨ i = 10 ∨ i = 11 ∨ i = 12 ∨ i = 13 ∨ i = 14 ∨ i = 15 ∨ i = 16 := by omega
      rcases hi' with rfl | rfl | rfl | rfl | rfl | rfl | rfl | rfl | rfl | rfl | rfl | rfl | rfl | rfl | rfl | rfl | rfl <;>
        exact ⟨_, rfl, by first | exact (hBg _).trans (hcl1 _ (by omega)) | exact (hg2 _ (by omega)).trans (hcl1 _ (by omega)) | exact (h3g _ (by omega) (by omega)).trans ((hg2 _ (by omega)).trans (hcl1 _ (by omega)))⟩
  dsimp only
  have hCB : Go.Eng.Clean HB := clean_eqm hC1 hBm (by omega)
  obtain ⟨hG2, hin⟩ := gph_more hM ha hbn hab
  have hG1 := made_gph hM
  repeat' (first | refine WK.seqC (by assumption) ?_ | intro (_ : CleanTo _ _) | refine WK.skip ?_ | refine WK.ret ?_ | refine WK.exit ?_ | refine WK.block ?_ | (apply WK.reg; (· exact lnn)) | (apply WK.regC; (· rfl); (· exact lnn); (· decide)) | (apply WK.regd0; (· exact lnn)) | refine WKC.nil ?_ | refine WKO.nil ?_ | ((first | apply WKC.op | apply WKO.op | ((first | apply WKC.gop | apply WKO.gop); (· rfl); (· exact dcd))); (· first | exact k_mv rfl | exact opA); (· rfl)) | ((first | apply WKC.gnoT | apply WKO.gnoT | apply WKC.gnoF | apply WKO.gnoF); (· rfl); (· exact dcd)) | ((first | apply WKC.gnu | apply WKO.gnu); (· rfl)) | ((first | apply WKC.gsp | apply WKO.gsp); (· rfl); all_goals ((fail_if_success (refine known ?_ ?_; (· assumption))); intro _)) | ((first | apply WKC.gspB | apply WKO.gspB); (· rfl); all_goals ((fail_if_success (refine known ?_ ?_; (· assumption))); intro _)) | refine pN ?_ | refine pR ?_ | refine pX ?_ | refine bN ?_ | refine bR ?_ | refine bX ?_ | refine bO (by decide) ?_ | (apply WK.condT; (· rfl); (· exact dcd)) | (apply WK.condF; (· rfl); (· exact dcd)) | (apply WK.condD; (· rfl); all_goals intro _) | (apply WK.condN; (· rfl); all_goals intro _) | (apply WK.condB; (· rfl); all_goals intro _))
  rename_i c9
  have hC5 : Go.Eng.Clean H5 := c9.1 hCB
  have hX5 : RdR 2 (H5.bump 9) L l.length (prsC l) := (RdR.of hR).kp (hk15.trans (Kp.bump 9))
  refine WKO.callV rfl rfl rfl (g_rounds hG1 hs hX5 (clean_eqm hC5 rfl (by simp only [next_bump]; omega))) ?_
  rintro _ H6 ⟨⟨j, hj1, hj2, rfl⟩, hk6⟩
  repeat' (first | refine WK.seqC (by assumption) ?_ | intro (_ : CleanTo _ _) | refine WK.skip ?_ | refine WK.ret ?_ | refine WK.exit ?_ | refine WK.block ?_ | (apply WK.reg; (· exact lnn)) | (apply WK.regC; (· rfl); (· exact lnn); (· decide)) | (apply WK.regd0; (· exact lnn)) | refine WKC.nil ?_ | refine WKO.nil ?_ | ((first | apply WKC.op | apply WKO.op | ((first | apply WKC.gop | apply WKO.gop); (· rfl); (· exact dcd))); (· first | exact k_mv rfl | exact opA); (· rfl)) | ((first | apply WKC.gnoT | apply WKO.gnoT | apply WKC.gnoF | apply WKO.gnoF); (· rfl); (· exact dcd)) | ((first | apply WKC.gnu | apply WKO.gnu); (· rfl)) | ((first | apply WKC.gsp | apply WKO.gsp); (· rfl); all_goals ((fail_if_success (refine known ?_ ?_; (· assumption))); intro _)) | ((first | apply WKC.gspB | apply WKO.gspB); (· rfl); all_goals ((fail_if_success (refine known ?_ ?_; (· assumption))); intro _)) | refine pN ?_ | refine pR ?_ | refine pX ?_ | refine bN ?_ | refine bR ?_ | refine bX ?_ | refine bO (by decide) ?_ | (apply WK.condT; (· rfl); (· exact dcd)) | (apply WK.condF; (· rfl); (· exact dcd)) | (apply WK.condD; (· rfl); all_goals intro _) | (apply WK.condN; (· rfl); all_goals intro _) | (apply WK.condB; (· rfl); all_goals intro _))
  rename_i c10
  have hC6 : Go.Eng.Clean H6 := c10.1 hC5
  have hX6 : RdR 2 (H6.bump 9) v5 (l ++ [(y0 % n, b)]).length (prsC (l ++ [(y0 % n, b)])) := (RdR.of R5').kp ((Kp.bump 9).trans (hk6.trans (Kp.bump 9)))
  refine WKO.callV rfl rfl rfl (g_rounds hG2 hs hX6 (clean_eqm hC6 rfl (by simp only [next_bump]; omega))) ?_
  rintro _ H7 ⟨⟨j', hj3, hj4, rfl⟩, hk7⟩
  have hle := isT_more (by rw [nearN_len, nearN_len]) hin hj2 hj4
  repeat' (first | refine WK.seqC (by assumption) ?_ | intro (_ : CleanTo _ _) | refine WK.skip ?_ | refine WK.ret ?_ | refine WK.exit ?_ | refine WK.block ?_ | (apply WK.reg; (· exact lnn)) | (apply WK.regC; (· rfl); (· exact lnn); (· decide)) | (apply WK.regd0; (· exact lnn)) | refine WKC.nil ?_ | refine WKO.nil ?_ | ((first | apply WKC.op | apply WKO.op | ((first | apply WKC.gop | apply WKO.gop); (· rfl); (· exact dcd))); (· first | exact k_mv rfl | exact k_call rfl rfl g_17 | exact opA); (· rfl)) | ((first | apply WKC.gnoT | apply WKO.gnoT | apply WKC.gnoF | apply WKO.gnoF); (· rfl); (· exact dcd)) | ((first | apply WKC.gnu | apply WKO.gnu); (· rfl)) | ((first | apply WKC.gsp | apply WKO.gsp); (· rfl); all_goals ((fail_if_success (refine known ?_ ?_; (· assumption))); intro _)) | ((first | apply WKC.gspB | apply WKO.gspB); (· rfl); all_goals ((fail_if_success (refine known ?_ ?_; (· assumption))); intro _)) | refine pN ?_ | refine pR ?_ | refine pX ?_ | refine bN ?_ | refine bR ?_ | refine bX ?_ | refine bO (by decide) ?_ | (apply WK.condT; (· rfl); (· exact dcd)) | (apply WK.condF; (· rfl); (· exact dcd)) | (apply WK.condD; (· rfl); all_goals intro _) | (apply WK.condN; (· rfl); all_goals intro _) | (apply WK.condB; (· rfl); all_goals intro _))
  exact ⟨nofun, _, rfl, rfl, trivial⟩
end Go.Proofs.Ytpbighinamljbaa.PA
/- The input of the news laws, as it is read. No condition. -/
set_option linter.unusedSimpArgs false
set_option linter.unusedVariables false
namespace Go.Proofs.Ytpbighinamljbaa.PA
open Go Go.Eng Go.Proofs Go.RowKit Go.ChangeShapes Go.Deep
instance : Inhabited (Nat × Nat) := ⟨(0, 0)⟩
theorem u8_nat {n : Int} (h : (Lit.int .u8 n).wf = true) : ∃ m : Nat, n = (m : Int) ∧ m < 256 := by
  simp [Lit.wf, IntKind.min, IntKind.max, IntKind.signed, IntKind.bits] at h
  exact ⟨n.toNat, by omega, by omega⟩
theorem relL_arr {E : Env} {w : World} : ∀ x : Prs, AVRelL E w (arrC x) (x.flatMap fun p => [Value.int .u8 (p.1 : Int), Value.int .u8 (p.2 : Int)])
  | [] => by simp [arrC, AVRelL]
  | p :: x => by
    have := relL_arr (E := E) (w := w) x
    simp only [arrC, List.flatMap_cons, List.cons_append, List.nil_append, AVRelL, AVRel] at this ⊢
    exact ⟨_, _, rfl, rfl, _, _, rfl, rfl, this⟩
theorem arr_vals : ∀ (x : Prs) (j : Nat) (u : Value), (x.flatMap fun p => [Value.int .u8 (p.1 : Int), Value.int .u8 (p.2 : Int)])[j]? = some u →
    ∃ i p, x[i]? = some p ∧ ((j = i * 2 ∧ u = .int .u8 (p.1 : Int)) ∨ (j = i * 2 + 1 ∧ u = .int .u8 (p.2 : Int)))
  | [], j, u, h => by simp at h
  | p :: x, 0, u, h => by simp at h; exact ⟨0, p, rfl, .inl ⟨rfl, h.symm⟩⟩
  | p :: x, 1, u, h => by simp at h; exact ⟨0, p, rfl, .inr ⟨rfl, h.symm⟩⟩
  | p :: x, j + 2, u, h => by
    have h' : (x.flatMap fun p => [Value.int .u8 (p.1 : Int), Value.int .u8 (p.2 : Int)])[j]? = some u := by simpa using h
    obtain ⟨i, q, h1, h2⟩ := arr_vals x j u h'
    refine ⟨i + 1, q, by simpa using h1, ?_⟩
    rcases h2 with ⟨rfl, h2⟩ | ⟨rfl, h2⟩
    · exact .inl ⟨by omega, h2⟩
    · exact .inr ⟨by omega, h2⟩
section
variable {H : Type} {enc : TypeId × Value → H} {P : Program} {w : World} {base : Nat} {held : Bool}
/-- One pair, opened. -/
theorem open_arr2 {spare : Nat → Bool} {t e : TypeId} {fuel : Nat} {cs : List Value} {x : DataW H × List MemPlace} (ht : P.underlying t = some (.array 2 e)) (he : P.underlying e = some (.int .u8)) (ct : P.cellsOf t = 2) (ce : P.cellsOf e = 1)
    (h : DataW.trod enc P w base spare held fuel t cs = some x) : ∃ p : Nat × Nat, cs = [.int .u8 (p.1 : Int), .int .u8 (p.2 : Int)] ∧ p.1 < 256 ∧ p.2 < 256 := by
  obtain ⟨xs, m, _, _, hlen, hl, hel⟩ := DataW.trod_array ht h
  rw [ct] at hlen
  have h0 := hel 0 (by omega)
  have h1 := hel 1 (by omega)
  rw [List.getElem?_eq_getElem (by omega)] at h0 h1
  rw [ce] at h0 h1
  obtain ⟨n0, e0, _, w0⟩ := DataW.trod_int he h0
  obtain ⟨n1, e1, _, w1⟩ := DataW.trod_int he h1
  match cs, hlen with
  | [a, b], _ =>
    simp at e0 e1
    obtain ⟨m0, rfl, l0⟩ := u8_nat w0
    obtain ⟨m1, rfl, l1⟩ := u8_nat w1
    exact ⟨(m0, m1), by rw [e0, e1], l0, l1⟩
/-- The input, read. -/
theorem read_input {t te e : TypeId} {v : Value} {d : DataW H} {ps : List MemPlace} (ht : P.underlying t = some (.slice te)) (hte : P.underlying te = some (.array 2 e)) (he : P.underlying e = some (.int .u8)) (ct : P.cellsOf te = 2) (ce : P.cellsOf e = 1)
    {a0 : Option Addr} {len cap : Nat} (hv : v = .slice a0 len cap) (h : DataW.Trod enc P w base (fun _ => true) held t v d ps) :
    ∃ x : Prs, (∀ p ∈ x, p.1 < 256 ∧ p.2 < 256) ∧ AVRel (E0 w) w (.imm (arrC x) x.length false) v := by
  subst hv
  obtain ⟨fuel, hf⟩ := h
  have hf' : DataW.trod enc P w base (fun _ => true) held fuel t [.slice a0 len cap] = some (d, ps) := hf
  rcases open_slice ht hf' with ⟨h0, _⟩ | ⟨a, len', cap', m, n, D, Pl, h0, hb, hl, hm, hmm, _, hx⟩
  · cases h0
    refine ⟨[], by simp, ?_⟩
    simp only [AVRel]
    exact .inl ⟨rfl, rfl, none, 0, rfl, by simp⟩
  · cases h0
    by_cases hz : len = 0
    · subst hz
      refine ⟨[], by simp, ?_⟩
      simp only [AVRel]
      exact .inl ⟨rfl, rfl, some a, cap, rfl, by simp⟩
    · have hmc : m = cap := by simpa using hmm
      obtain ⟨f, hfn⟩ := choose_lt (n := len) (p := fun i p => w.cell? (a.add (i * 2)) = some (.int .u8 ((p : Nat × Nat).1 : Int)) ∧ w.cell? (a.add (i * 2 + 1)) = some (.int .u8 (p.2 : Int)) ∧ p.1 < 256 ∧ p.2 < 256) (fun i hi => by
        obtain ⟨cs', h1, h2⟩ := hx i (by omega)
        obtain ⟨p, rfl, q1, q2⟩ := open_arr2 hte he ct ce h2
        rw [ct] at h1
        obtain ⟨_, _, hcell⟩ := World.cells?_some h1
        have e0 := hcell 0 (by omega)
        have e1 := hcell 1 (by omega)
        rw [add_add] at e0 e1
        exact ⟨p, by simpa using e0, by simpa using e1, q1, q2⟩)
      have hs : a.spot = none := by
        have h0 := (hfn 0 (by omega)).1
        rw [Nat.zero_mul] at h0
        have h0' : w.cell? a = some (.int .u8 ((f 0).1 : Int)) := by simpa [Addr.add] using h0
        unfold World.cell? at h0'
        split at h0'
        · split at h0'
          · cases h0'
          · rename_i q
            simpa using q
        · cases h0'
      obtain ⟨b, s, sp⟩ := a
      simp only at hs
      subst hs
      have hadd : ∀ j, (⟨b, s, none⟩ : Addr).add j = ⟨b, s + j, none⟩ := fun j => by
        unfold Addr.add
        split
        · rename_i q; subst q; rfl
        · rfl
      refine ⟨(List.range len).map f, fun p hp => ?_, ?_⟩
      · simp only [List.mem_map, List.mem_range] at hp
        obtain ⟨i, hi, rfl⟩ := hp
        exact (hfn i hi).2.2
      · simp only [AVRel, List.length_map, List.length_range]
        refine .inr ⟨b, s, cap, _, rfl, ?_, fun j u hu => ?_, relL_arr _, hl, by simp⟩
        · have h0 := (hfn 0 (by omega)).1
          rw [hadd] at h0
          exact World.block_lt_of_cell? _ _ h0
        · obtain ⟨i, p, h1, h2⟩ := arr_vals _ _ _ hu
          rw [List.getElem?_map, Option.map_eq_some_iff] at h1
          obtain ⟨i', h1, rfl⟩ := h1
          have hi' : i < len := by
            rcases Nat.lt_or_ge i len with q | q
            · exact q
            · rw [List.getElem?_eq_none (by simpa using q)] at h1; cases h1
          rw [List.getElem?_range hi'] at h1
          cases h1
          rcases h2 with ⟨rfl, rfl⟩ | ⟨rfl, rfl⟩
          · rw [← hadd]; exact (hfn i hi').1
          · rw [← hadd]; exact (hfn i hi').2.1
end
end Go.Proofs.Ytpbighinamljbaa.PA
namespace Go.Proofs.Ytpbighinamljbaa.newsEdges
open Go Go.ChangeShapes Go.WideShapes Go.ChangeAt Go.RowKit Go.Eng
set_option linter.unusedVariables false
theorem own : ownKnob Try.prog.godebug = none := by kernel_rfl
theorem laidOut : laidOutB Try.prog = true := by kernel_rfl
/-- Three numbers, opened. -/
theorem open_arr3 {H : Type} {enc : TypeId × Value → H} {P : Program} {w : World} {base : Nat} {held : Bool} {spare : Nat → Bool} {t e : TypeId} {fuel : Nat} {cs : List Value} {x : DataW H × List MemPlace} (ht : P.underlying t = some (.array 3 e)) (he : P.underlying e = some (.int .u8)) (ct : P.cellsOf t = 3) (ce : P.cellsOf e = 1)
    (h : DataW.trod enc P w base spare held fuel t cs = some x) : ∃ a b c : Nat, cs = [.int .u8 (a : Int), .int .u8 (b : Int), .int .u8 (c : Int)] ∧ a < 256 ∧ b < 256 ∧ c < 256 := by
  obtain ⟨xs, m, _, _, hlen, hl, hel⟩ := DataW.trod_array ht h
  rw [ct] at hlen
  have h0 := hel 0 (by omega)
  have h1 := hel 1 (by omega)
  have h2 := hel 2 (by omega)
  rw [List.getElem?_eq_getElem (by omega)] at h0 h1 h2
  rw [ce] at h0 h1 h2
  obtain ⟨n0, e0, _, w0⟩ := DataW.trod_int he h0
  obtain ⟨n1, e1, _, w1⟩ := DataW.trod_int he h1
  obtain ⟨n2, e2, _, w2⟩ := DataW.trod_int he h2
  match cs, hlen with
  | [a, b, c], _ =>
    simp at e0 e1 e2
    obtain ⟨m0, rfl, l0⟩ := PA.u8_nat w0
    obtain ⟨m1, rfl, l1⟩ := PA.u8_nat w1
    obtain ⟨m2, rfl, l2⟩ := PA.u8_nat w2
    exact ⟨m0, m1, m2, by rw [e0, e1, e2], l0, l1, l2⟩
theorem call (w : World) (a b c : Nat) (x : PA.Prs) (v : Value) (ha : a < 256) (hb : b < 256) (hc : c < 256) (hx : ∀ p ∈ x, p.1 < 256 ∧ p.2 < 256) (hv : AVRel (E0 w) w (.imm (PA.arrC x) x.length false) v) :
    Calls Try.prog 5 #[v, .agg #[.int .u8 (a : Int), .int .u8 (b : Int), .int .u8 (c : Int)]] w fun e w' => e = .returned (.bool true) ∧ Below w.heap.size w w' := by
  obtain ⟨u, H', h1, rfl, _⟩ := PA.x5 (k := 0) (fuel := 2000) (H0 := ⟨.e, 0⟩) hx ha hb hc (fun _ _ => rfl)
  have h2 : PA.cfG 16 5 [.imm (PA.arrC x) x.length false, .agg [.int .u8 (a : Int), .int .u8 (b : Int), .int .u8 (c : Int)]] ⟨.e, 0⟩ = some (.bool true, H') := (PA.cfG_step rfl rfl).trans h1
  have h3 := (PA.cfG_ok 16 _ _ _ _ _ h2).2 (E0 w) w [v, .agg #[.int .u8 (a : Int), .int .u8 (b : Int), .int .u8 (c : Int)]] (rel0 w) (by
    simp only [AVRelL]
    refine ⟨_, _, rfl, hv, _, _, rfl, ?_, rfl⟩
    simp only [AVRel, AVRelL]
    exact ⟨_, rfl, _, _, rfl, rfl, _, _, rfl, rfl, _, _, rfl, rfl, rfl⟩)
  refine h3.mono fun e w' ⟨u, E', he, hs, hr⟩ => ?_
  simp only [AVRel] at hr
  subst hr
  exact ⟨he, below0 hs⟩
set_option maxRecDepth 100000 in
theorem lifted (os : Os) (started : os.Started) (H : Type) (enc : TypeId × Value → H) :
    ReturnsInHanded {} Try.checked os 5 .any (Rows.newsEdgesSpec.pre6 enc Try.prog Try.f5 Rows.newsEdgesRow.domain false) (Rows.newsEdgesSpec.post enc Try.prog Try.f5 false true false false) := by
  refine returnsInHanded_of_change (C := Try.checked) own started (by kernel_rfl) Try.func5
    (ChangeSpec.witness6 (enc := enc) (C := Try.checked) false ⟨#[], #[.slice none 0 0, .agg #[.int .u8 0, .int .u8 0, .int .u8 0]], []⟩ 8 (by kernel_rfl) (by kernel_rfl) (by kernel_rfl) (by kernel_rfl)) ?_
  intro W base args ds gs before hval0 hW hcnd _
  have hval : ∀ (j : Nat) t v, Try.f5.params[j]? = some t → args[j]? = some v → Value.okWide Try.prog W .any base t v := hval0
  have hW' := hW
  obtain ⟨p, q, hA0, hV, rfl, hfz, hnd⟩ := hW
  have hA : DataW.TrodAll enc Try.prog W 0 (fun _ => true) true Try.f5.params.toList args.toList ds p := hA0
  rw [Try.params5] at hA hval
  obtain ⟨v0, v1, d0, d1, p0, p1, rfl, rfl, rfl, h0, h1⟩ := trodAll_two hA
  obtain ⟨rfl, rfl⟩ := trodVars_none hV
  obtain ⟨a0, len, cap, hv0⟩ := okWide_slice Try.underlying36 (hval 0 36 v0 rfl rfl)
  obtain ⟨x, hx, hrel⟩ := PA.read_input Try.underlying36 Try.underlying74 Try.underlying5 (by kernel_rfl) (by kernel_rfl) hv0 h0
  obtain ⟨cs, rfl⟩ : ∃ cs, v1 = .agg cs := by
    have h := hval 1 44 v1 rfl rfl
    simp only [Value.okWide, Try.underlying44] at h
    obtain ⟨cs, h, _⟩ := h
    exact ⟨cs, h⟩
  obtain ⟨a, b, c, hc, ha, hb, hc0⟩ : ∃ a b c : Nat, cs = #[.int .u8 (a : Int), .int .u8 (b : Int), .int .u8 (c : Int)] ∧ a < 256 ∧ b < 256 ∧ c < 256 := by
    obtain ⟨fuel, hf⟩ := id h1
    obtain ⟨a, b, c, e, q1, q2, q3⟩ := open_arr3 Try.underlying44 Try.underlying5 (by kernel_rfl) (by kernel_rfl) hf
    exact ⟨a, b, c, by cases cs; simpa [Value.cells] using e, q1, q2, q3⟩
  subst hc
  clear hA0 hval0
  refine (call W a b c x v0 ha hb hc0 hx hrel).mono fun e W' ⟨he, bel⟩ => ?_
  subst he
  have hlt0 : ∀ x ∈ p0, x.block < W.heap.size := fun x hx => by simpa using hW'.lt x (by simp [hx])
  have hlt1 : ∀ x ∈ p1, x.block < W.heap.size := fun x hx => by simpa using hW'.lt x (by simp [hx])
  exact ⟨_, rfl, _, _, _, [], _, [], hW', trodAll_mk1 (shut_bool Try.underlying4 _), trodAll_mk2 (Below.trod laidOut (by kernel_rfl) (of_decide_eq_true (by kernel_rfl)) h0 bel hlt0) (Below.trod laidOut (by kernel_rfl) (of_decide_eq_true (by kernel_rfl)) h1 bel hlt1), rfl, bel.frame _, fun h => by cases h⟩
end Go.Proofs.Ytpbighinamljbaa.newsEdges
namespace Go.Proofs.Ytpbighinamljbaa
open Go
/-- The row of NewsEdges. -/
theorem newsEdges_holds : Rows.NewsEdgesSaid :=
  OpenClaim.holds_of_wide 5 Try.f5 rfl rfl rfl rfl rfl rfl rfl ⟨rfl, rfl, rfl, rfl, rfl⟩ rfl rfl rfl rfl rfl (by kernel_rfl) Try.func5 (by kernel_rfl)
    (of_decide_eq_true (by kernel_rfl)) (by unfold Func.isWrapper; first | (rw [if_pos (by decide +kernel)]; kernel_rfl) | (rw [if_neg (by decide +kernel)]; exact ⟨rfl, rfl⟩))
    (fun os started H enc _ => newsEdges.lifted os started H enc)
#print axioms newsEdges_holds
end Go.Proofs.Ytpbighinamljbaa
