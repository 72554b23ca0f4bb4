/- NewsRenamed: rotating the vertices rotates the centre, for all inputs: the row. No condition. -/
import Derived.Test.YtpbighinamljbaaJF
import Derived.Test.YtpbighinamljbaaJE
import Derived.OpenShut
import Derived.Deep.SlicePairs
import Derived.Test.YtpbighinamljbaaRows
import Derived.ProofKit
import Derived.LaidMore
import Derived.Lay
import Derived.SizedLaws
import Derived.Carry
/- The search of a shortest broadcast, over the machine cfG. No condition. -/
set_option linter.unusedSimpArgs false
set_option linter.unusedVariables false
namespace Go.Proofs.Ytpbighinamljbaa.PA
open Go Go.Eng Go.Proofs
set_option maxHeartbeats 1000000 in
theorem x47 {kk fuel G M m s : Nat} {N : List Nat} {H0 : AHeap} (hNl : N.length = m) (hm : m ≤ 10) (hN2 : ∀ c ∈ N, c < 2 ^ N.length) (hfu : 1030 < fuel) (hs : s < m) (hg : GrH H0 G M m N) (hcl : Go.Eng.Clean H0) (hS : Sym N) (hc : connN N = true)
    (h70 : ∀ b8 b5 b10 J I inf W, inf < 1024 → (∀ p ∈ W, p.1 < 1024) → (lookW W inf).length < 1000 → K70 (cfG kk) N m G M b8 b5 b10 J I inf W 0)
    (h69 : ∀ I H, ∃ u H', cfG kk 69 [.map I] H = some (u, H') ∧ ∃ p, u = .fn 81 [.ptr p 0] ∧ H.next ≤ p ∧ p < H'.next ∧ H'.get p = some (.cells [.map I] none) ∧ Kp H H') :
    ∃ u H', xfunc (cfG kk) fuel L47 [.ptr G 0, nA s] H0 = some (u, H') ∧ SchR H0 N s u H' := by
  refine xfunc_ofK rfl (by show 2 ≤ 78; omega) ?_
  obtain ⟨T, hT1, hT⟩ := isT_ex hS (by omega) hN2 hc (by omega : s < N.length)
  have hF0 := hf0 H0
  have hp := pow_le10 hm
  have hNt : ∀ c ∈ N, c < 1024 := fun c hc => Nat.lt_of_lt_of_le (hN2 c hc) (by rw [hNl]; exact hp)
  have hps : 2 ^ s < 1024 := pow10 (by omega)
  have hcc := cfG_clean kk
  have hb := @body47_ok kk fuel G M m s
  unfold body47 at hb
  unfold L47 at hb ⊢
  dsimp only at hb ⊢
  repeat' (first | refine WK.seqC (by assumption) ?_ | intro (_ : CleanTo _ _) | refine WK.skip ?_ | refine WK.ret ?_ | refine WK.exit ?_ | refine WK.block ?_ | (apply WK.reg; (· exact lnn)) | (apply WK.regC; (· rfl); (· exact lnn); (· decide)) | (apply WK.regd0; (· exact lnn)) | (apply WKO.updO0; (· rfl); (· rfl); (· rfl); (· assumption); (· rfl); (· first | omega | (simp only [next_bump] at *; omega)); (· exact .inr (by first | omega | (simp only [next_bump] at *; omega))); (· exact key16 hps); (· rfl); intro _ _ _) | (apply WKO.boxO; (· rfl); (· assumption); (· rfl); (· exact nxx); (· exact nxx); (· exact nxx); intro _ _ _) | (apply WKO.alO; (· assumption); (· rfl); (· exact nxx); (· exact nxx); (· exact nxx); intro _ _ _) | (apply WKO.mapO; (· assumption); (· rfl); (· exact nxx); (· exact nxx); (· exact nxx); intro _ _ _) | (apply WKO.bsO; (· rfl); (· rfl); (· assumption); (· rfl); (· exact nxx); (· exact nxx); (· exact nxx); intro _ _ _) | (apply WKO.stO0; (· rfl); (· rfl); (· assumption); (· rfl); (· exact nxx); (· first | exact .inr nxx | exact .inl (by simp)); (· rfl); (· rfl); (· first | decide | (simp; done) | omega); intro _ _ _) | (apply WKO.stO1; (· rfl); (· rfl); (· assumption); (· rfl); (· exact nxx); (· first | exact .inr nxx | exact .inl (by simp)); (· rfl); (· rfl); (· first | decide | (simp; done) | omega); intro _ _ _) | (apply WKO.stO2; (· rfl); (· rfl); (· assumption); (· rfl); (· exact nxx); (· first | exact .inr nxx | exact .inl (by simp)); (· rfl); (· rfl); (· first | decide | (simp; done) | omega); intro _ _ _) | refine WKC.nil ?_ | refine WKO.nil ?_ | ((first | apply WKC.op | apply WKO.op | ((first | apply WKC.gop | apply WKO.gop); (· rfl); (· exact dcd))); (· first | exact k_mv rfl | exact k_shl16 rfl rfl (by omega) | (apply k_ldO; (· rfl); (· assumption); (· rfl); (· exact mmb); (· rfl)) | (apply k_ldA; (· rfl); (· assumption); (· rfl); (· exact mmb); (· first | rfl | assumption | (simp; done))) | exact k_faddr rfl | exact k_nilc rfl | exact opA); (· rfl)) | ((first | apply WKC.gnoT | apply WKO.gnoT | apply WKC.gnoF | apply WKO.gnoF); (· rfl); (· exact dcd)) | ((first | apply WKC.gnu | apply WKO.gnu); (· rfl)) | ((first | apply WKC.gsp | apply WKO.gsp); (· rfl); all_goals ((fail_if_success (refine known ?_ ?_; (· assumption))); intro _)) | ((first | apply WKC.gspB | apply WKO.gspB); (· rfl); all_goals ((fail_if_success (refine known ?_ ?_; (· assumption))); intro _)) | refine pN ?_ | refine pR ?_ | refine pX ?_ | refine bN ?_ | refine bR ?_ | refine bX ?_ | refine bO (by decide) ?_ | (apply WK.condT; (· rfl); (· exact dcd)) | (apply WK.condF; (· rfl); (· exact dcd)) | (apply WK.condD; (· rfl); all_goals intro _) | (apply WK.condN; (· rfl); all_goals intro _) | (apply WK.condB; (· rfl); all_goals intro _))
  rename_i c1 Ha _ na Hb _ nb Hc _ nc H1 hF1 n1 cl1
  have hC1 : Go.Eng.Clean H1 := cl1.1 (c1.1 hcl)
  have hT1' := hF1.le
  have hm1 : (H0.bump 1).next = H0.next + 1 := rfl
  rw [hm1] at hF1 hT1' ⊢
  have hw0 : WInv N s 0 [(2 ^ s, [])] := winv0 (by omega)
  refine WK.loop (α := Nat × FW) (fun _ => [(0, .ptr G 0), (1, nA s), (4, .nils), (5, .ptr (H0.next + 1 + 1 + 1 + 1 + 1 + 1) 0)]) (fun p H => SchI H0 m N s (H0.next + 1 + 1 + 1 + 1 + 1 + 1) p.1 p.2 H) (fun p => T + 1 - p.1) (0, [(2 ^ s, [])]) (.cons rfl <| .cons rfl <| .cons rfl <| .cons rfl <| .nil _)
    ⟨hw0, fun j hj => absurd hj (Nat.not_lt_zero _), ⟨H0.next + 1, _, [(sA (2 ^ s), .nils)], by omega, hF1, rfl, RRw.nil _, trivial⟩, hC1⟩ (by dsimp only; omega) ?_
  rintro ⟨k, W⟩ H hI
  refine (hb (b5 := H0.next + 1 + 1 + 1 + 1 + 1 + 1) hNl hm hNt hN2 hfu hs hg hI (by omega) hT (by omega) (fun b8 b10 J I inf W => h70 b8 _ b10 J I inf W) h69).mono ?_
  rintro e l' H' ⟨q1, q2⟩
  refine ⟨fun he => ?_, fun he => ?_⟩
  · obtain ⟨W', r1, r2, r3⟩ := q1 he
    exact ⟨(k + 1, W'), r1, r2, by dsimp only; omega⟩
  · obtain ⟨rfl, u, r1, r2⟩ := q2 he
    refine ⟨nofun, fun _ => ⟨nofun, [u], ?_, r2⟩⟩
    simp only [resK, resK1, r1, Option.bind_some]
/-! ### over the machine -/
section
variable {k : Nat}
theorem g_82 {H : AHeap} {v : AV} {m : Nat} {cs : List AV} (h : Row 2 H v m cs) (hm : m < 1048576) : ∃ u H', cfG (k + 1) 82 [v] H = some (u, H') ∧ ClipR 2 H m cs u H' := cfG_run rfl rfl (x82 h hm)
theorem g_72 {H : AHeap} {v : AV} {m : Nat} {cs : List AV} (h : Row 1 H v m cs) (hm : m < 1048576) : ∃ u H', cfG (k + 1) 72 [v] H = some (u, H') ∧ ClipR 1 H m cs u H' := cfG_run rfl rfl (x72 h hm)
theorem g_69 (I : Nat) (H : AHeap) : ∃ u H', cfG (k + 1) 69 [.map I] H = some (u, H') ∧ ∃ p, u = .fn 81 [.ptr p 0] ∧ H.next ≤ p ∧ p < H'.next ∧ H'.get p = some (.cells [.map I] none) ∧ Kp H H' := cfG_run rfl rfl x69
theorem g_70 {N : List Nat} {m G M b8 b5 b10 J I inf : Nat} {W : FW} (hNl : N.length = m) (hm : m ≤ 10) (hNt : ∀ c ∈ N, c < 1024) (hi : inf < 1024) (hW : ∀ p ∈ W, p.1 < 1024) (hlk : (lookW W inf).length < 1000) : ∀ (d k v : Nat), v + d = m → K70 (cfG (k + 3 + d)) N m G M b8 b5 b10 J I inf W v := by
  intro d
  induction d using Nat.strongRecOn with
  | ind d ih =>
    intro k v hv H now cs CS F hcl hA hg hC hnow hF hcs
    have e : k + 3 + d = (k + 2 + d) + 1 := by omega
    rw [e]
    refine cfG_run rfl rfl (x70 hNl hm hNt (by omega) (cfG_clean _) hcl hA hg hC hnow hF hcs (by omega) hi (fun H m i h1 h2 => g_64 h1 h2) (fun H v m cs h1 h2 => ?_) (fun H now cs CS F q1 q2 q3 q4 q5 => ?_) (fun v' h1 h2 => ?_))
    · rw [show k + 2 + d = (k + 1 + d) + 1 by omega]
      exact g_82 h1 h2
    · rw [show k + 2 + d = (k + 1 + d) + 1 by omega]
      refine cfG_run rfl rfl (x71 q1 q2 q3 hW q4 hi q5 hlk fun H v m cs h1 h2 => ?_)
      rw [show k + 1 + d = (k + d) + 1 by omega]
      exact g_72 h1 h2
    · have := ih (m - v') (by omega) (k + (d - 1 - (m - v'))) v' (by omega)
      rwa [show k + (d - 1 - (m - v')) + 3 + (m - v') = k + 2 + d by omega] at this
theorem g_47 {G M m s : Nat} {N : List Nat} {H0 : AHeap} (hNl : N.length = m) (hm : m ≤ 10) (hN2 : ∀ c ∈ N, c < 2 ^ N.length) (hs : s < m) (hg : GrH H0 G M m N) (hcl : Go.Eng.Clean H0) (hS : Sym N) (hc : connN N = true) :
    ∃ u H', cfG (k + 14) 47 [.ptr G 0, nA s] H0 = some (u, H') ∧ SchR H0 N s u H' := by
  have hp := pow_le10 hm
  have hNt : ∀ c ∈ N, c < 1024 := fun c hc => Nat.lt_of_lt_of_le (hN2 c hc) (by rw [hNl]; exact hp)
  refine cfG_run rfl rfl (x47 hNl hm hN2 (by omega) hs hg hcl hS hc (fun b8 b5 b10 J I inf W h1 h2 h3 => ?_) (fun I H => g_69 I H))
  have := g_70 (G := G) (M := M) (b8 := b8) (b5 := b5) (b10 := b10) (J := J) (I := I) hNl hm hNt h1 h2 h3 m (k + 10 - m) 0 (by omega)
  rwa [show k + 10 - m + 3 + m = k + 13 by omega] at this
end
end Go.Proofs.Ytpbighinamljbaa.PA
/- news.Rounds and news.Schedule. No condition. -/
set_option linter.unusedSimpArgs false
set_option linter.unusedVariables false
namespace Go.Proofs.Ytpbighinamljbaa.PA
open Go Go.Eng Go.Proofs
/-- The neighbours of a graph that was read. -/
def NZ (n : Int) (l : ZPrs) : List Nat := nearN n.toNat (l.map nE)
/-- Whether a graph is valid, and connected, and a vertex one of its. -/
def cgZ (n : Int) (l : ZPrs) : Bool := grZ n l && connN (NZ n l)
theorem zc_inj : ∀ {l l' : ZPrs}, zc l = zc l' → l = l'
  | [], [], _ => rfl
  | [], _ :: _, h => by cases h
  | _ :: _, [], h => by cases h
  | (a, b) :: l, (c, d) :: l', h => by
    have h' : AV.int .i64 a :: .int .i64 b :: zc l = .int .i64 c :: .int .i64 d :: zc l' := h
    simp only [List.cons.injEq, AV.int.injEq, true_and] at h'
    obtain ⟨h1, h2, h3⟩ := h'
    rw [h1, h2, zc_inj h3]
theorem nE_of {l : ZPrs} {q : Prs} (h : zc l = prsC q) : l.map nE = q := by
  rw [← zc_prs] at h
  rw [zc_inj h, List.map_map]
  conv => rhs; rw [← List.map_id q]
  exact List.map_congr_left fun c _ => rfl
theorem gr_of {n : Int} {l : ZPrs} (h : grZ n l = true) : ∃ m : Nat, n = m ∧ 1 ≤ m ∧ m ≤ 10 ∧ l.length ≤ 60 ∧ Egs m (l.map nE) ∧ zc l = prsC (l.map nE) ∧ NZ n l = nearN m (l.map nE) := by
  simp only [grZ, Bool.and_eq_true, decide_eq_true_eq] at h
  obtain ⟨⟨⟨h1, h2⟩, h3⟩, h4⟩ := h
  obtain ⟨m, rfl⟩ : ∃ m : Nat, n = m := ⟨n.toNat, by omega⟩
  have hall := List.all_eq_true.1 h4
  refine ⟨m, rfl, by omega, by omega, h3, fun c hc => ?_, ?_, rfl⟩
  · obtain ⟨p, hp, rfl⟩ := List.mem_map.1 hc
    obtain ⟨a, b, rfl, h⟩ := okE_nat (hall p hp)
    exact h
  · rw [← zc_prs, List.map_map]
    congr 1
    conv => lhs; rw [← List.map_id l]
    refine List.map_congr_left fun p hp => ?_
    obtain ⟨a, b, rfl, _⟩ := okE_nat (hall p hp)
    rfl
/-- What is known of a valid graph's neighbours. -/
structure NOk (N : List Nat) : Prop where
  l1 : 1 ≤ N.length
  l10 : N.length ≤ 10
  lt : ∀ c ∈ N, c < 2 ^ N.length
  sym : Sym N
  con : connN N = true
theorem cg_ok {n : Int} {l : ZPrs} (h : cgZ n l = true) : NOk (NZ n l) ∧ n = ((NZ n l).length : Nat) := by
  simp only [cgZ, Bool.and_eq_true] at h
  obtain ⟨h1, h2⟩ := h
  obtain ⟨m, rfl, m1, m2, _, hq, _, hN⟩ := gr_of h1
  have hl : (NZ (m : Int) l).length = m := by rw [hN, nearN_len]
  exact ⟨⟨by omega, by omega, by rw [hl, hN]; exact nearN_lt2 hq, by rw [hN]; exact nearN_sym hq, h2⟩, by rw [hl]⟩
theorem RRw.len {H : AHeap} {u : AV} {ls : List Prs} (h : RRw H u ls) : lenN u = some ls.length := by
  obtain ⟨cs, h1, _⟩ := h
  exact (RdR.of (.inl h1)).len
section
variable {kk fuel : Nat} {H0 : AHeap} {n s : Int} {l : ZPrs} {X : AV}
end
section
variable {k : Nat} {H : AHeap} {n s : Int} {l : ZPrs} {X : AV}
theorem g_47' {k : Nat} : ∀ H G M s N, GrH H G M N.length N → NOk N → s < N.length → Go.Eng.Clean H → ∃ u H', cfG (k + 14) 47 [.ptr G 0, nA s] H = some (u, H') ∧ SchR H N s u H' :=
  fun H G M s N hg hN hs hc => g_47 rfl hN.l10 hN.lt hs hg hc hN.sym hN.con
end
end Go.Proofs.Ytpbighinamljbaa.PA
/- wogglelaw08.made: a connected graph from numbers. No condition. -/
set_option linter.unusedSimpArgs false
set_option linter.unusedVariables false
namespace Go.Proofs.Ytpbighinamljbaa.PA
open Go Go.Eng Go.Proofs
def bA (a : Nat) : AV := .int .u8 (a : Int)
section
variable {cf : CF} {n a b : Nat} {H : AHeap} {l : KL0} {x y : XO}
theorem k_rem4 (hx : evK l x = some (bA a)) (hy : evK l y = some (.int .u8 (.ofNat 4))) : XV cf l H n (.bin .rem x y) = some (bA (a % 4), H) :=
  k_bin hx hy (by
    show (if (4 : Int) = 0 then none else some (AV.int .u8 ((a : Int).tmod (4 : Int)))) = _
    rw [if_neg (by decide)]
    show some (AV.int .u8 ((a : Int).tmod ((4 : Nat) : Int))) = _
    rw [← Int.ofNat_tmod]
    rfl)
theorem k_gtr8 (hx : evK l x = some (bA a)) (hy : evK l y = some (.int .u8 (.ofNat 0))) : XV cf l H n (.bin .gtr x y) = some (.bool (decide (0 < a)), H) :=
  k_bin hx hy (by
    show some (AV.bool (decide ((a : Int) > 0))) = _
    congr 2
    rw [decide_eq_decide]
    omega)
theorem k_conv8 (hx : evK l x = some (bA a)) (ha : a < 256) : XV cf l H n (.conv .i64 x) = some (nA a, H) :=
  k_any (by
    simp only [xval, xop, hx, bA]
    show some (AV.int .i64 (wrapA .i64 (a : Int)), H) = _
    rw [wrapI _ (by omega) (by omega)]
    rfl)
theorem k_aaM {len o : Nat} {cs : List AV} (hx : evK l x = some (.iptr cs o)) (hy : evK l y = some (nA a)) (h : a < len) : XV cf l H n (.aaddr len 1 x y) = some (.iptr cs (o + a), H) :=
  k_any (by
    have : aaddrA len 1 (.iptr cs o) (.int .i64 (a : Int)) = some (.iptr cs (o + a)) := by
      simp only [aaddrA, idxOk_lt h, if_true, Int.toNat_natCast, Nat.mul_one]
    have hy' : evK l y = some (.int .i64 (a : Int)) := hy
    simp only [xval, xop, hx, hy', this, AR.ofV])
end
/-- A pair behind a row of pairs of one's own. -/
theorem WKO.appendP {cf : CF} {n d1 d2 a b : Nat} {H0 H : AHeap} {K : KL0} {x y : XO} {r : List XOper} {R : KL0 → AHeap → Prop} {L : AV} {p : Prs} {m : Nat} {z0 z1 : AV} (hR : RowE 2 H L m (prsC p)) (hm : p.length = m) (hx : evK K x = some (.agg [nA a, nA b])) (hy : evK ((d1, .sl n 0 1 1) :: K) y = some L) (hl : m < 1000) (hn : n < H.next) (hn0 : H0.next ≤ n) (hf : L.own ≠ some n) (ho : ∀ j, L.own = some j → H0.next ≤ j) (hk : Kp H0 H)
    (k : ∀ L' H1, RowE 2 H1 L' (m + 1) (prsC (p ++ [(a, b)])) → (∀ j, L'.own = some j → H0.next ≤ j) → Kp H0 H1 → H.next ≤ H1.next → (∀ j, j < H.next → j ≠ n → L.own ≠ some j → H1.get j = H.get j) → WKO cf r (n + 1 + 1) ((d2, L') :: (d1, .sl n 0 1 1) :: K) H1 R) :
    WKO cf (⟨some d1, .bslice [z0, z1] [(0, 2, x)] 1, none⟩ :: ⟨some d2, .app 2 16 y (.t d1), none⟩ :: r) n K H R := by
  refine WKO.append1E (new := [nA a, nA b]) hR hy ?_ (by simp [allSm, XOp.opnds, hx]) (by omega) (by omega) (by omega) rfl rfl hn hf fun L' H1 r1 r2 r3 r4 => k L' H1 ?_ (fun j hj => ?_) ⟨Nat.le_trans hk.1 r2, fun j hj => ?_⟩ r2 r3
  · simp [evParts, hx, fillA, AV.cells]
  · rw [prsC_app]; exact .inl r1
  · have := hk.1
    rcases r4 j hj with h | h
    · exact ho j h
    · omega
  · have := hk.1
    rw [r3 j (by omega) (by omega) (fun w => by have := ho j w; omega)]
    exact hk.2 j hj
/-- What made returns: a tree, and further edges. -/
structure MadeR (n : Nat) (l : Prs) : Prop where
  n1 : 1 ≤ n
  n10 : n ≤ 10
  len : l.length ≤ 30
  nl : n ≤ l.length + 1
  tree : ∀ j, j + 1 < n → ∃ a, l[j]? = some (a, j + 1) ∧ a ≤ j
  egs : Egs n l
theorem mod_ne {a d n : Nat} (ha : a < n) (h1 : 1 ≤ d) (h2 : d < n) : a ≠ (a + d) % n := by
  rcases Nat.lt_or_ge (a + d) n with h | h
  · rw [Nat.mod_eq_of_lt h]; omega
  · rw [Nat.mod_eq_sub_mod h, Nat.mod_eq_of_lt (by omega)]; omega
set_option maxHeartbeats 1000000 in
theorem x22 {cf : CF} {fuel : Nat} {H0 : AHeap} {x : Prs} (hx : ∀ p ∈ x, p.1 < 256 ∧ p.2 < 256) (hf : 100 < fuel) :
    ∃ u H', xfunc cf fuel L22 [.imm (arrC x) x.length false] H0 = some (u, H') ∧ ∃ n l L, u = .tup [nA n, L] ∧ MadeR n l ∧ RowE 2 H' L l.length (prsC l) ∧ (∀ j, L.own = some j → H0.next ≤ j) ∧ Kp H0 H' := by
  refine xfunc_ofK rfl (by show 1 ≤ 90; omega) ?_
  have hF0 := hf0 H0
  unfold L22
  dsimp only
  repeat' (first | refine WK.stop1 ?_ | refine WK.stop2 ?_ | refine WK.stop3 ?_ | refine WK.seq ?_ | refine WK.skip ?_ | refine WK.ret ?_ | refine WK.exit ?_ | refine WK.block ?_ | (apply WK.reg; (· exact lnn)) | (apply WK.regC; (· rfl); (· exact lnn); (· decide)) | (apply WK.regd0; (· exact lnn)) | (apply WKO.boxO; (· rfl); (· assumption); (· rfl); (· exact nxx); (· exact nxx); (· exact nxx); intro _ _ _) | (apply WKO.alO; (· assumption); (· rfl); (· exact nxx); (· exact nxx); (· exact nxx); intro _ _ _) | (apply WKO.mapO; (· assumption); (· rfl); (· exact nxx); (· exact nxx); (· exact nxx); intro _ _ _) | (apply WKO.bsO; (· rfl); (· rfl); (· assumption); (· rfl); (· exact nxx); (· exact nxx); (· exact nxx); intro _ _ _) | (apply WKO.stO0; (· rfl); (· rfl); (· assumption); (· rfl); (· exact nxx); (· first | exact .inr nxx | exact .inl (by simp)); (· rfl); (· rfl); (· first | decide | (simp; done) | omega); intro _ _ _) | (apply WKO.stO1; (· rfl); (· rfl); (· assumption); (· rfl); (· exact nxx); (· first | exact .inr nxx | exact .inl (by simp)); (· rfl); (· rfl); (· first | decide | (simp; done) | omega); intro _ _ _) | (apply WKO.stO2; (· rfl); (· rfl); (· assumption); (· rfl); (· exact nxx); (· first | exact .inr nxx | exact .inl (by simp)); (· rfl); (· rfl); (· first | decide | (simp; done) | omega); intro _ _ _) | refine WKC.nil ?_ | refine WKO.nil ?_ | ((first | apply WKC.op | apply WKO.op | ((first | apply WKC.gop | apply WKO.gop); (· rfl); (· exact dcd))); (· first | exact k_mv rfl | (apply k_ldO; (· rfl); (· assumption); (· rfl); (· exact mmb); (· rfl)) | (apply k_ldA; (· rfl); (· assumption); (· rfl); (· exact mmb); (· first | rfl | assumption | (simp; done))) | exact k_faddr rfl | exact k_nilc rfl | exact opA); (· rfl)) | ((first | apply WKC.gnoT | apply WKO.gnoT | apply WKC.gnoF | apply WKO.gnoF); (· rfl); (· exact dcd)) | ((first | apply WKC.gnu | apply WKO.gnu); (· rfl)) | ((first | apply WKC.gsp | apply WKO.gsp); (· rfl); all_goals ((fail_if_success (refine known ?_ ?_; (· assumption))); intro _)) | ((first | apply WKC.gspB | apply WKO.gspB); (· rfl); all_goals ((fail_if_success (refine known ?_ ?_; (· assumption))); intro _)) | refine pN ?_ | refine pR ?_ | refine pX ?_ | refine bN ?_ | refine bR ?_ | refine bX ?_ | refine bO (by decide) ?_ | (apply WK.condT; (· rfl); (· exact dcd)) | (apply WK.condF; (· rfl); (· exact dcd)) | (apply WK.condD; (· rfl); all_goals intro _) | (apply WK.condN; (· rfl); all_goals intro _) | (apply WK.condB; (· rfl); all_goals intro _))
  rename_i H1 hF1 n1
  refine Stop.mk (WK.cut (α := Nat × Prs × AV) (fun p => [(0, .imm (arrC x) x.length false), (4, nA (p.1 + 1)), (5, p.2.2)]) (fun p H => p.1 ≤ x.length ∧ p.1 + 1 ≤ 10 ∧ p.2.1.length = p.1 ∧ (∀ j, j < p.1 → ∃ a, p.2.1[j]? = some (a, j + 1) ∧ a ≤ j) ∧ RowE 2 H p.2.2 p.1 (prsC p.2.1) ∧ (∀ j, p.2.2.own = some j → H0.next ≤ j) ∧ Kp H0 H) ?_ ?_)
  · repeat' (first | refine WK.seq ?_ | refine WK.skip ?_ | refine WK.ret ?_ | refine WK.exit ?_ | refine WK.block ?_ | (apply WK.reg; (· exact lnn)) | (apply WK.regC; (· rfl); (· exact lnn); (· decide)) | (apply WK.regd0; (· exact lnn)) | refine WKC.nil ?_ | refine WKO.nil ?_ | ((first | apply WKC.op | apply WKO.op | ((first | apply WKC.gop | apply WKO.gop); (· rfl); (· exact dcd))); (· first | exact k_mv rfl | exact opA); (· rfl)) | ((first | apply WKC.gnoT | apply WKO.gnoT | apply WKC.gnoF | apply WKO.gnoF); (· rfl); (· exact dcd)) | ((first | apply WKC.gnu | apply WKO.gnu); (· rfl)) | ((first | apply WKC.gsp | apply WKO.gsp); (· rfl); all_goals ((fail_if_success (refine known ?_ ?_; (· assumption))); intro _)) | ((first | apply WKC.gspB | apply WKO.gspB); (· rfl); all_goals ((fail_if_success (refine known ?_ ?_; (· assumption))); intro _)) | refine pN ?_ | refine pR ?_ | refine pX ?_ | refine bN ?_ | refine bR ?_ | refine bX ?_ | refine bO (by decide) ?_ | (apply WK.condT; (· rfl); (· exact dcd)) | (apply WK.condF; (· rfl); (· exact dcd)) | (apply WK.condD; (· rfl); all_goals intro _) | (apply WK.condN; (· rfl); all_goals intro _) | (apply WK.condB; (· rfl); all_goals intro _))
    refine WK.loop (α := Nat × Prs × AV) (fun p => [(0, .imm (arrC x) x.length false), (4, nA (p.1 + 1)), (5, p.2.2), (6, nA p.1)]) (fun p H => p.1 ≤ x.length ∧ p.1 + 1 ≤ 10 ∧ p.2.1.length = p.1 ∧ (∀ j, j < p.1 → ∃ a, p.2.1[j]? = some (a, j + 1) ∧ a ≤ j) ∧ RowE 2 H p.2.2 p.1 (prsC p.2.1) ∧ (∀ j, p.2.2.own = some j → H0.next ≤ j) ∧ Kp H0 H) (fun p => 10 - p.1) (0, [], .sl (H0.bump 2).next 0 0 0) (.cons rfl <| .cons rfl <| .cons rfl <| .cons rfl <| .nil _) ⟨Nat.zero_le _, by omega, rfl, fun j hj => absurd hj (Nat.not_lt_zero _), .inr ⟨rfl, rfl, _, rfl, ?_, hF1.obj _ (.head _)⟩, fun j hj => ?_, hF1.kp.up rfl (by simp only [next_bump]; omega)⟩ (by dsimp only; omega) ?_
    · have h1 := hF1.lt _ (.head _)
      have h2 := hF1.le
      simp only [next_bump] at *
      omega
    · have : (H0.bump 2).next = j := by simpa [AV.own] using hj
      simp only [next_bump] at this
      omega
    rintro ⟨i, l, L⟩ H ⟨a1, a2, a3, a4, a5, a6, a7⟩
    dsimp only at a1 a2 a3 a4 a5 a6 a7 ⊢
    by_cases hi : i < x.length
    · obtain ⟨⟨p1, p2⟩, hp⟩ : ∃ p, x[i]? = some p := ⟨_, List.getElem?_eq_getElem hi⟩
      obtain ⟨q0, q1⟩ := arrC_at hp
      obtain ⟨w0, w1⟩ := hx _ (List.mem_of_getElem? hp)
      dsimp only at q0 q1 w0 w1
      repeat' (first | refine WK.seq ?_ | refine WK.skip ?_ | refine WK.ret ?_ | refine WK.exit ?_ | refine WK.block ?_ | (apply WK.reg; (· exact lnn)) | (apply WK.regC; (· rfl); (· exact lnn); (· decide)) | (apply WK.regd0; (· exact lnn)) | refine WKC.nil ?_ | refine WKO.nil ?_ | ((first | apply WKC.op | apply WKO.op | ((first | apply WKC.gop | apply WKO.gop); (· rfl); (· exact dcd))); (· first | exact k_mv rfl | exact k_iaM rfl rfl hi | exact k_aaM rfl rfl (by omega) | exact k_ldM rfl q0 | exact k_ldM rfl q1 | exact k_rem4 rfl rfl | exact k_gtr8 rfl rfl | exact k_conv8 rfl (by omega) | exact opA); (· rfl)) | ((first | apply WKC.gnoT | apply WKO.gnoT | apply WKC.gnoF | apply WKO.gnoF); (· rfl); (· exact dcd)) | ((first | apply WKC.gnu | apply WKO.gnu); (· rfl)) | ((first | apply WKC.gsp | apply WKO.gsp); (· rfl); all_goals ((fail_if_success (refine known ?_ ?_; (· assumption))); intro _)) | ((first | apply WKC.gspB | apply WKO.gspB); (· rfl); all_goals ((fail_if_success (refine known ?_ ?_; (· assumption))); intro _)) | refine pN ?_ | refine pR ?_ | refine pX ?_ | refine bN ?_ | refine bR ?_ | refine bX ?_ | refine bO (by decide) ?_ | (apply WK.condT; (· rfl); (· exact dcd)) | (apply WK.condF; (· rfl); (· exact dcd)) | (apply WK.condD; (· rfl); all_goals intro _) | (apply WK.condN; (· rfl); all_goals intro _) | (apply WK.condB; (· rfl); all_goals intro _))
      · have hown := fun j (q : L.own = some j) => a5.own_lt q
        have hH0 := a7.1
        refine WKO.appendP (H0 := H0) (p := l) (a := p1 % (i + 1)) (b := i + 1) (a5.frame (by simp only [next_bump]; omega) (fun _ _ => rfl)) a3 rfl rfl (by omega) (by simp only [next_bump]; omega) (by simp only [next_bump]; omega) (fun q => by have := hown _ q; simp only [next_bump] at this; omega) a6 (a7.up rfl (by simp only [next_bump]; omega)) ?_
        intro L' H2 r1 r2 r3 _ _
        repeat' (first | refine WK.seq ?_ | refine WK.skip ?_ | refine WK.ret ?_ | refine WK.exit ?_ | refine WK.block ?_ | (apply WK.reg; (· exact lnn)) | (apply WK.regC; (· rfl); (· exact lnn); (· decide)) | (apply WK.regd0; (· exact lnn)) | refine WKC.nil ?_ | refine WKO.nil ?_ | ((first | apply WKC.op | apply WKO.op | ((first | apply WKC.gop | apply WKO.gop); (· rfl); (· exact dcd))); (· first | exact k_mv rfl | exact opA); (· rfl)) | ((first | apply WKC.gnoT | apply WKO.gnoT | apply WKC.gnoF | apply WKO.gnoF); (· rfl); (· exact dcd)) | ((first | apply WKC.gnu | apply WKO.gnu); (· rfl)) | ((first | apply WKC.gsp | apply WKO.gsp); (· rfl); all_goals ((fail_if_success (refine known ?_ ?_; (· assumption))); intro _)) | ((first | apply WKC.gspB | apply WKO.gspB); (· rfl); all_goals ((fail_if_success (refine known ?_ ?_; (· assumption))); intro _)) | refine pN ?_ | refine pR ?_ | refine pX ?_ | refine bN ?_ | refine bR ?_ | refine bX ?_ | refine bO (by decide) ?_ | (apply WK.condT; (· rfl); (· exact dcd)) | (apply WK.condF; (· rfl); (· exact dcd)) | (apply WK.condD; (· rfl); all_goals intro _) | (apply WK.condN; (· rfl); all_goals intro _) | (apply WK.condB; (· rfl); all_goals intro _))
        have hlt : p1 % (i + 1) < i + 1 := Nat.mod_lt _ (by omega)
        refine ⟨(i + 1, l ++ [(p1 % (i + 1), i + 1)], L'), (.cons rfl <| .cons rfl <| .cons rfl <| .cons rfl <| .nil _), ⟨by dsimp only; omega, by dsimp only; omega, by simp [a3], fun j hj => ?_, r1.frame (by simp only [next_bump]; omega) (fun _ _ => rfl), r2, r3.up rfl (by simp only [next_bump]; omega)⟩, by dsimp only; omega⟩
        dsimp only at hj ⊢
        by_cases e : j < i
        · rw [List.getElem?_append_left (by omega)]
          exact a4 j e
        · obtain rfl : j = i := by omega
          refine ⟨p1 % (j + 1), ?_, by omega⟩
          rw [List.getElem?_append_right (by omega), a3, Nat.sub_self]
          rfl
      all_goals exact ⟨(i, l, L), (.cons rfl <| .cons rfl <| .cons rfl <| .nil _), a1, a2, a3, a4, a5.frame (by simp only [next_bump]; omega) (fun _ _ => rfl), a6, a7.up rfl (by simp only [next_bump]; omega)⟩
    · repeat' (first | refine WK.seq ?_ | refine WK.skip ?_ | refine WK.ret ?_ | refine WK.exit ?_ | refine WK.block ?_ | (apply WK.reg; (· exact lnn)) | (apply WK.regC; (· rfl); (· exact lnn); (· decide)) | (apply WK.regd0; (· exact lnn)) | refine WKC.nil ?_ | refine WKO.nil ?_ | ((first | apply WKC.op | apply WKO.op | ((first | apply WKC.gop | apply WKO.gop); (· rfl); (· exact dcd))); (· first | exact k_mv rfl | exact opA); (· rfl)) | ((first | apply WKC.gnoT | apply WKO.gnoT | apply WKC.gnoF | apply WKO.gnoF); (· rfl); (· exact dcd)) | ((first | apply WKC.gnu | apply WKO.gnu); (· rfl)) | ((first | apply WKC.gsp | apply WKO.gsp); (· rfl); all_goals ((fail_if_success (refine known ?_ ?_; (· assumption))); intro _)) | ((first | apply WKC.gspB | apply WKO.gspB); (· rfl); all_goals ((fail_if_success (refine known ?_ ?_; (· assumption))); intro _)) | refine pN ?_ | refine pR ?_ | refine pX ?_ | refine bN ?_ | refine bR ?_ | refine bX ?_ | refine bO (by decide) ?_ | (apply WK.condT; (· rfl); (· exact dcd)) | (apply WK.condF; (· rfl); (· exact dcd)) | (apply WK.condD; (· rfl); all_goals intro _) | (apply WK.condN; (· rfl); all_goals intro _) | (apply WK.condB; (· rfl); all_goals intro _))
      exact ⟨(i, l, L), (.cons rfl <| .cons rfl <| .cons rfl <| .nil _), a1, a2, a3, a4, a5.frame (by simp only [next_bump]; omega) (fun _ _ => rfl), a6, a7.up rfl (by simp only [next_bump]; omega)⟩
  · rintro ⟨i, l, L⟩ H ⟨a1, a2, a3, a4, a5, a6, a7⟩
    dsimp only at a1 a2 a3 a4 a5 a6 a7 ⊢
    repeat' (first | refine WK.seq ?_ | refine WK.skip ?_ | refine WK.ret ?_ | refine WK.exit ?_ | refine WK.block ?_ | (apply WK.reg; (· exact lnn)) | (apply WK.regC; (· rfl); (· exact lnn); (· decide)) | (apply WK.regd0; (· exact lnn)) | refine WKC.nil ?_ | refine WKO.nil ?_ | ((first | apply WKC.op | apply WKO.op | ((first | apply WKC.gop | apply WKO.gop); (· rfl); (· exact dcd))); (· first | exact k_mv rfl | exact opA); (· rfl)) | ((first | apply WKC.gnoT | apply WKO.gnoT | apply WKC.gnoF | apply WKO.gnoF); (· rfl); (· exact dcd)) | ((first | apply WKC.gnu | apply WKO.gnu); (· rfl)) | ((first | apply WKC.gsp | apply WKO.gsp); (· rfl); all_goals ((fail_if_success (refine known ?_ ?_; (· assumption))); intro _)) | ((first | apply WKC.gspB | apply WKO.gspB); (· rfl); all_goals ((fail_if_success (refine known ?_ ?_; (· assumption))); intro _)) | refine pN ?_ | refine pR ?_ | refine pX ?_ | refine bN ?_ | refine bR ?_ | refine bX ?_ | refine bO (by decide) ?_ | (apply WK.condT; (· rfl); (· exact dcd)) | (apply WK.condF; (· rfl); (· exact dcd)) | (apply WK.condD; (· rfl); all_goals intro _) | (apply WK.condN; (· rfl); all_goals intro _) | (apply WK.condB; (· rfl); all_goals intro _))
    have heg : Egs (i + 1) l := fun c hc => by
      obtain ⟨j, hj⟩ := List.getElem?_of_mem hc
      have hjl : j < l.length := (List.getElem?_eq_some_iff.1 hj).1
      obtain ⟨a, h1, h2⟩ := a4 j (by omega)
      rw [hj] at h1
      cases h1
      exact ⟨by dsimp only; omega, by dsimp only; omega, by dsimp only; omega⟩
    refine WK.loop (α := Nat × Prs × AV) (fun p => [(0, .imm (arrC x) x.length false), (4, nA (i + 1)), (5, p.2.2), (7, nA p.1)]) (fun p H => i ≤ p.2.1.length ∧ p.2.1.length ≤ 30 ∧ p.1 = p.2.1.length ∧ (∀ j, j < i → ∃ a, p.2.1[j]? = some (a, j + 1) ∧ a ≤ j) ∧ Egs (i + 1) p.2.1 ∧ RowE 2 H p.2.2 p.2.1.length (prsC p.2.1) ∧ (∀ j, p.2.2.own = some j → H0.next ≤ j) ∧ Kp H0 H) (fun p => 30 - p.1) (i, l, L) (.cons rfl <| .cons rfl <| .cons rfl <| .cons rfl <| .nil _) ⟨by dsimp only; omega, by dsimp only; omega, a3.symm, a4, heg, by dsimp only; rw [a3]; exact a5.frame (by simp only [next_bump]; omega) (fun _ _ => rfl), a6, a7.up rfl (by simp only [next_bump]; omega)⟩ (by dsimp only; omega) ?_
    clear heg a3 a4 a5 a6 a7 a1
    rintro ⟨i', l, L⟩ H ⟨a1, a3, a4, a8, a9, a5, a6, a7⟩
    dsimp only at a1 a3 a4 a5 a6 a7 a8 a9 ⊢
    subst a4
    have hlen : lenN L = some l.length := (RdR.of a5).len
    by_cases hi : l.length < x.length
    · obtain ⟨⟨p1, p2⟩, hp⟩ : ∃ p, x[l.length]? = some p := ⟨_, List.getElem?_eq_getElem hi⟩
      obtain ⟨q0, q1⟩ := arrC_at hp
      obtain ⟨w0, w1⟩ := hx _ (List.mem_of_getElem? hp)
      dsimp only at q0 q1 w0 w1
      have hm1 : p1 % (i + 1) < i + 1 := Nat.mod_lt _ (by omega)
      have hm2 : p2 % (i + 1 - 1) ≤ p2 := Nat.mod_le _ _
      repeat' (first | refine WK.seq ?_ | refine WK.skip ?_ | refine WK.ret ?_ | refine WK.exit ?_ | refine WK.block ?_ | (apply WK.reg; (· exact lnn)) | (apply WK.regC; (· rfl); (· exact lnn); (· decide)) | (apply WK.regd0; (· exact lnn)) | refine WKC.nil ?_ | refine WKO.nil ?_ | ((first | apply WKC.op | apply WKO.op | ((first | apply WKC.gop | apply WKO.gop); (· rfl); (· exact dcd))); (· first | exact k_mv rfl | exact k_iaM rfl rfl hi | exact k_aaM rfl rfl (by omega) | exact k_ldM rfl q0 | exact k_ldM rfl q1 | exact k_conv8 rfl (by omega) | exact k_lenL rfl hlen | exact opA); (· rfl)) | ((first | apply WKC.gnoT | apply WKO.gnoT | apply WKC.gnoF | apply WKO.gnoF); (· rfl); (· exact dcd)) | ((first | apply WKC.gnu | apply WKO.gnu); (· rfl)) | ((first | apply WKC.gsp | apply WKO.gsp); (· rfl); all_goals ((fail_if_success (refine known ?_ ?_; (· assumption))); intro _)) | ((first | apply WKC.gspB | apply WKO.gspB); (· rfl); all_goals ((fail_if_success (refine known ?_ ?_; (· assumption))); intro _)) | refine pN ?_ | refine pR ?_ | refine pX ?_ | refine bN ?_ | refine bR ?_ | refine bX ?_ | refine bO (by decide) ?_ | (apply WK.condT; (· rfl); (· exact dcd)) | (apply WK.condF; (· rfl); (· exact dcd)) | (apply WK.condD; (· rfl); all_goals intro _) | (apply WK.condN; (· rfl); all_goals intro _) | (apply WK.condB; (· rfl); all_goals intro _))
      · rename_i hi1 hl30
        have hown := fun j (q : L.own = some j) => a5.own_lt q
        have hH0 := a7.1
        have hm3 : p2 % (i + 1 - 1) < i := Nat.mod_lt _ (by omega)
        have hm4 : (p1 % (i + 1) + 1 + p2 % (i + 1 - 1)) % (i + 1) < i + 1 := Nat.mod_lt _ (by omega)
        have hne : p1 % (i + 1) ≠ (p1 % (i + 1) + 1 + p2 % (i + 1 - 1)) % (i + 1) := by
          rw [Nat.add_assoc]
          exact mod_ne hm1 (by omega) (by omega)
        refine WKO.appendP (H0 := H0) (p := l) (a := p1 % (i + 1)) (b := (p1 % (i + 1) + 1 + p2 % (i + 1 - 1)) % (i + 1)) (a5.frame (by simp only [next_bump]; omega) (fun _ _ => rfl)) rfl rfl rfl (by omega) (by simp only [next_bump]; omega) (by simp only [next_bump]; omega) (fun q => by have := hown _ q; simp only [next_bump] at this; omega) a6 (a7.up rfl (by simp only [next_bump]; omega)) ?_
        intro L' H2 r1 r2 r3 _ _
        repeat' (first | refine WK.seq ?_ | refine WK.skip ?_ | refine WK.ret ?_ | refine WK.exit ?_ | refine WK.block ?_ | (apply WK.reg; (· exact lnn)) | (apply WK.regC; (· rfl); (· exact lnn); (· decide)) | (apply WK.regd0; (· exact lnn)) | refine WKC.nil ?_ | refine WKO.nil ?_ | ((first | apply WKC.op | apply WKO.op | ((first | apply WKC.gop | apply WKO.gop); (· rfl); (· exact dcd))); (· first | exact k_mv rfl | exact opA); (· rfl)) | ((first | apply WKC.gnoT | apply WKO.gnoT | apply WKC.gnoF | apply WKO.gnoF); (· rfl); (· exact dcd)) | ((first | apply WKC.gnu | apply WKO.gnu); (· rfl)) | ((first | apply WKC.gsp | apply WKO.gsp); (· rfl); all_goals ((fail_if_success (refine known ?_ ?_; (· assumption))); intro _)) | ((first | apply WKC.gspB | apply WKO.gspB); (· rfl); all_goals ((fail_if_success (refine known ?_ ?_; (· assumption))); intro _)) | refine pN ?_ | refine pR ?_ | refine pX ?_ | refine bN ?_ | refine bR ?_ | refine bX ?_ | refine bO (by decide) ?_ | (apply WK.condT; (· rfl); (· exact dcd)) | (apply WK.condF; (· rfl); (· exact dcd)) | (apply WK.condD; (· rfl); all_goals intro _) | (apply WK.condN; (· rfl); all_goals intro _) | (apply WK.condB; (· rfl); all_goals intro _))
        generalize (p1 % (i + 1) + 1 + p2 % (i + 1 - 1)) % (i + 1) = b at *
        refine ⟨(l.length + 1, l ++ [(p1 % (i + 1), b)], L'), (.cons rfl <| .cons rfl <| .cons rfl <| .cons rfl <| .nil _), ⟨by simp; omega, by simp; omega, by simp, fun j hj => ?_, fun c hc => ?_, ?_, r2, r3.up rfl (by simp only [next_bump]; omega)⟩, by dsimp only; omega⟩
        · dsimp only
          rw [List.getElem?_append_left (by omega)]
          exact a8 j hj
        · rcases List.mem_append.1 hc with hc | hc
          · exact a9 c hc
          · have : c = (p1 % (i + 1), b) := by simpa using hc
            subst this
            exact ⟨hm1, hm4, hne⟩
        · dsimp only
          rw [List.length_append]
          exact r1.frame (by simp only [next_bump]; omega) (fun _ _ => rfl)
      all_goals exact ⟨nofun, _, rfl, i + 1, l, L, rfl, ⟨by omega, a2, a3, by omega, fun j hj => a8 j (by omega), a9⟩, a5.frame (by simp only [next_bump]; omega) (fun _ _ => rfl), a6, a7.up rfl (by simp only [next_bump]; omega)⟩
    · repeat' (first | refine WK.seq ?_ | refine WK.skip ?_ | refine WK.ret ?_ | refine WK.exit ?_ | refine WK.block ?_ | (apply WK.reg; (· exact lnn)) | (apply WK.regC; (· rfl); (· exact lnn); (· decide)) | (apply WK.regd0; (· exact lnn)) | refine WKC.nil ?_ | refine WKO.nil ?_ | ((first | apply WKC.op | apply WKO.op | ((first | apply WKC.gop | apply WKO.gop); (· rfl); (· exact dcd))); (· first | exact k_mv rfl | exact k_lenL rfl hlen | exact opA); (· rfl)) | ((first | apply WKC.gnoT | apply WKO.gnoT | apply WKC.gnoF | apply WKO.gnoF); (· rfl); (· exact dcd)) | ((first | apply WKC.gnu | apply WKO.gnu); (· rfl)) | ((first | apply WKC.gsp | apply WKO.gsp); (· rfl); all_goals ((fail_if_success (refine known ?_ ?_; (· assumption))); intro _)) | ((first | apply WKC.gspB | apply WKO.gspB); (· rfl); all_goals ((fail_if_success (refine known ?_ ?_; (· assumption))); intro _)) | refine pN ?_ | refine pR ?_ | refine pX ?_ | refine bN ?_ | refine bR ?_ | refine bX ?_ | refine bO (by decide) ?_ | (apply WK.condT; (· rfl); (· exact dcd)) | (apply WK.condF; (· rfl); (· exact dcd)) | (apply WK.condD; (· rfl); all_goals intro _) | (apply WK.condN; (· rfl); all_goals intro _) | (apply WK.condB; (· rfl); all_goals intro _))
      all_goals exact ⟨nofun, _, rfl, i + 1, l, L, rfl, ⟨by omega, a2, a3, by omega, fun j hj => a8 j (by omega), a9⟩, a5.frame (by simp only [next_bump]; omega) (fun _ _ => rfl), a6, a7.up rfl (by simp only [next_bump]; omega)⟩
end Go.Proofs.Ytpbighinamljbaa.PA
/- Graphs that were made: connected; their rounds. No condition. -/
set_option linter.unusedSimpArgs false
set_option linter.unusedVariables false
namespace Go.Proofs.Ytpbighinamljbaa.PA
open Go Go.Eng Go.Proofs
/-- A connected graph. -/
structure Gph (n : Nat) (l : Prs) : Prop where
  n1 : 1 ≤ n
  n10 : n ≤ 10
  len : l.length ≤ 60
  egs : Egs n l
  con : connN (nearN n l) = true
theorem con_tree {n : Nat} {l : Prs} (h1 : 1 ≤ n) (h2 : n ≤ 10) (hq : Egs n l) (ht : ∀ j, j + 1 < n → ∃ a, (a, j + 1) ∈ l ∧ a ≤ j) : connN (nearN n l) = true := by
  have hl := nearN_len n l
  have hlt := nearN_lt2 hq
  have hb : ∀ k, k < n → ∀ i, i ≤ k → (ballN (nearN n l) k 1).testBit i = true := by
    intro k
    induction k with
    | zero =>
      intro _ i hi
      obtain rfl : i = 0 := by omega
      rw [ballN]
      decide
    | succ k ih =>
      intro hk i hi
      rw [ballN_step, Nat.testBit_or]
      by_cases e : i ≤ k
      · rw [ih (by omega) i e]; rfl
      · obtain rfl : i = k + 1 := by omega
        obtain ⟨a, ha, hak⟩ := ht k hk
        have h3 := ih (by omega) a hak
        have h4 := around_in (N := nearN n l) (set := ballN (nearN n l) k 1) (i := a) (by omega) (by rw [bt_eq]; exact h3) (k + 1) ((nearN_bit hq a (k + 1)).2 ⟨_, ha, .inl ⟨rfl, rfl⟩⟩)
        rw [h4]
        simp
  have hfull : ClN (nearN n l) (2 ^ n - 1) := fun i _ _ => inn_full (getD_lt2 hlt i)
  have h1f : Inn 1 (2 ^ n - 1) := inn_full (by
    have : 2 ^ 1 ≤ 2 ^ n := Nat.pow_le_pow_right (by omega) h1
    omega)
  rw [connN, decide_eq_true_iff, hl]
  refine Inn.eq (ball_cl hfull h1f) fun i hi => ?_
  rw [Nat.testBit_two_pow_sub_one, decide_eq_true_iff] at hi
  have h5 := hb (n - 1) (by omega) i (by omega)
  have : ballN (nearN n l) n 1 = ballN (nearN n l) (n - 1 + 1) 1 := by rw [Nat.sub_add_cancel h1]
  rw [this, ballN_step, Nat.testBit_or, h5]
  rfl
theorem made_gph {n : Nat} {l : Prs} (h : MadeR n l) : Gph n l := ⟨h.n1, h.n10, by have := h.len; omega, h.egs, con_tree h.n1 h.n10 h.egs fun j hj => by
  obtain ⟨a, h1, h2⟩ := h.tree j hj
  exact ⟨a, List.mem_of_getElem? h1, h2⟩⟩
/-- The pairs as ints. -/
def zP (l : Prs) : ZPrs := l.map fun c => ((c.1 : Int), (c.2 : Int))
theorem zP_nE (l : Prs) : (zP l).map nE = l := by
  rw [zP, List.map_map]
  conv => rhs; rw [← List.map_id l]
  exact List.map_congr_left fun c _ => rfl
theorem zP_len (l : Prs) : (zP l).length = l.length := by simp [zP]
theorem zP_zc (l : Prs) : zc (zP l) = prsC l := zc_prs l
theorem gph_N (n : Nat) (l : Prs) : NZ (n : Int) (zP l) = nearN n l := by rw [NZ, zP_nE]; rfl
theorem gph_gr {n : Nat} {l : Prs} (h1 : 1 ≤ n) (h2 : n ≤ 10) (h3 : l.length ≤ 60) (h4 : Egs n l) : grZ (n : Int) (zP l) = true := by
  simp only [grZ, Bool.and_eq_true, decide_eq_true_eq, zP_len]
  refine ⟨⟨by omega, h3⟩, List.all_eq_true.2 fun p hp => ?_⟩
  obtain ⟨c, hc, rfl⟩ := List.mem_map.1 hp
  have := h4 c hc
  simp only [okE, decide_eq_true_eq]
  omega
theorem Gph.cg {n : Nat} {l : Prs} (h : Gph n l) : cgZ (n : Int) (zP l) = true := by
  rw [cgZ, gph_N, h.con, gph_gr h.n1 h.n10 h.len h.egs]
  rfl
theorem Gph.nok {n : Nat} {l : Prs} (h : Gph n l) : NOk (nearN n l) := by
  have := (cg_ok h.cg).1
  rwa [gph_N] at this
theorem RdR.zP {H : AHeap} {X : AV} {l : Prs} (h : RdR 2 H X l.length (prsC l)) : RdR 2 H X (zP l).length (zc (PA.zP l)) := by
  rw [zP_len, zP_zc]
  exact h
section
variable {cf : CF} {n : Nat} {H : AHeap} {l : KL0} {x y : XO}
end
end Go.Proofs.Ytpbighinamljbaa.PA
/- NewsNeighbours over the abstract machine: rounds of neighbouring vertices differ by at most 1. No condition. -/
set_option linter.unusedSimpArgs false
set_option linter.unusedVariables false
namespace Go.Proofs.Ytpbighinamljbaa.PA
open Go Go.Eng Go.Proofs
theorem g_22 {k : Nat} {H : AHeap} {x : Prs} (hx : ∀ p ∈ x, p.1 < 256 ∧ p.2 < 256) :
    ∃ u H', cfG (k + 1) 22 [.imm (arrC x) x.length false] H = some (u, H') ∧ ∃ n l L, u = .tup [nA n, L] ∧ MadeR n l ∧ RowE 2 H' L l.length (prsC l) ∧ (∀ j, L.own = some j → H.next ≤ j) ∧ Kp H H' :=
  cfG_run rfl rfl (x22 hx (by omega))
end Go.Proofs.Ytpbighinamljbaa.PA
/- NewsEdges over the abstract machine: with a further edge rounds are never more. No condition. -/
set_option linter.unusedSimpArgs false
set_option linter.unusedVariables false
namespace Go.Proofs.Ytpbighinamljbaa.PA
open Go Go.Eng Go.Proofs
section
variable {cf : CF} {n : Nat} {H : AHeap} {l : KL0} {x y : XO}
theorem k_app {z bytes : Nat} {u v w : AV} {H1 : AHeap} (hx : evK l x = some u) (hy : evK l y = some v) (h : appA H z bytes u v = .eff w H1) : XV cf l H n (.app z bytes x y) = some (w, H1) := k_any (by simp only [xval, xop, hx, hy, h])
end
end Go.Proofs.Ytpbighinamljbaa.PA
/- news.Centre. No condition. -/
set_option linter.unusedSimpArgs false
set_option linter.unusedVariables false
namespace Go.Proofs.Ytpbighinamljbaa.PA
open Go Go.Eng Go.Proofs
/-- A row that grows, begun as a literal of one. -/
def OutR (H : AHeap) (v : AV) (cs : List Nat) : Prop := Row 1 H v cs.length (cs.map nA) ∨ ∃ i a, v = .sl i 0 1 1 ∧ cs = [a] ∧ H.get i = some (.cells [nA a] none) ∧ i < H.next
theorem OutR.rd {H : AHeap} {v : AV} {cs : List Nat} (h : OutR H v cs) : RdR 1 H v cs.length (cs.map nA) := by
  rcases h with h | ⟨i, a, rfl, rfl, h1, h2⟩
  · exact RdR.of (.inl h)
  · exact ⟨rfl, .inr (.inr ⟨i, 1, _, _, rfl, h2, h1, rfl, by simp⟩)⟩
theorem OutR.frame {H H' : AHeap} {v : AV} {cs : List Nat} (h : OutR H v cs) (hn : H.next ≤ H'.next) (hg : ∀ i, v.own = some i → H'.get i = H.get i) : OutR H' v cs := by
  rcases h with h | ⟨i, a, rfl, rfl, h1, h2⟩
  · exact .inl (h.frame hn hg)
  · exact .inr ⟨i, a, rfl, rfl, (hg i rfl).trans h1, by omega⟩
theorem OutR.own_lt {H : AHeap} {v : AV} {cs : List Nat} (h : OutR H v cs) {i : Nat} (hi : v.own = some i) : i < H.next := by
  rcases h with h | ⟨i, a, rfl, rfl, h1, h2⟩
  · exact h.own_lt hi
  · cases hi; exact h2
theorem OutR.app {H : AHeap} {v : AV} {cs : List Nat} {j a : Nat} (h : OutR H v cs) (hl : cs.length < 5000) (hj : H.get j = some (.cells [nA a] none)) :
    ∃ v' H', appA H 1 8 v (.sl j 0 1 1) = .eff v' H' ∧ OutR H' v' (cs ++ [a]) ∧ H.next ≤ H'.next ∧ (∀ k, k < H.next → v.own ≠ some k → H'.get k = H.get k) ∧ (∀ i, v'.own = some i → v.own = some i ∨ H.next ≤ i) := by
  have hs : srcA H 1 1 (.sl j 0 1 1) = some [nA a] := by simp [srcA, hj]
  rcases h with h | ⟨i, b, rfl, rfl, h1, h2⟩
  · obtain ⟨v', H', q1, q2, q3, q4, q5⟩ := h.app (bytes := 8) (n := 1) (y := .sl j 0 1 1) (new := [nA a]) (by omega) (by omega) (by omega) (by omega) rfl hs rfl rfl
    refine ⟨v', H', q1, .inl ?_, q3, q4, q5⟩
    rw [List.length_append, List.map_append]
    exact q2
  · have hc : Clp 1 H (.sl i 0 1 1) 1 [nA b] := ⟨by omega, .inr ⟨i, [nA b], none, rfl, h1, rfl, by simp⟩⟩
    refine ⟨_, _, hc.app (by omega) hj rfl rfl, .inl ?_, Nat.le_succ _, fun k hk _ => by rw [AHeap.get_add, if_neg (by omega)], fun i hi => ?_⟩
    · exact Row.one (z := 1) (by rw [AHeap.get_add, if_pos rfl]; rfl) (Nat.lt_succ_self _) rfl
    · have : H.next = i := by simpa [AV.own] using hi
      omega
/-- The centre: whence the least number of rounds is taken. -/
def CenA (N : List Nat) (cs : List Nat) (best : Nat) : Prop :=
  ∃ T : Nat → Nat, (∀ s, s < N.length → IsT N s (T s)) ∧ cs = (List.range N.length).filter (fun s => T s == best) ∧ (∀ s, s < N.length → best ≤ T s) ∧ ∃ s, s < N.length ∧ T s = best
/-- What Centre answers. -/
def CenR (H0 : AHeap) (n : Int) (l : ZPrs) (v : AV) (H' : AHeap) : Prop :=
  (cgZ n l = false ∧ v = .tup [.nils, nA 0, nA 1] ∧ Kp H0 H') ∨ (cgZ n l = true ∧ ∃ C cs best, v = .tup [C, nA best, nA 0] ∧ CenA (NZ n l) cs best ∧ OutR H' C cs ∧ (∀ i, C.own = some i → H0.next ≤ i) ∧ Kp H0 H')
/-- A graph that was read. -/
theorem read_cases {H0 H' : AHeap} {n : Int} {l : ZPrs} {v : AV} (h : ReadR H0 n l v H') :
    (cgZ n l = false ∧ (∃ p, v = .tup [p, .bool false]) ∧ Kp H0 H') ∨ (cgZ n l = true ∧ ∃ G M, v = .tup [.ptr G 0, .bool true] ∧ GrH H' G M (NZ n l).length (NZ n l) ∧ Kp H0 H' ∧ NOk (NZ n l) ∧ n = (NZ n l).length) := by
  rcases h with ⟨hg, rfl, hk, hn⟩ | ⟨hg, m, q, G, M, rfl, m1, m2, hz, hql, hqE, rfl, T, hF⟩
  · exact .inl ⟨by simp [cgZ, hg], ⟨_, rfl⟩, hn, hk⟩
  · have hq := nE_of hz
    have hN : NZ (m : Int) l = nearN m q := by rw [NZ, hq]; rfl
    have hcs := conS_near m1 m2 hqE
    have hl : (NZ (m : Int) l).length = m := by rw [hN, nearN_len]
    have hb : conS (nearN m q) = cgZ (m : Int) l := by rw [cgZ, hg, hN, hcs, Bool.true_and]
    rw [hb]
    cases hc : cgZ (m : Int) l with
    | false => exact .inl ⟨rfl, ⟨_, rfl⟩, hF.kp⟩
    | true =>
      refine .inr ⟨rfl, G, M, rfl, ?_, hF.kp, (cg_ok hc).1, by rw [hl]⟩
      rw [hl, hN]
      exact ⟨hF.obj _ (.head _), hF.obj _ (.tail _ (.head _)), Nat.lt_of_lt_of_le (hF.lt _ (.head _)) hF.le, Nat.lt_of_lt_of_le (hF.lt _ (.tail _ (.head _))) hF.le⟩
theorem filter_succ (p : Nat → Bool) (n : Nat) : (List.range (n + 1)).filter p = (List.range n).filter p ++ if p n = true then [n] else [] := by
  rw [List.range_succ, List.filter_append]
  congr 1
  rw [List.filter_cons, List.filter_nil]
set_option maxHeartbeats 1000000 in
theorem x18 {kk fuel : Nat} {H0 : AHeap} {n : Int} {l : ZPrs} {X : AV} (hX : RdR 2 H0 X l.length (zc l)) (hcl : Go.Eng.Clean H0) (hfu : 20 < fuel)
    (h46 : ∀ H, RdR 2 H X l.length (zc l) → ∃ v H', cfG kk 46 [.int .i64 n, X] H = some (v, H') ∧ ReadR H n l v H')
    (h47 : ∀ H G M s N, GrH H G M N.length N → NOk N → s < N.length → Go.Eng.Clean H → ∃ u H', cfG kk 47 [.ptr G 0, nA s] H = some (u, H') ∧ SchR H N s u H') :
    ∃ u H', xfunc (cfG kk) fuel L18 [.int .i64 n, X] H0 = some (u, H') ∧ CenR H0 n l u H' := by
  refine xfunc_ofK rfl (by show 2 ≤ 48; omega) ?_
  have hcc := cfG_clean kk
  unfold L18
  dsimp only
  have hk0 : Kp H0 ((H0.bump 3).bump 8) := (Kp.bump _).trans (Kp.bump _)
  repeat' (first | refine WK.seqC (by assumption) ?_ | intro (_ : CleanTo _ _) | refine WK.skip ?_ | refine WK.ret ?_ | refine WK.exit ?_ | refine WK.block ?_ | (apply WK.reg; (· exact lnn)) | (apply WK.regC; (· rfl); (· exact lnn); (· decide)) | (apply WK.regd0; (· exact lnn)) | (refine WKO.callV rfl rfl rfl (h46 _ (hX.kp (by apply Kp.eqm; (· rfl); (· simp only [next_bump]; omega)))) ?_; rintro v1 H1 hv1) | refine WKC.nil ?_ | refine WKO.nil ?_ | ((first | apply WKC.op | apply WKO.op | ((first | apply WKC.gop | apply WKO.gop); (· rfl); (· exact dcd))); (· first | exact k_mv rfl | exact opA); (· rfl)) | ((first | apply WKC.gnoT | apply WKO.gnoT | apply WKC.gnoF | apply WKO.gnoF); (· rfl); (· exact dcd)) | ((first | apply WKC.gnu | apply WKO.gnu); (· rfl)) | ((first | apply WKC.gsp | apply WKO.gsp); (· rfl); all_goals ((fail_if_success (refine known ?_ ?_; (· assumption))); intro _)) | ((first | apply WKC.gspB | apply WKO.gspB); (· rfl); all_goals ((fail_if_success (refine known ?_ ?_; (· assumption))); intro _)) | refine pN ?_ | refine pR ?_ | refine pX ?_ | refine bN ?_ | refine bR ?_ | refine bX ?_ | refine bO (by decide) ?_ | (apply WK.condT; (· rfl); (· exact dcd)) | (apply WK.condF; (· rfl); (· exact dcd)) | (apply WK.condD; (· rfl); all_goals intro _) | (apply WK.condN; (· rfl); all_goals intro _) | (apply WK.condB; (· rfl); all_goals intro _))
  rename_i c1
  rcases read_cases hv1 with ⟨hb, ⟨p, rfl⟩, hk⟩ | ⟨hb, G, M, rfl, hg, hk, hN, hn⟩
  · repeat' (first | refine WK.seqC (by assumption) ?_ | intro (_ : CleanTo _ _) | refine WK.skip ?_ | refine WK.ret ?_ | refine WK.exit ?_ | refine WK.block ?_ | (apply WK.reg; (· exact lnn)) | (apply WK.regC; (· rfl); (· exact lnn); (· decide)) | (apply WK.regd0; (· exact lnn)) | refine WKC.nil ?_ | refine WKO.nil ?_ | ((first | apply WKC.op | apply WKO.op | ((first | apply WKC.gop | apply WKO.gop); (· rfl); (· exact dcd))); (· first | exact k_mv rfl | exact opA); (· rfl)) | ((first | apply WKC.gnoT | apply WKO.gnoT | apply WKC.gnoF | apply WKO.gnoF); (· rfl); (· exact dcd)) | ((first | apply WKC.gnu | apply WKO.gnu); (· rfl)) | ((first | apply WKC.gsp | apply WKO.gsp); (· rfl); all_goals ((fail_if_success (refine known ?_ ?_; (· assumption))); intro _)) | ((first | apply WKC.gspB | apply WKO.gspB); (· rfl); all_goals ((fail_if_success (refine known ?_ ?_; (· assumption))); intro _)) | refine pN ?_ | refine pR ?_ | refine pX ?_ | refine bN ?_ | refine bR ?_ | refine bX ?_ | refine bO (by decide) ?_ | (apply WK.condT; (· rfl); (· exact dcd)) | (apply WK.condF; (· rfl); (· exact dcd)) | (apply WK.condD; (· rfl); all_goals intro _) | (apply WK.condN; (· rfl); all_goals intro _) | (apply WK.condB; (· rfl); all_goals intro _))
    exact ⟨nofun, _, rfl, .inl ⟨hb, rfl, (hk0.trans hk).up rfl (by simp only [next_bump]; omega)⟩⟩
  · have hTex : ∀ s, ∃ k, s < (NZ n l).length → k + 1 ≤ (NZ n l).length ∧ IsT (NZ n l) s k := fun s => by
      by_cases h : s < (NZ n l).length
      · obtain ⟨k, h1, h2⟩ := isT_ex hN.sym hN.l10 hN.lt hN.con h
        exact ⟨k, fun _ => ⟨h1, h2⟩⟩
      · exact ⟨0, fun q => absurd q h⟩
    obtain ⟨T, hT⟩ := Classical.axiomOfChoice hTex
    generalize hNN : NZ n l = N at *
    subst hn
    have hl10 := hN.l10
    repeat' (first | refine WK.seqC (by assumption) ?_ | intro (_ : CleanTo _ _) | refine WK.skip ?_ | refine WK.ret ?_ | refine WK.exit ?_ | refine WK.block ?_ | (apply WK.reg; (· exact lnn)) | (apply WK.regC; (· rfl); (· exact lnn); (· decide)) | (apply WK.regd0; (· exact lnn)) | refine WKC.nil ?_ | refine WKO.nil ?_ | ((first | apply WKC.op | apply WKO.op | ((first | apply WKC.gop | apply WKO.gop); (· rfl); (· exact dcd))); (· first | exact k_mv rfl | exact opA); (· rfl)) | ((first | apply WKC.gnoT | apply WKO.gnoT | apply WKC.gnoF | apply WKO.gnoF); (· rfl); (· exact dcd)) | ((first | apply WKC.gnu | apply WKO.gnu); (· rfl)) | ((first | apply WKC.gsp | apply WKO.gsp); (· rfl); all_goals ((fail_if_success (refine known ?_ ?_; (· assumption))); intro _)) | ((first | apply WKC.gspB | apply WKO.gspB); (· rfl); all_goals ((fail_if_success (refine known ?_ ?_; (· assumption))); intro _)) | refine pN ?_ | refine pR ?_ | refine pX ?_ | refine bN ?_ | refine bR ?_ | refine bX ?_ | refine bO (by decide) ?_ | (apply WK.condT; (· rfl); (· exact dcd)) | (apply WK.condF; (· rfl); (· exact dcd)) | (apply WK.condD; (· rfl); all_goals intro _) | (apply WK.condN; (· rfl); all_goals intro _) | (apply WK.condB; (· rfl); all_goals intro _))
    rename_i c2 _ _ _ _ _
    have hC1 : Go.Eng.Clean H1 := c2.1 (c1.1 hcl)
    refine WK.loop (α := Nat × Nat × List Nat × AV) (fun p => [(0, nA N.length), (7, .ptr G 0), (9, p.2.2.2), (10, nA p.2.1), (22, nA N.length), (23, nA p.1)])
      (fun p H => p.1 ≤ N.length ∧ p.2.2.1 = (List.range p.1).filter (fun j => T j == p.2.1) ∧ (∀ j, j < p.1 → p.2.1 ≤ T j) ∧ (p.1 = 0 → p.2.1 = N.length) ∧ (0 < p.1 → ∃ j, j < p.1 ∧ T j = p.2.1) ∧ p.2.1 ≤ N.length ∧ OutR H p.2.2.2 p.2.2.1 ∧ (∀ i, p.2.2.2.own = some i → H1.next ≤ i) ∧ Kp H1 H ∧ Go.Eng.Clean H)
      (fun p => N.length - p.1) (0, N.length, [], .nils) (.cons rfl <| .cons rfl <| .cons rfl <| .cons rfl <| .cons rfl <| .cons rfl <| .nil _) ⟨Nat.zero_le _, rfl, fun j hj => absurd hj (Nat.not_lt_zero _), fun _ => rfl, fun h => absurd h (Nat.lt_irrefl _), Nat.le_refl _, .inl (Row.nil 1 _), nofun, Kp.eqm rfl (by simp only [next_bump]; omega), clean_eqm hC1 rfl (by simp only [next_bump]; omega)⟩ (by dsimp only; omega) ?_
    rintro ⟨s, best, cs, out⟩ H ⟨a1, a2, a3, a4, a5, a6, a7, a8, a9, a10⟩
    dsimp only at a1 a2 a3 a4 a5 a6 a7 a8 a9 a10 ⊢
    have h01 : Kp H0 H1 := hk0.trans hk
    have h9n := a9.1
    have h1n := h01.1
    by_cases hs : s < N.length
    · refine WK.cl hcc ?_
      obtain ⟨hTs, hIs⟩ := hT s hs
      have hfs := filter_succ (fun j => T j == best) s
      repeat' (first | refine WK.seqC (by assumption) ?_ | intro (_ : CleanTo _ _) | refine WK.skip ?_ | refine WK.ret ?_ | refine WK.exit ?_ | refine WK.block ?_ | (apply WK.reg; (· exact lnn)) | (apply WK.regC; (· rfl); (· exact lnn); (· decide)) | (apply WK.regd0; (· exact lnn)) | refine WKC.nil ?_ | refine WKO.nil ?_ | ((first | apply WKC.op | apply WKO.op | ((first | apply WKC.gop | apply WKO.gop); (· rfl); (· exact dcd))); (· first | exact k_mv rfl | exact opA); (· rfl)) | ((first | apply WKC.gnoT | apply WKO.gnoT | apply WKC.gnoF | apply WKO.gnoF); (· rfl); (· exact dcd)) | ((first | apply WKC.gnu | apply WKO.gnu); (· rfl)) | ((first | apply WKC.gsp | apply WKO.gsp); (· rfl); all_goals ((fail_if_success (refine known ?_ ?_; (· assumption))); intro _)) | ((first | apply WKC.gspB | apply WKO.gspB); (· rfl); all_goals ((fail_if_success (refine known ?_ ?_; (· assumption))); intro _)) | refine pN ?_ | refine pR ?_ | refine pX ?_ | refine bN ?_ | refine bR ?_ | refine bX ?_ | refine bO (by decide) ?_ | (apply WK.condT; (· rfl); (· exact dcd)) | (apply WK.condF; (· rfl); (· exact dcd)) | (apply WK.condD; (· rfl); all_goals intro _) | (apply WK.condN; (· rfl); all_goals intro _) | (apply WK.condB; (· rfl); all_goals intro _))
      refine WKO.callV rfl rfl rfl (h47 _ G M s N (hg.up ?_) hN hs (clean_eqm a10 ?_ ?_)) ?_
      · exact a9.trans (Kp.eqm rfl (by simp only [next_bump]; omega))
      · rfl
      · simp only [next_bump]; omega
      rintro u H3 ⟨k, ls, r1, r2, r3, r4, r5, r6⟩
      have hkT : ls.length = T s := by rw [r2]; exact r1.uniq hIs
      have hk3 : Kp H H3 := Kp.trans (Kp.eqm (H' := (((H.bump 1).bump 2).bump 5)) rfl (by simp only [next_bump]; omega)) r6
      have hO3 : OutR H3 out cs := a7.frame hk3.1 (fun i q => hk3.2 i (a7.own_lt q))
      have hk13 := a9.trans hk3
      have h3n := hk3.1
      have hlen : lenN u = some (T s) := by rw [r3.len, hkT]
      repeat' (first | refine WK.seqC (by assumption) ?_ | intro (_ : CleanTo _ _) | refine WK.skip ?_ | refine WK.ret ?_ | refine WK.exit ?_ | refine WK.block ?_ | (apply WK.reg; (· exact lnn)) | (apply WK.regC; (· rfl); (· exact lnn); (· decide)) | (apply WK.regd0; (· exact lnn)) | refine WKC.nil ?_ | refine WKO.nil ?_ | ((first | apply WKC.op | apply WKO.op | ((first | apply WKC.gop | apply WKO.gop); (· rfl); (· exact dcd))); (· first | exact k_mv rfl | exact k_lenL rfl hlen | exact opA); (· rfl)) | ((first | apply WKC.gnoT | apply WKO.gnoT | apply WKC.gnoF | apply WKO.gnoF); (· rfl); (· exact dcd)) | ((first | apply WKC.gnu | apply WKO.gnu); (· rfl)) | ((first | apply WKC.gsp | apply WKO.gsp); (· rfl); all_goals ((fail_if_success (refine known ?_ ?_; (· assumption))); intro _)) | ((first | apply WKC.gspB | apply WKO.gspB); (· rfl); all_goals ((fail_if_success (refine known ?_ ?_; (· assumption))); intro _)) | refine pN ?_ | refine pR ?_ | refine pX ?_ | refine bN ?_ | refine bR ?_ | refine bX ?_ | refine bO (by decide) ?_ | (apply WK.condT; (· rfl); (· exact dcd)) | (apply WK.condF; (· rfl); (· exact dcd)) | (apply WK.condD; (· rfl); all_goals intro _) | (apply WK.condN; (· rfl); all_goals intro _) | (apply WK.condB; (· rfl); all_goals intro _))
      · rename_i hlt
        obtain ⟨H4, hH4⟩ : ∃ H4, ((H3.bump 4).bump 5).set ((H3.bump 4).next + 1 + 1) (some (.cells [nA s] none)) = H4 := ⟨_, rfl⟩
        have hn4 : H4.next = H3.next + 9 := by rw [← hH4]; rfl
        have hN4 : H4.get ((H3.bump 4).next + 1 + 1) = some (.cells [nA s] none) := by rw [← hH4, AHeap.get_set, if_pos rfl]
        have hg4 : ∀ k, k < H3.next → H4.get k = H3.get k := fun k hk => by
          rw [← hH4, AHeap.get_set, if_neg (by simp only [next_bump]; omega)]
          rfl
        refine WKO.op (k_bs1 rfl rfl) rfl ?_
        rw [hH4]
        repeat' (first | refine WK.seqC (by assumption) ?_ | intro (_ : CleanTo _ _) | refine WK.skip ?_ | refine WK.ret ?_ | refine WK.exit ?_ | refine WK.block ?_ | (apply WK.reg; (· exact lnn)) | (apply WK.regC; (· rfl); (· exact lnn); (· decide)) | (apply WK.regd0; (· exact lnn)) | refine WKC.nil ?_ | refine WKO.nil ?_ | ((first | apply WKC.op | apply WKO.op | ((first | apply WKC.gop | apply WKO.gop); (· rfl); (· exact dcd))); (· first | exact k_mv rfl | exact opA); (· rfl)) | ((first | apply WKC.gnoT | apply WKO.gnoT | apply WKC.gnoF | apply WKO.gnoF); (· rfl); (· exact dcd)) | ((first | apply WKC.gnu | apply WKO.gnu); (· rfl)) | ((first | apply WKC.gsp | apply WKO.gsp); (· rfl); all_goals ((fail_if_success (refine known ?_ ?_; (· assumption))); intro _)) | ((first | apply WKC.gspB | apply WKO.gspB); (· rfl); all_goals ((fail_if_success (refine known ?_ ?_; (· assumption))); intro _)) | refine pN ?_ | refine pR ?_ | refine pX ?_ | refine bN ?_ | refine bR ?_ | refine bX ?_ | refine bO (by decide) ?_ | (apply WK.condT; (· rfl); (· exact dcd)) | (apply WK.condF; (· rfl); (· exact dcd)) | (apply WK.condD; (· rfl); all_goals intro _) | (apply WK.condN; (· rfl); all_goals intro _) | (apply WK.condB; (· rfl); all_goals intro _))
        rename_i c9
        refine ⟨(s + 1, T s, [s], .sl ((H3.bump 4).next + 1 + 1) 0 1 1), (.cons rfl <| .cons rfl <| .cons rfl <| .cons rfl <| .cons rfl <| .cons rfl <| .nil _), ⟨hs, ?_, fun j hj => ?_, fun q => absurd q (by dsimp only; omega), fun _ => ⟨s, by dsimp only; omega, rfl⟩, by dsimp only; omega, .inr ⟨_, s, rfl, rfl, hN4, by simp only [next_bump]; omega⟩, fun i hi => ?_, ⟨by simp only [next_bump]; omega, fun j hj => (hg4 j (by omega)).trans (hk13.2 j hj)⟩, c9.1 a10⟩, by dsimp only; omega⟩
        · dsimp only
          rw [filter_succ, if_pos (by simp)]
          have : (List.range s).filter (fun j => T j == T s) = [] := by
            rw [List.filter_eq_nil_iff]
            intro j hj hjT
            have h1 := a3 j (List.mem_range.1 hj)
            have h2 : T j = T s := by simpa using hjT
            omega
          rw [this]
          rfl
        · dsimp only at hj ⊢
          by_cases e : j < s
          · have := a3 j e; omega
          · obtain rfl : j = s := by omega
            exact Nat.le_refl _
        · have : (H3.bump 4).next + 1 + 1 = i := by simpa [AV.own] using hi
          simp only [next_bump] at this
          omega
      · rename_i hlt _ heq
        obtain ⟨H4, hH4⟩ : ∃ H4, (((H3.bump 4).bump 4).bump 5).set (((H3.bump 4).bump 4).next + 1 + 1) (some (.cells [nA s] none)) = H4 := ⟨_, rfl⟩
        have hn4 : H4.next = H3.next + 13 := by rw [← hH4]; rfl
        have hN4 : H4.get (((H3.bump 4).bump 4).next + 1 + 1) = some (.cells [nA s] none) := by rw [← hH4, AHeap.get_set, if_pos rfl]
        have hg4 : ∀ k, k < H3.next → H4.get k = H3.get k := fun k hk => by
          rw [← hH4, AHeap.get_set, if_neg (by simp only [next_bump]; omega)]
          rfl
        have hcl : cs.length < 5000 := by
          rw [a2]
          exact Nat.lt_of_le_of_lt (List.length_filter_le ..) (by simp; omega)
        have hO4 : OutR H4 out cs := hO3.frame (by omega) (fun i q => hg4 i (hO3.own_lt q))
        obtain ⟨v', H5, e5, O5, hn5, hg5, ho5⟩ := hO4.app hcl hN4
        refine WKO.op (k_bs1 rfl rfl) rfl ?_
        rw [hH4]
        refine WKO.op (k_app rfl rfl e5) rfl ?_
        repeat' (first | refine WK.seqC (by assumption) ?_ | intro (_ : CleanTo _ _) | refine WK.skip ?_ | refine WK.ret ?_ | refine WK.exit ?_ | refine WK.block ?_ | (apply WK.reg; (· exact lnn)) | (apply WK.regC; (· rfl); (· exact lnn); (· decide)) | (apply WK.regd0; (· exact lnn)) | refine WKC.nil ?_ | refine WKO.nil ?_ | ((first | apply WKC.op | apply WKO.op | ((first | apply WKC.gop | apply WKO.gop); (· rfl); (· exact dcd))); (· first | exact k_mv rfl | exact opA); (· rfl)) | ((first | apply WKC.gnoT | apply WKO.gnoT | apply WKC.gnoF | apply WKO.gnoF); (· rfl); (· exact dcd)) | ((first | apply WKC.gnu | apply WKO.gnu); (· rfl)) | ((first | apply WKC.gsp | apply WKO.gsp); (· rfl); all_goals ((fail_if_success (refine known ?_ ?_; (· assumption))); intro _)) | ((first | apply WKC.gspB | apply WKO.gspB); (· rfl); all_goals ((fail_if_success (refine known ?_ ?_; (· assumption))); intro _)) | refine pN ?_ | refine pR ?_ | refine pX ?_ | refine bN ?_ | refine bR ?_ | refine bX ?_ | refine bO (by decide) ?_ | (apply WK.condT; (· rfl); (· exact dcd)) | (apply WK.condF; (· rfl); (· exact dcd)) | (apply WK.condD; (· rfl); all_goals intro _) | (apply WK.condN; (· rfl); all_goals intro _) | (apply WK.condB; (· rfl); all_goals intro _))
        rename_i c9
        refine ⟨(s + 1, best, cs ++ [s], v'), (.cons rfl <| .cons rfl <| .cons rfl <| .cons rfl <| .cons rfl <| .cons rfl <| .nil _), ⟨hs, ?_, fun j hj => ?_, fun q => absurd q (by dsimp only; omega), fun _ => ⟨s, by dsimp only; omega, heq⟩, a6, O5.frame (by simp only [next_bump]; omega) (fun _ _ => rfl), fun i hi => ?_, ⟨by simp only [next_bump]; omega, fun j hj => ?_⟩, c9.1 a10⟩, by dsimp only; omega⟩
        · dsimp only
          rw [filter_succ, if_pos (by simpa using heq), ← a2]
        · dsimp only at hj ⊢
          by_cases e : j < s
          · exact a3 j e
          · obtain rfl : j = s := by omega
            omega
        · rcases ho5 i hi with h | h
          · exact a8 i h
          · omega
        · show H5.get j = _
          rw [hg5 j (by omega) (fun q => by have := a8 j q; omega), hg4 j (by omega)]
          exact hk13.2 j hj
      · rename_i hlt _ heq _ c9
        refine ⟨(s + 1, best, cs, out), (.cons rfl <| .cons rfl <| .cons rfl <| .cons rfl <| .cons rfl <| .cons rfl <| .nil _), ⟨hs, ?_, fun j hj => ?_, fun q => absurd q (by dsimp only; omega), fun _ => ?_, a6, hO3.frame (by simp only [next_bump]; omega) (fun _ _ => rfl), a8, hk13.trans (Kp.eqm rfl (by simp only [next_bump]; omega)), c9.1 a10⟩, by dsimp only; omega⟩
        · dsimp only
          rw [filter_succ, if_neg (by simpa using heq), List.append_nil, ← a2]
        · dsimp only at hj ⊢
          by_cases e : j < s
          · exact a3 j e
          · obtain rfl : j = s := by omega
            omega
        · rcases Nat.eq_zero_or_pos s with e | e
          · have := a4 e
            omega
          · obtain ⟨j, h1, h2⟩ := a5 e
            exact ⟨j, by dsimp only; omega, h2⟩
    · repeat' (first | refine WK.seqC (by assumption) ?_ | intro (_ : CleanTo _ _) | refine WK.skip ?_ | refine WK.ret ?_ | refine WK.exit ?_ | refine WK.block ?_ | (apply WK.reg; (· exact lnn)) | (apply WK.regC; (· rfl); (· exact lnn); (· decide)) | (apply WK.regd0; (· exact lnn)) | refine WKC.nil ?_ | refine WKO.nil ?_ | ((first | apply WKC.op | apply WKO.op | ((first | apply WKC.gop | apply WKO.gop); (· rfl); (· exact dcd))); (· first | exact k_mv rfl | exact opA); (· rfl)) | ((first | apply WKC.gnoT | apply WKO.gnoT | apply WKC.gnoF | apply WKO.gnoF); (· rfl); (· exact dcd)) | ((first | apply WKC.gnu | apply WKO.gnu); (· rfl)) | ((first | apply WKC.gsp | apply WKO.gsp); (· rfl); all_goals ((fail_if_success (refine known ?_ ?_; (· assumption))); intro _)) | ((first | apply WKC.gspB | apply WKO.gspB); (· rfl); all_goals ((fail_if_success (refine known ?_ ?_; (· assumption))); intro _)) | refine pN ?_ | refine pR ?_ | refine pX ?_ | refine bN ?_ | refine bR ?_ | refine bX ?_ | refine bO (by decide) ?_ | (apply WK.condT; (· rfl); (· exact dcd)) | (apply WK.condF; (· rfl); (· exact dcd)) | (apply WK.condD; (· rfl); all_goals intro _) | (apply WK.condN; (· rfl); all_goals intro _) | (apply WK.condB; (· rfl); all_goals intro _))
      have hsN : s = N.length := by omega
      have hcen : CenA N cs best := ⟨T, fun j hj => (hT j hj).2, by rw [a2, hsN], fun j hj => a3 j (by omega), by
        obtain ⟨j, h1, h2⟩ := a5 (by have := hN.l1; omega)
        exact ⟨j, by omega, h2⟩⟩
      exact ⟨nofun, _, rfl, .inr ⟨hb, out, cs, best, rfl, by rw [hNN]; exact hcen, a7.frame (by simp only [next_bump]; omega) (fun _ _ => rfl), fun i hi => Nat.le_trans h1n (a8 i hi), (h01.trans a9).trans (Kp.eqm rfl (by simp only [next_bump]; omega))⟩⟩
section
variable {k : Nat} {H : AHeap} {n : Int} {l : ZPrs} {X : AV}
theorem g_46 {k : Nat} {l : ZPrs} {X : AV} (hX : RdR 2 H X l.length (zc l)) : ∃ u H', cfG (k + 1) 46 [.int .i64 n, X] H = some (u, H') ∧ ReadR H n l u H' :=
  cfG_run rfl rfl (x46 hX (by omega) (fun H m i h1 h2 => g_64 h1 h2) (fun H m h => g_67 h))
theorem g_18 (hX : RdR 2 H X l.length (zc l)) (hcl : Go.Eng.Clean H) : ∃ u H', cfG (k + 15) 18 [.int .i64 n, X] H = some (u, H') ∧ CenR H n l u H' :=
  cfG_run rfl rfl (x18 hX hcl (by omega) (fun H h => g_46 h) g_47')
end
end Go.Proofs.Ytpbighinamljbaa.PA
/- Renaming the vertices of a graph renames its rounds and its centre; lists that rise; the set of a list. No condition. -/
set_option linter.unusedSimpArgs false
set_option linter.unusedVariables false
namespace Go.Proofs.Ytpbighinamljbaa.PA
open Go Go.Eng Go.Proofs
theorem mask_of (p : Nat → Bool) : ∀ n, ∃ A, A < 2 ^ n ∧ ∀ i, i < n → A.testBit i = p i
  | 0 => ⟨0, by simp, fun i hi => by omega⟩
  | n + 1 => by
    obtain ⟨A, h1, h2⟩ := mask_of p n
    have hp : 2 ^ n < 2 ^ (n + 1) := Nat.pow_lt_pow_right (by omega) (by omega)
    cases e : p n with
    | true =>
      refine ⟨A ||| 2 ^ n, Nat.or_lt_two_pow (by omega) hp, fun i hi => ?_⟩
      rw [Nat.testBit_or, Nat.testBit_two_pow]
      by_cases q : n = i
      · subst q; simp [e]
      · rw [decide_eq_false q, Bool.or_false]; exact h2 i (by omega)
    | false =>
      refine ⟨A, by omega, fun i hi => ?_⟩
      by_cases q : n = i
      · subst q; rw [e]; exact Nat.testBit_lt_two_pow h1
      · exact h2 i (by omega)
theorem eq_of_bits {n A B : Nat} (hA : A < 2 ^ n) (hB : B < 2 ^ n) (h : ∀ i, i < n → A.testBit i = B.testBit i) : A = B := by
  apply Nat.eq_of_testBit_eq
  intro i
  rcases Nat.lt_or_ge i n with q | q
  · exact h i q
  · rw [Nat.testBit_lt_two_pow (Nat.lt_of_lt_of_le hA (Nat.pow_le_pow_right (n := 2) (by omega) q)), Nat.testBit_lt_two_pow (Nat.lt_of_lt_of_le hB (Nat.pow_le_pow_right (n := 2) (by omega) q))]
/-- A renaming of the vertices below n, and the one back. -/
structure Ren (n : Nat) (σ τ : Nat → Nat) : Prop where
  s : ∀ i, i < n → σ i < n
  t : ∀ i, i < n → τ i < n
  ts : ∀ i, i < n → τ (σ i) = i
  st : ∀ i, i < n → σ (τ i) = i
theorem Ren.symm {n : Nat} {σ τ : Nat → Nat} (h : Ren n σ τ) : Ren n τ σ := ⟨h.t, h.s, h.st, h.ts⟩
/-- The renamed graph. -/
structure RenG (n : Nat) (σ τ : Nat → Nat) (N N' : List Nat) : Prop where
  r : Ren n σ τ
  l : N.length = n
  l' : N'.length = n
  b : ∀ m ∈ N, m < 2 ^ n
  b' : ∀ m ∈ N', m < 2 ^ n
  e : ∀ i j, i < n → j < n → (N.getD i 0).testBit j = (N'.getD (σ i) 0).testBit (σ j)
theorem RenG.symm {n : Nat} {σ τ : Nat → Nat} {N N' : List Nat} (h : RenG n σ τ N N') : RenG n τ σ N' N :=
  ⟨h.r.symm, h.l', h.l, h.b', h.b, fun i j hi hj => by rw [h.e _ _ (h.r.t i hi) (h.r.t j hj), h.r.st i hi, h.r.st j hj]⟩
theorem ren_rcs {n : Nat} {σ τ : Nat → Nat} {N N' : List Nat} (h : RenG n σ τ N N') : ∀ (k A B A' : Nat), A < 2 ^ n → A' < 2 ^ n → (∀ i, i < n → A'.testBit (σ i) = A.testBit i) → Rcs N k A B → ∃ B', B' < 2 ^ n ∧ (∀ i, i < n → B'.testBit (σ i) = B.testBit i) ∧ Rcs N' k A' B'
  | 0, A, B, A', hA, hA', hr, hk => by
    cases hk
    exact ⟨A', hA', hr, rfl⟩
  | k + 1, A, B, A', hA, hA', hr, hk => by
    obtain ⟨C, h1, h2⟩ := hk
    obtain ⟨C', c1, c2, c3⟩ := ren_rcs h k A C A' hA hA' hr h1
    have hC : C < 2 ^ n := h1.lt h.b hA
    have hB : B < 2 ^ n := h2.lt h.b hC
    obtain ⟨B', b1, b2⟩ := mask_of (fun j => B.testBit (τ j)) n
    have b3 : ∀ i, i < n → B'.testBit (σ i) = B.testBit i := fun i hi => by rw [b2 _ (h.r.s i hi), h.r.ts i hi]
    have c4 : ∀ j, j < n → C'.testBit j = C.testBit (τ j) := fun j hj => by rw [← c2 _ (h.r.t j hj), h.r.st j hj]
    obtain ⟨g0, f, f1, f2⟩ := h2
    refine ⟨B', b1, b3, C', c3, fun j hj => ?_, fun j => σ (f (τ j)), fun j q1 q2 => ?_, fun j j' q1 q2 q3 q4 q5 => ?_⟩
    · have hjn := bit_lt c1 hj
      rw [b2 j hjn]
      exact g0 _ (by rw [← c4 j hjn]; exact hj)
    · have hjn := bit_lt b1 q1
      rw [b2 j hjn] at q1
      rw [c4 j hjn] at q2
      obtain ⟨r1, r2⟩ := f1 _ q1 q2
      have hf := bit_lt hC r1
      have e1 := h.e (f (τ j)) (τ j) hf (h.r.t j hjn)
      rw [h.r.st j hjn] at e1
      exact ⟨by rw [c2 _ hf]; exact r1, by rw [← e1]; exact r2⟩
    · have hjn := bit_lt b1 q1
      have hjn' := bit_lt b1 q3
      rw [b2 j hjn] at q1
      rw [c4 j hjn] at q2
      rw [b2 j' hjn'] at q3
      rw [c4 j' hjn'] at q4
      have hf := bit_lt hC (f1 _ q1 q2).1
      have hf' := bit_lt hC (f1 _ q3 q4).1
      have e : f (τ j) = f (τ j') := by
        have := congrArg τ q5
        rwa [h.r.ts _ hf, h.r.ts _ hf'] at this
      have e2 := f2 _ _ q1 q2 q3 q4 e
      have := congrArg σ e2
      rwa [h.r.st j hjn, h.r.st j' hjn'] at this
theorem ren_full {n : Nat} {σ τ : Nat → Nat} {N N' : List Nat} (h : RenG n σ τ N N') {s k : Nat} (hs : s < n) (hk : Rcs N k (2 ^ s) (2 ^ n - 1)) : Rcs N' k (2 ^ σ s) (2 ^ n - 1) := by
  obtain ⟨B', b1, b2, b3⟩ := ren_rcs h k _ _ (2 ^ σ s) (Nat.pow_lt_pow_right (by omega) hs) (Nat.pow_lt_pow_right (by omega) (h.r.s s hs)) (fun i hi => by
    rw [Nat.testBit_two_pow, Nat.testBit_two_pow, decide_eq_decide]
    constructor
    · intro e
      have := congrArg τ e
      rwa [h.r.ts s hs, h.r.ts i hi] at this
    · intro e; rw [e]) hk
  have : B' = 2 ^ n - 1 := eq_of_bits b1 (by have := Nat.one_le_two_pow (n := n); omega) fun i hi => by
    have := b2 _ (h.r.t i hi)
    rw [h.r.st i hi] at this
    rw [this, Nat.testBit_two_pow_sub_one, Nat.testBit_two_pow_sub_one, decide_eq_true (h.r.t i hi), decide_eq_true hi]
  rwa [this] at b3
theorem ren_isT {n : Nat} {σ τ : Nat → Nat} {N N' : List Nat} (h : RenG n σ τ N N') {s k : Nat} (hs : s < n) (hk : IsT N s k) : IsT N' (σ s) k := by
  obtain ⟨h1, h2⟩ := hk
  rw [h.l] at h1 h2
  refine ⟨by rw [h.l']; exact ren_full h hs h1, fun j hj hr => h2 j hj ?_⟩
  rw [h.l'] at hr
  have := ren_full h.symm (h.r.s s hs) hr
  rwa [h.r.ts s hs] at this
/-! ### lists that rise -/
theorem range_filter_pw (p : Nat → Bool) (n : Nat) : ((List.range n).filter p).Pairwise (· < ·) := List.pairwise_lt_range.sublist List.filter_sublist
theorem ris_filter (p : Nat → Bool) (n : Nat) : risB n ((List.range n).filter p) = true := by
  rw [risB, List.all_eq_true]
  intro i hi
  have hi := List.mem_range.1 hi
  have h1 : ((List.range n).filter p).getD i 0 < n := by
    rw [List.getD_eq_getElem?_getD, List.getElem?_eq_getElem hi]
    exact List.mem_range.1 (List.mem_filter.1 (List.getElem_mem hi)).1
  rw [Bool.and_eq_true, Bool.or_eq_true, decide_eq_true_iff, decide_eq_true_iff, decide_eq_true_iff]
  refine ⟨h1, ?_⟩
  rcases Nat.eq_zero_or_pos i with e | e
  · exact .inl e
  · right
    have := List.pairwise_iff_getElem.1 (range_filter_pw p n) (i - 1) i (by omega) hi (by omega)
    rw [List.getD_eq_getElem?_getD, List.getD_eq_getElem?_getD, List.getElem?_eq_getElem hi, List.getElem?_eq_getElem (by omega : i - 1 < _)]
    exact this
theorem fold_bits : ∀ (N : List Nat) (acc j : Nat), (N.foldl (fun a v => a ||| 2 ^ v) acc).testBit j = true ↔ acc.testBit j = true ∨ j ∈ N
  | [], acc, j => by simp
  | v :: N, acc, j => by
    rw [List.foldl_cons, fold_bits N, Nat.testBit_or, Nat.testBit_two_pow, List.mem_cons, Bool.or_eq_true, decide_eq_true_iff, or_assoc]
    constructor
    · rintro (h | h | h)
      · exact .inl h
      · exact .inr (.inl h.symm)
      · exact .inr (.inr h)
    · rintro (h | h | h)
      · exact .inl h
      · exact .inr (.inl h.symm)
      · exact .inr (.inr h)
theorem bitsN_bit {N : List Nat} {j : Nat} : (bitsN N).testBit j = true ↔ j ∈ N := by
  rw [bitsN, fold_bits]
  simp
theorem bitsN_ext {N M : List Nat} (h : ∀ j, j ∈ N ↔ j ∈ M) : bitsN N = bitsN M := by
  apply Nat.eq_of_testBit_eq
  intro j
  rw [Bool.eq_iff_iff, bitsN_bit, bitsN_bit]
  exact h j
theorem cen_mem {N cs : List Nat} {best : Nat} (h : CenA N cs best) {j : Nat} : j ∈ cs ↔ j < N.length ∧ IsT N j best := by
  obtain ⟨T, h1, h2, h3, h4⟩ := h
  rw [h2, List.mem_filter, List.mem_range]
  constructor
  · rintro ⟨q1, q2⟩
    have q2 : T j = best := by simpa using q2
    exact ⟨q1, by rw [← q2]; exact h1 j q1⟩
  · rintro ⟨q1, q2⟩
    exact ⟨q1, by simpa using (h1 j q1).uniq q2⟩
theorem cen_ris {N cs : List Nat} {best : Nat} (h : CenA N cs best) : risB N.length cs = true := by
  obtain ⟨T, h1, h2, h3, h4⟩ := h
  rw [h2]
  exact ris_filter _ _
theorem cen_lt {N cs : List Nat} {best : Nat} (h : CenA N cs best) : ∀ v ∈ cs, v < N.length := fun v hv => ((cen_mem h).1 hv).1
theorem cen_nd {N cs : List Nat} {best : Nat} (h : CenA N cs best) : cs.Nodup := by
  obtain ⟨T, h1, h2, h3, h4⟩ := h
  rw [h2]
  exact List.nodup_range.filter _
theorem cen_len {N cs : List Nat} {best : Nat} (h : CenA N cs best) : cs.length ≤ N.length := by
  obtain ⟨T, h1, h2, h3, h4⟩ := h
  rw [h2]
  exact Nat.le_trans (List.length_filter_le ..) (by simp)
theorem cen_least {N cs : List Nat} {best : Nat} (h : CenA N cs best) {s k : Nat} (hs : s < N.length) (hk : IsT N s k) : best ≤ k := by
  obtain ⟨T, h1, h2, h3, h4⟩ := h
  rw [hk.uniq (h1 s hs)]
  exact h3 s hs
theorem cen_ex {N cs : List Nat} {best : Nat} (h : CenA N cs best) : ∃ s, s < N.length ∧ IsT N s best := by
  obtain ⟨T, h1, h2, h3, s, h4, h5⟩ := h
  exact ⟨s, h4, by rw [← h5]; exact h1 s h4⟩
theorem nodup_len {l m : List Nat} (h : l.Nodup) (g : ∀ a ∈ l, a ∈ m) : l.length ≤ m.length := by
  induction l generalizing m with
  | nil => exact Nat.zero_le _
  | cons a l ih =>
    rw [List.nodup_cons] at h
    have h1 := g a (by simp)
    have := ih (m := m.erase a) h.2 (fun b hb => (List.mem_erase_of_ne (fun e : b = a => h.1 (by rw [← e]; exact hb))).2 (g b (by simp [hb])))
    have h2 := List.length_erase_of_mem h1
    have h3 : 0 < m.length := List.length_pos_of_mem h1
    simp only [List.length_cons]
    omega
/-- The centre of a renamed graph is the renamed centre. -/
theorem cen_ren {n : Nat} {σ τ : Nat → Nat} {N N' cs ds : List Nat} {p q : Nat} (h : RenG n σ τ N N') (hc : CenA N cs p) (hd : CenA N' ds q) : p = q ∧ cs.length = ds.length ∧ bitsN (cs.map σ) = bitsN ds := by
  have hpq : p = q := by
    obtain ⟨s, s1, s2⟩ := cen_ex hc
    obtain ⟨t, t1, t2⟩ := cen_ex hd
    have h1 := cen_least hd (by rw [h.l', ← h.l] at *; rw [h.l]; exact h.r.s s (by rw [← h.l]; exact s1)) (ren_isT h (by rw [← h.l]; exact s1) s2)
    have h2 := cen_least hc (by rw [h.l]; exact h.r.t t (by rw [← h.l']; exact t1)) (ren_isT h.symm (by rw [← h.l']; exact t1) t2)
    omega
  subst hpq
  have hm : ∀ j, j ∈ cs.map σ ↔ j ∈ ds := fun j => by
    rw [cen_mem hd, List.mem_map]
    constructor
    · rintro ⟨i, hi, rfl⟩
      obtain ⟨i1, i2⟩ := (cen_mem hc).1 hi
      rw [h.l] at i1
      exact ⟨by rw [h.l']; exact h.r.s i i1, ren_isT h i1 i2⟩
    · rintro ⟨j1, j2⟩
      rw [h.l'] at j1
      exact ⟨τ j, (cen_mem hc).2 ⟨by rw [h.l]; exact h.r.t j j1, ren_isT h.symm j1 j2⟩, h.r.st j j1⟩
  have hnd : (cs.map σ).Nodup := by
    rw [List.nodup_iff_pairwise_ne, List.pairwise_map]
    refine (cen_nd hc).imp_of_mem fun {a b} ha hb hne e => hne ?_
    have := congrArg τ e
    have ha' := cen_lt hc a ha
    have hb' := cen_lt hc b hb
    rw [h.l] at ha' hb'
    rwa [h.r.ts a ha', h.r.ts b hb'] at this
  have h1 := nodup_len hnd (fun a ha => (hm a).1 ha)
  have h2 := nodup_len (cen_nd hd) (fun a ha => (hm a).2 ha)
  rw [List.length_map] at h1 h2
  exact ⟨rfl, by omega, bitsN_ext hm⟩
/-! ### rotations -/
theorem rot_ren {n y : Nat} (hn : 0 < n) : Ren n (fun i => (i + y) % n) (fun i => (i + (n - y % n)) % n) := by
  have hy := Nat.mod_lt y hn
  have key : ∀ a b, a < n → b ≤ n → (a + b) % n = if a + b < n then a + b else a + b - n := fun a b ha hb => by
    split
    · rename_i h; exact Nat.mod_eq_of_lt h
    · rename_i h; rw [Nat.mod_eq_sub_mod (by omega), Nat.mod_eq_of_lt (by omega)]
  have e : ∀ i, i < n → (i + y) % n = (i + y % n) % n := fun i hi => by rw [Nat.add_mod, Nat.mod_eq_of_lt hi]
  refine ⟨fun i _ => Nat.mod_lt _ hn, fun i _ => Nat.mod_lt _ hn, fun i hi => ?_, fun i hi => ?_⟩
  · rw [e i hi, key i _ hi (by omega)]
    split
    · rename_i h
      rw [key _ _ h (by omega)]
      split <;> omega
    · rename_i h
      rw [key _ _ (by omega) (by omega)]
      split <;> omega
  · rw [e _ (Nat.mod_lt _ hn), key i _ hi (by omega)]
    split
    · rename_i h
      rw [key _ _ h (by omega)]
      split <;> omega
    · rename_i h
      rw [key _ _ (by omega) (by omega)]
      split <;> omega
end Go.Proofs.Ytpbighinamljbaa.PA
/- NewsRenamed over the abstract machine. No condition. -/
set_option linter.unusedSimpArgs false
set_option linter.unusedVariables false
namespace Go.Proofs.Ytpbighinamljbaa.PA
open Go Go.Eng Go.Proofs
theorem xop_ldE {ev : XO → Option AV} {H0 H' : AHeap} {n z len p : Nat} {x : XO} {X v : AV} {cs : List AV} (hx : ev x = some (adE X p)) (hE : RdR z H0 X len cs) (hF : ∀ i, X.own = some i → H'.get i = H0.get i) (h : cs[p]? = some v) : xop ev H' n (.load none x) = .v v := by
  have hp : p < len * z := by
    obtain ⟨hh, _⟩ := List.getElem?_eq_some_iff.1 h
    rw [hE.1] at hh
    exact hh
  obtain ⟨c, h1, h2⟩ := hE.at (H' := H') hF hp
  have h3 : c[0]? = some v := by
    have : (c.take (len * z - p))[0]? = some v := by rw [h2, List.getElem?_drop, Nat.add_zero, h]
    rw [List.getElem?_take] at this
    split at this
    · exact this
    · cases this
  simp only [xop, hx, Option.bind_some, loadA, h1, h3, AR.ofV]
theorem k_ldY {cf : CF} {H0 H' : AHeap} {n z len p : Nat} {l : KL0} {x : XO} {X v : AV} {cs : List AV} (hx : evK l x = some (adE X p)) (hE : RdR z H0 X len cs) (hF : ∀ i, X.own = some i → H'.get i = H0.get i) (h : cs[p]? = some v) : XV cf l H' n (.load none x) = some (v, H') :=
  k_any (by simp only [xval, xop_ldE hx hE hF h])
/-- Rotated edges. -/
def rotE (n y : Nat) (c : Nat × Nat) : Nat × Nat := ((c.2 + y) % n, (c.1 + y) % n)
theorem rot_gph {n y : Nat} {l : Prs} (h : MadeR n l) : Gph n (l.map (rotE n y)) ∧ RenG n (fun i => (i + y) % n) (fun i => (i + (n - y % n)) % n) (nearN n l) (nearN n (l.map (rotE n y))) := by
  have hn : 0 < n := h.n1
  have hr := rot_ren (y := y) hn
  have he : Egs n (l.map (rotE n y)) := fun c hc => by
    obtain ⟨d, hd, rfl⟩ := List.mem_map.1 hc
    obtain ⟨h1, h2, h3⟩ := h.egs d hd
    refine ⟨Nat.mod_lt _ hn, Nat.mod_lt _ hn, fun e => h3 ?_⟩
    have := congrArg (fun i => (i + (n - y % n)) % n) e
    try dsimp only [rotE] at this
    have e1 := hr.ts d.1 h1
    have e2 := hr.ts d.2 h2
    try dsimp only at e1 e2
    rw [e1, e2] at this
    exact this.symm
  have inj : ∀ a b, a < n → b < n → (a + y) % n = (b + y) % n → a = b := fun a b ha hb e => by
    have := congrArg (fun i => (i + (n - y % n)) % n) e
    have e1 := hr.ts a ha
    have e2 := hr.ts b hb
    try dsimp only at this e1 e2
    rwa [e1, e2] at this
  have hG : RenG n (fun i => (i + y) % n) (fun i => (i + (n - y % n)) % n) (nearN n l) (nearN n (l.map (rotE n y))) := ⟨hr, nearN_len _ _, nearN_len _ _, nearN_lt2 h.egs, nearN_lt2 he, fun i j hi hj => by
    rw [Bool.eq_iff_iff, nearN_bit h.egs, nearN_bit he]
    constructor
    · rintro ⟨c, hc, ⟨rfl, rfl⟩ | ⟨rfl, rfl⟩⟩
      · exact ⟨_, List.mem_map.2 ⟨c, hc, rfl⟩, .inr ⟨rfl, rfl⟩⟩
      · exact ⟨_, List.mem_map.2 ⟨c, hc, rfl⟩, .inl ⟨rfl, rfl⟩⟩
    · rintro ⟨c, hc, h1⟩
      obtain ⟨d, hd, rfl⟩ := List.mem_map.1 hc
      obtain ⟨d1, d2, _⟩ := h.egs d hd
      rcases h1 with ⟨h1, h2⟩ | ⟨h1, h2⟩
      · exact ⟨d, hd, .inr ⟨inj _ _ hi d2 h1, inj _ _ hj d1 h2⟩⟩
      · exact ⟨d, hd, .inl ⟨inj _ _ hi d1 h1, inj _ _ hj d2 h2⟩⟩⟩
  refine ⟨⟨h.n1, h.n10, by have := h.len; simp; omega, he, ?_⟩, hG⟩
  have hl := nearN_len n (l.map (rotE n y))
  have hN := (made_gph h).nok
  have hk := isT_ex hN.sym hN.l10 hN.lt hN.con (s := (0 + (n - y % n)) % n) (by rw [nearN_len]; exact Nat.mod_lt _ hn)
  obtain ⟨k, _, hk⟩ := hk
  have h2 := ren_isT hG (Nat.mod_lt _ hn) hk
  have e0 := hr.st 0 hn
  try dsimp only at h2 e0
  rw [e0] at h2
  have hlt := nearN_lt2 he
  have hfull : ClN (nearN n (l.map (rotE n y))) (2 ^ n - 1) := fun i _ _ => inn_full (getD_lt2 hlt i)
  rw [connN, decide_eq_true_iff, hl]
  have h1f : Inn 1 (2 ^ n - 1) := inn_full (by
    have : 2 ^ 1 ≤ 2 ^ n := Nat.pow_le_pow_right (by omega) h.n1
    omega)
  refine Inn.eq (ball_cl hfull h1f) ?_
  -- whoever is told lies within a closed set
  have hin : ∀ (C : Nat), ClN (nearN n (l.map (rotE n y))) C → ∀ k A B, Inn A C → Rcs (nearN n (l.map (rotE n y))) k A B → Inn B C := by
    intro C hC k
    induction k with
    | zero => intro A B h1 h2; cases h2; exact h1
    | succ k ih =>
      rintro A B h1 ⟨D, h2, h3⟩
      have hD := ih A D h1 h2
      obtain ⟨g0, f, f1, f2⟩ := h3
      intro w hw
      cases q : D.testBit w with
      | true => exact hD w q
      | false =>
        obtain ⟨r1, r2⟩ := f1 w hw q
        exact hC (f w) (bit_len r2) (by rw [bt_eq]; exact hD _ r1) w r2
  have hcl : ClN (nearN n (l.map (rotE n y))) (ballN (nearN n (l.map (rotE n y))) n 1) := by
    rcases ball_grow (fun m hm => Nat.lt_of_lt_of_le (hlt m hm) (pow_le10 h.n10)) n with q | q
    · exact q
    · have hb2 : ballN (nearN n (l.map (rotE n y))) n 1 < 2 ^ n := full_lt (ball_cl hfull h1f)
      have hc2 : cnt (ballN (nearN n (l.map (rotE n y))) n 1) ≤ n := by
        have hcf : cnt (2 ^ n - 1) = n := (cnt_full h.n10 (by have := Nat.one_le_two_pow (n := n); omega)).2 rfl
        by_cases e : ballN (nearN n (l.map (rotE n y))) n 1 = 2 ^ n - 1
        · rw [e, hcf]; exact Nat.le_refl _
        · obtain ⟨i, i1, i2⟩ := inn_diff (inn_full hb2) e
          have := cnt_lt (inn_full hb2) (by have := bit_lt (a := 2 ^ n - 1) (n := n) (by have := Nat.one_le_two_pow (n := n); omega) i1; have := h.n10; omega) i1 i2
          omega
      omega
  have h4 := h2.1
  rw [hl] at h4
  exact hin _ hcl k _ _ (ball_ge n 1) h4
set_option maxHeartbeats 2000000 in
theorem x7 {k fuel y : Nat} {H0 : AHeap} {x : Prs} (hx : ∀ p ∈ x, p.1 < 256 ∧ p.2 < 256) (hy : y < 256) (hcl : Go.Eng.Clean H0) (hfu : 100 < fuel) :
    ∃ u H', xfunc (cfG (k + 15)) fuel L7 [.imm (arrC x) x.length false, bA y] H0 = some (u, H') ∧ u = .bool true ∧ True := by
  refine xfunc_ofK rfl (by show 2 ≤ 123; omega) ?_
  have hcc := cfG_clean (k + 15)
  unfold L7
  dsimp only
  repeat' (first | refine WK.seqC (by assumption) ?_ | intro (_ : CleanTo _ _) | refine WK.skip ?_ | refine WK.ret ?_ | refine WK.exit ?_ | refine WK.block ?_ | (apply WK.reg; (· exact lnn)) | (apply WK.regC; (· rfl); (· exact lnn); (· decide)) | (apply WK.regd0; (· exact lnn)) | (refine WKO.callV rfl rfl rfl (g_22 hx) ?_; rintro _ H1 ⟨n, l, L, rfl, hM, hR, ho, hk1⟩) | refine WKC.nil ?_ | refine WKO.nil ?_ | ((first | apply WKC.op | apply WKO.op | ((first | apply WKC.gop | apply WKO.gop); (· rfl); (· exact dcd))); (· first | exact k_mv rfl | exact opA); (· rfl)) | ((first | apply WKC.gnoT | apply WKO.gnoT | apply WKC.gnoF | apply WKO.gnoF); (· rfl); (· exact dcd)) | ((first | apply WKC.gnu | apply WKO.gnu); (· rfl)) | ((first | apply WKC.gsp | apply WKO.gsp); (· rfl); all_goals ((fail_if_success (refine known ?_ ?_; (· assumption))); intro _)) | ((first | apply WKC.gspB | apply WKO.gspB); (· rfl); all_goals ((fail_if_success (refine known ?_ ?_; (· assumption))); intro _)) | refine pN ?_ | refine pR ?_ | refine pX ?_ | refine bN ?_ | refine bR ?_ | refine bX ?_ | refine bO (by decide) ?_ | (apply WK.condT; (· rfl); (· exact dcd)) | (apply WK.condF; (· rfl); (· exact dcd)) | (apply WK.condD; (· rfl); all_goals intro _) | (apply WK.condN; (· rfl); all_goals intro _) | (apply WK.condB; (· rfl); all_goals intro _))
  rename_i cc c0
  have hC1 : Go.Eng.Clean H1 := c0.1 (cc.1 hcl)
  have hF1 := hf0 H1
  have hlen := (RdR.of hR).len
  have hX := RdR.of hR
  have hn10 := hM.n10
  have hn1 := hM.n1
  have hl30 := hM.len
  have hLo : ∀ j, L.own = some j → j < H1.next := fun j q => hR.own_lt q
  obtain ⟨hG2, hRG⟩ := rot_gph (y := y) hM
  repeat' (first | refine WK.seqC (by assumption) ?_ | intro (_ : CleanTo _ _) | refine WK.skip ?_ | refine WK.ret ?_ | refine WK.exit ?_ | refine WK.block ?_ | (apply WK.reg; (· exact lnn)) | (apply WK.regC; (· rfl); (· exact lnn); (· decide)) | (apply WK.regd0; (· exact lnn)) | (apply WKO.boxO; (· rfl); (· assumption); (· rfl); (· exact nxx); (· exact nxx); (· exact nxx); intro _ _ _) | (apply WKO.alO; (· assumption); (· rfl); (· exact nxx); (· exact nxx); (· exact nxx); intro _ _ _) | (apply WKO.mapO; (· assumption); (· rfl); (· exact nxx); (· exact nxx); (· exact nxx); intro _ _ _) | (apply WKO.bsO; (· rfl); (· rfl); (· assumption); (· rfl); (· exact nxx); (· exact nxx); (· exact nxx); intro _ _ _) | (apply WKO.stO0; (· rfl); (· rfl); (· assumption); (· rfl); (· exact nxx); (· first | exact .inr nxx | exact .inl (by simp)); (· rfl); (· rfl); (· first | decide | (simp; done) | omega); intro _ _ _) | (apply WKO.stO1; (· rfl); (· rfl); (· assumption); (· rfl); (· exact nxx); (· first | exact .inr nxx | exact .inl (by simp)); (· rfl); (· rfl); (· first | decide | (simp; done) | omega); intro _ _ _) | (apply WKO.stO2; (· rfl); (· rfl); (· assumption); (· rfl); (· exact nxx); (· first | exact .inr nxx | exact .inl (by simp)); (· rfl); (· rfl); (· first | decide | (simp; done) | omega); intro _ _ _) | refine WKC.nil ?_ | refine WKO.nil ?_ | ((first | apply WKC.op | apply WKO.op | ((first | apply WKC.gop | apply WKO.gop); (· rfl); (· exact dcd))); (· first | exact k_mv rfl | (apply k_ldO; (· rfl); (· assumption); (· rfl); (· exact mmb); (· rfl)) | (apply k_ldA; (· rfl); (· assumption); (· rfl); (· exact mmb); (· first | rfl | assumption | (simp; done))) | exact k_faddr rfl | exact k_nilc rfl | exact opA); (· rfl)) | ((first | apply WKC.gnoT | apply WKO.gnoT | apply WKC.gnoF | apply WKO.gnoF); (· rfl); (· exact dcd)) | ((first | apply WKC.gnu | apply WKO.gnu); (· rfl)) | ((first | apply WKC.gsp | apply WKO.gsp); (· rfl); all_goals ((fail_if_success (refine known ?_ ?_; (· assumption))); intro _)) | ((first | apply WKC.gspB | apply WKO.gspB); (· rfl); all_goals ((fail_if_success (refine known ?_ ?_; (· assumption))); intro _)) | refine pN ?_ | refine pR ?_ | refine pX ?_ | refine bN ?_ | refine bR ?_ | refine bX ?_ | refine bO (by decide) ?_ | (apply WK.condT; (· rfl); (· exact dcd)) | (apply WK.condF; (· rfl); (· exact dcd)) | (apply WK.condD; (· rfl); all_goals intro _) | (apply WK.condN; (· rfl); all_goals intro _) | (apply WK.condB; (· rfl); all_goals intro _))
  rename_i Ha hFa na ca _
  have hCa : Go.Eng.Clean Ha := ca.1 hC1
  have hTa := hFa.le
  have hlta := hFa.lt _ (.head _)
  refine WK.loop (α := Nat × AV) (fun p => [(0, .imm (arrC x) x.length false), (1, bA y), (5, nA n), (6, L), (7, p.2), (8, nA p.1)])
    (fun p H => p.1 ≤ l.length ∧ RowE 2 H p.2 p.1 (prsC ((l.take p.1).map (rotE n y))) ∧ (∀ j, p.2.own = some j → H1.next ≤ j) ∧ Kp H1 H ∧ Go.Eng.Clean H) (fun p => l.length - p.1) (0, .sl H1.next 0 0 0) (.cons rfl <| .cons rfl <| .cons rfl <| .cons rfl <| .cons rfl <| .cons rfl <| .nil _)
    ⟨Nat.zero_le _, .inr ⟨rfl, rfl, _, rfl, by simp only [next_bump]; omega, hFa.obj _ (.head _)⟩, fun j hj => by
      have : H1.next = j := by simpa [AV.own] using hj
      omega, hFa.kp.up rfl (by simp only [next_bump]; omega), clean_eqm hCa rfl (by simp only [next_bump]; omega)⟩ (by dsimp only; omega) ?_
  clear hTa hlta
  rintro ⟨i, V⟩ H ⟨a1, a2, a3, a4, a5⟩
  dsimp only at a1 a2 a3 a4 a5 ⊢
  by_cases hi : i < l.length
  · obtain ⟨⟨a, b⟩, hp⟩ : ∃ p, l[i]? = some p := ⟨_, List.getElem?_eq_getElem hi⟩
    obtain ⟨q0, q1⟩ := prsC_get hp
    obtain ⟨ha, hb, hab⟩ := hM.egs _ (List.mem_of_getElem? hp)
    dsimp only at q0 q1 ha hb hab
    have hXH : RdR 2 H L l.length (prsC l) := hX.kp a4
    have a4n := a4.1
    refine WK.cl hcc ?_
    repeat' (first | refine WK.seqC (by assumption) ?_ | intro (_ : CleanTo _ _) | refine WK.skip ?_ | refine WK.ret ?_ | refine WK.exit ?_ | refine WK.block ?_ | (apply WK.reg; (· exact lnn)) | (apply WK.regC; (· rfl); (· exact lnn); (· decide)) | (apply WK.regd0; (· exact lnn)) | refine WKC.nil ?_ | refine WKO.nil ?_ | ((first | apply WKC.op | apply WKO.op | ((first | apply WKC.gop | apply WKO.gop); (· rfl); (· exact dcd))); (· first | exact k_mv rfl | exact k_lenL rfl hlen | exact opA); (· rfl)) | ((first | apply WKC.gnoT | apply WKO.gnoT | apply WKC.gnoF | apply WKO.gnoF); (· rfl); (· exact dcd)) | ((first | apply WKC.gnu | apply WKO.gnu); (· rfl)) | ((first | apply WKC.gsp | apply WKO.gsp); (· rfl); all_goals ((fail_if_success (refine known ?_ ?_; (· assumption))); intro _)) | ((first | apply WKC.gspB | apply WKO.gspB); (· rfl); all_goals ((fail_if_success (refine known ?_ ?_; (· assumption))); intro _)) | refine pN ?_ | refine pR ?_ | refine pX ?_ | refine bN ?_ | refine bR ?_ | refine bX ?_ | refine bO (by decide) ?_ | (apply WK.condT; (· rfl); (· exact dcd)) | (apply WK.condF; (· rfl); (· exact dcd)) | (apply WK.condD; (· rfl); all_goals intro _) | (apply WK.condN; (· rfl); all_goals intro _) | (apply WK.condB; (· rfl); all_goals intro _))
    refine WK.regT (k := 25) rfl ?_
    generalize hB : AHeap.bump _ 4 = HB
    have hBm : HB.m = H.m := by rw [← hB]; rfl
    have hBn : HB.next = H.next + 4 := by rw [← hB]; rfl
    clear hB
    have hBg : ∀ k, (HB.bump 25).get k = H.get k := fun k => (show HB.m.get k = _ by rw [hBm]; rfl)
    repeat' (first | refine WK.seq ?_ | refine WK.skip ?_ | refine WK.ret ?_ | refine WK.exit ?_ | refine WK.block ?_ | (apply WK.reg; (· exact lnn)) | (apply WK.regC; (· rfl); (· exact lnn); (· decide)) | (apply WK.regd0; (· exact lnn)) | refine WKT.nil ?_ | refine WKC.nil ?_ | refine WKO.nil ?_ | ((first | apply WKT.op | apply WKC.op | apply WKO.op | ((first | apply WKC.gop | apply WKO.gop); (· rfl); (· exact dcd))); (· first | exact k_mv rfl | exact k_iaE rfl rfl hXH hi | exact k_faE rfl hXH (by omega) | (apply k_ldY; (· rfl); (· exact hXH); (· exact fun i _ => hBg i); (· first | exact q0 | exact q1)) | exact k_conv8 rfl hy | exact opA); (· rfl)) | ((first | apply WKC.gnoT | apply WKO.gnoT | apply WKC.gnoF | apply WKO.gnoF); (· rfl); (· exact dcd)) | ((first | apply WKC.gnu | apply WKO.gnu); (· rfl)) | ((first | apply WKC.gsp | apply WKO.gsp); (· rfl); all_goals ((fail_if_success (refine known ?_ ?_; (· assumption))); intro _)) | ((first | apply WKC.gspB | apply WKO.gspB); (· rfl); all_goals ((fail_if_success (refine known ?_ ?_; (· assumption))); intro _)) | refine pN ?_ | refine pR ?_ | refine pX ?_ | refine bN ?_ | refine bR ?_ | refine bX ?_ | refine bO (by decide) ?_ | (apply WK.condT; (· rfl); (· exact dcd)) | (apply WK.condF; (· rfl); (· exact dcd)) | (apply WK.condD; (· rfl); all_goals intro _) | (apply WK.condN; (· rfl); all_goals intro _) | (apply WK.condB; (· rfl); all_goals intro _))
    have hown := fun j (q : V.own = some j) => a2.own_lt q
    have h1n := a4n
    obtain ⟨H3, hH3⟩ : ∃ H3, (HB.bump 25).set (HB.next + 22) (some (.cells [nA ((b + y) % n), nA ((a + y) % n)] none)) = H3 := ⟨_, rfl⟩
    have hn3 : H3.next = HB.next + 25 := by rw [← hH3]; rfl
    have hg3 : ∀ k, k ≠ HB.next + 22 → H3.get k = H.get k := fun k hk => by rw [← hH3, AHeap.get_set, if_neg hk, hBg]
    have hN3 : H3.get (HB.next + 22) = some (.cells [nA ((b + y) % n), nA ((a + y) % n)] none) := by rw [← hH3, AHeap.get_set, if_pos rfl]
    refine WKT.op (v := .sl (HB.next + 22) 0 1 1) (H1 := H3) (by rw [← hH3]; exact k_bs2 rfl) rfl ?_
    have R3 : RowE 2 H3 V i (prsC ((l.take i).map (rotE n y))) := a2.frame (by omega) (fun j q => hg3 j (by have := hown j q; omega))
    obtain ⟨V', H4, e4, R4, hn4, hg4, ho4⟩ := R3.app (bytes := 16) (n := 1) (y := .sl (HB.next + 22) 0 1 1) (new := [nA ((b + y) % n), nA ((a + y) % n)]) (by omega) (by omega) (by omega) (by omega) rfl (by simp only [srcA, hN3]; rfl) rfl rfl
    refine WKT.op (v := V') (H1 := H4) (k_app rfl rfl e4) rfl ?_
    repeat' (first | refine WK.seq ?_ | refine WK.skip ?_ | refine WK.ret ?_ | refine WK.exit ?_ | refine WK.block ?_ | (apply WK.reg; (· exact lnn)) | (apply WK.regC; (· rfl); (· exact lnn); (· decide)) | (apply WK.regd0; (· exact lnn)) | refine WKT.nil ?_ | refine WKC.nil ?_ | refine WKO.nil ?_ | ((first | apply WKT.op | apply WKC.op | apply WKO.op | ((first | apply WKC.gop | apply WKO.gop); (· rfl); (· exact dcd))); (· first | exact k_mv rfl | exact opA); (· rfl)) | ((first | apply WKC.gnoT | apply WKO.gnoT | apply WKC.gnoF | apply WKO.gnoF); (· rfl); (· exact dcd)) | ((first | apply WKC.gnu | apply WKO.gnu); (· rfl)) | ((first | apply WKC.gsp | apply WKO.gsp); (· rfl); all_goals ((fail_if_success (refine known ?_ ?_; (· assumption))); intro _)) | ((first | apply WKC.gspB | apply WKO.gspB); (· rfl); all_goals ((fail_if_success (refine known ?_ ?_; (· assumption))); intro _)) | refine pN ?_ | refine pR ?_ | refine pX ?_ | refine bN ?_ | refine bR ?_ | refine bX ?_ | refine bO (by decide) ?_ | (apply WK.condT; (· rfl); (· exact dcd)) | (apply WK.condF; (· rfl); (· exact dcd)) | (apply WK.condD; (· rfl); all_goals intro _) | (apply WK.condN; (· rfl); all_goals intro _) | (apply WK.condB; (· rfl); all_goals intro _))
    have hless : ∀ (Hq : AHeap) (l : List Nat) (k : Nat), k < HB.next → ((Hq.less HB.next [22]).less HB.next l).get k = Hq.get k := fun Hq l k hk => by rw [less_get (H := Hq) l _ (fun i _ => by omega), less_get (H := Hq) [22] _ (fun i _ => by omega)]
    refine ⟨?_, ?_, (_, H4), rfl, ?_⟩
    · intro q hq
      have hq' : q = (5, [], [22]) ∨ q = (15, [], [22]) := by simpa using hq
      rcases hq' with rfl | rfl
      · refine ⟨_, _, _, _, nA b, rfl, rfl, rfl, xop_ldE rfl hXH (fun i _ => hBg i) q1, fun j hj => ?_⟩
        have hj' : j = 5 := by simpa using hj
        subst hj'
        exact ⟨_, rfl, xop_ldE rfl hXH (fun i hi => (hless _ _ _ (by have := hLo i hi; omega)).trans (hBg i)) q1⟩
      · refine ⟨_, _, _, _, nA a, rfl, rfl, rfl, xop_ldE rfl hXH (fun i _ => hBg i) q0, fun j hj => ?_⟩
        have hj' : j = 15 := by simpa using hj
        subst hj'
        exact ⟨_, rfl, xop_ldE rfl hXH (fun i hi => (hless _ _ _ (by have := hLo i hi; omega)).trans (hBg i)) q0⟩
    · intro j hj
      have hj' : j = 22 := by simpa using hj
      subst hj'
      refine ⟨_, rfl, rfl, fun i hi => ?_⟩
      have hi' : i = 0 ∨ i = 1 ∨ i = 2 ∨ i = 3 ∨ i = 4 ∨ i = 5 ∨ i = 6 ∨ i = 7 ∨ i = 8 ∨ i = 9 ∨ i = 10 ∨ i = 11 ∨ i = 12 ∨ i = 13 ∨ i = 14 ∨ i = 15 ∨ i = 16 ∨ i = 17 ∨ i = 18 ∨ i = 19 ∨ i = 20 ∨ i = 21 ∨ i = 22 := by omega
      rcases hi' with rfl | rfl | rfl | rfl | rfl | rfl | rfl | rfl | rfl | rfl | rfl | rfl | rfl | rfl | rfl | rfl | rfl | rfl | rfl | rfl | rfl | rfl | rfl <;>
        exact ⟨_, rfl, (hBg _).trans (a5 _ (by omega))⟩
    · dsimp only
      repeat' (first | refine WK.seqC (by assumption) ?_ | intro (_ : CleanTo _ _) | refine WK.skip ?_ | refine WK.ret ?_ | refine WK.exit ?_ | refine WK.block ?_ | (apply WK.reg; (· exact lnn)) | (apply WK.regC; (· rfl); (· exact lnn); (· decide)) | (apply WK.regd0; (· exact lnn)) | refine WKC.nil ?_ | refine WKO.nil ?_ | ((first | apply WKC.op | apply WKO.op | ((first | apply WKC.gop | apply WKO.gop); (· rfl); (· exact dcd))); (· first | exact k_mv rfl | exact opA); (· rfl)) | ((first | apply WKC.gnoT | apply WKO.gnoT | apply WKC.gnoF | apply WKO.gnoF); (· rfl); (· exact dcd)) | ((first | apply WKC.gnu | apply WKO.gnu); (· rfl)) | ((first | apply WKC.gsp | apply WKO.gsp); (· rfl); all_goals ((fail_if_success (refine known ?_ ?_; (· assumption))); intro _)) | ((first | apply WKC.gspB | apply WKO.gspB); (· rfl); all_goals ((fail_if_success (refine known ?_ ?_; (· assumption))); intro _)) | refine pN ?_ | refine pR ?_ | refine pX ?_ | refine bN ?_ | refine bR ?_ | refine bX ?_ | refine bO (by decide) ?_ | (apply WK.condT; (· rfl); (· exact dcd)) | (apply WK.condF; (· rfl); (· exact dcd)) | (apply WK.condD; (· rfl); all_goals intro _) | (apply WK.condN; (· rfl); all_goals intro _) | (apply WK.condB; (· rfl); all_goals intro _))
      rename_i c9
      refine ⟨(i + 1, V'), (.cons rfl <| .cons rfl <| .cons rfl <| .cons rfl <| .cons rfl <| .cons rfl <| .nil _), ⟨hi, ?_, fun j hj => ?_, ⟨by simp only [next_bump]; omega, fun j hj => ?_⟩, c9.1 a5⟩, by dsimp only; omega⟩
      · dsimp only
        rw [List.take_add_one, hp, List.map_append, prsC_app]
        exact RowE.frame (.inl R4) (by simp only [next_bump]; omega) (fun _ _ => rfl)
      · rcases ho4 j hj with h | h
        · exact a3 j h
        · omega
      · show H4.get j = _
        rw [hg4 j (by omega) (fun q => by have := a3 j q; omega), hg3 j (by omega)]
        exact a4.2 j hj
  · have hil : i = l.length := by omega
    subst hil
    rw [List.take_of_length_le (Nat.le_refl _)] at a2
    have hG1 := made_gph hM
    have hlO : (l.map (rotE n y)).length = l.length := by simp
    have hRV : RdR 2 H V (l.map (rotE n y)).length (prsC (l.map (rotE n y))) := by rw [hlO]; exact RdR.of a2
    repeat' (first | refine WK.seqC (by assumption) ?_ | intro (_ : CleanTo _ _) | refine WK.skip ?_ | refine WK.ret ?_ | refine WK.exit ?_ | refine WK.block ?_ | (apply WK.reg; (· exact lnn)) | (apply WK.regC; (· rfl); (· exact lnn); (· decide)) | (apply WK.regd0; (· exact lnn)) | refine WKC.nil ?_ | refine WKO.nil ?_ | ((first | apply WKC.op | apply WKO.op | ((first | apply WKC.gop | apply WKO.gop); (· rfl); (· exact dcd))); (· first | exact k_mv rfl | exact k_lenL rfl hlen | exact opA); (· rfl)) | ((first | apply WKC.gnoT | apply WKO.gnoT | apply WKC.gnoF | apply WKO.gnoF); (· rfl); (· exact dcd)) | ((first | apply WKC.gnu | apply WKO.gnu); (· rfl)) | ((first | apply WKC.gsp | apply WKO.gsp); (· rfl); all_goals ((fail_if_success (refine known ?_ ?_; (· assumption))); intro _)) | ((first | apply WKC.gspB | apply WKO.gspB); (· rfl); all_goals ((fail_if_success (refine known ?_ ?_; (· assumption))); intro _)) | refine pN ?_ | refine pR ?_ | refine pX ?_ | refine bN ?_ | refine bR ?_ | refine bX ?_ | refine bO (by decide) ?_ | (apply WK.condT; (· rfl); (· exact dcd)) | (apply WK.condF; (· rfl); (· exact dcd)) | (apply WK.condD; (· rfl); all_goals intro _) | (apply WK.condN; (· rfl); all_goals intro _) | (apply WK.condB; (· rfl); all_goals intro _))
    rename_i c3 c4
    have hCb : Go.Eng.Clean (H.bump 4) := clean_eqm a5 rfl (by simp only [next_bump]; omega)
    have hX2 : RdR 2 ((H.bump 4).bump 10) L l.length (prsC l) := hX.kp (a4.trans ((Kp.bump 4).trans (Kp.bump 10)))
    refine WKO.callV rfl rfl rfl (g_18 (n := (n : Int)) hX2.zP (clean_eqm hCb rfl (by simp only [next_bump]; omega))) ?_
    rintro _ H5 (⟨hbad, _⟩ | ⟨_, C, cs, best, rfl, hcen, hO, hOo, hk5⟩)
    · rw [hG1.cg] at hbad; cases hbad
    rw [gph_N] at hcen
    repeat' (first | refine WK.seqC (by assumption) ?_ | intro (_ : CleanTo _ _) | refine WK.skip ?_ | refine WK.ret ?_ | refine WK.exit ?_ | refine WK.block ?_ | (apply WK.reg; (· exact lnn)) | (apply WK.regC; (· rfl); (· exact lnn); (· decide)) | (apply WK.regd0; (· exact lnn)) | refine WKC.nil ?_ | refine WKO.nil ?_ | ((first | apply WKC.op | apply WKO.op | ((first | apply WKC.gop | apply WKO.gop); (· rfl); (· exact dcd))); (· first | exact k_mv rfl | exact opA); (· rfl)) | ((first | apply WKC.gnoT | apply WKO.gnoT | apply WKC.gnoF | apply WKO.gnoF); (· rfl); (· exact dcd)) | ((first | apply WKC.gnu | apply WKO.gnu); (· rfl)) | ((first | apply WKC.gsp | apply WKO.gsp); (· rfl); all_goals ((fail_if_success (refine known ?_ ?_; (· assumption))); intro _)) | ((first | apply WKC.gspB | apply WKO.gspB); (· rfl); all_goals ((fail_if_success (refine known ?_ ?_; (· assumption))); intro _)) | refine pN ?_ | refine pR ?_ | refine pX ?_ | refine bN ?_ | refine bR ?_ | refine bX ?_ | refine bO (by decide) ?_ | (apply WK.condT; (· rfl); (· exact dcd)) | (apply WK.condF; (· rfl); (· exact dcd)) | (apply WK.condD; (· rfl); all_goals intro _) | (apply WK.condN; (· rfl); all_goals intro _) | (apply WK.condB; (· rfl); all_goals intro _))
    rename_i c5
    have hC5 : Go.Eng.Clean H5 := c5.1 hCb
    have hV2 : RdR 2 (H5.bump 10) V (l.map (rotE n y)).length (prsC (l.map (rotE n y))) := hRV.kp ((Kp.bump 4).trans ((Kp.bump 10).trans (hk5.trans (Kp.bump 10))))
    refine WKO.callV rfl rfl rfl (g_18 (n := (n : Int)) hV2.zP (clean_eqm hC5 rfl (by simp only [next_bump]; omega))) ?_
    rintro _ H6 (⟨hbad, _⟩ | ⟨_, D, ds, best', rfl, hcen', hO', hOo', hk6⟩)
    · rw [hG2.cg] at hbad; cases hbad
    rw [gph_N] at hcen'
    obtain ⟨rfl, hcl', hbits⟩ := cen_ren hRG hcen hcen'
    have hNl := nearN_len n l
    have hNl' := nearN_len n (l.map (rotE n y))
    have hC6 : ∀ {H' : AHeap}, H'.m = H6.m → H6.next ≤ H'.next → RdR 1 H' C cs.length (cs.map nA) := fun q1 q2 => hO.rd.kp ((Kp.bump 10).trans (hk6.trans (Kp.eqm q1 q2)))
    have hD6 : ∀ {H' : AHeap}, H'.m = H6.m → H6.next ≤ H'.next → RdR 1 H' D ds.length (ds.map nA) := fun q1 q2 => hO'.rd.kp (Kp.eqm q1 q2)
    have hrc := cen_ris hcen
    have hrd := cen_ris hcen'
    rw [hNl] at hrc
    rw [hNl'] at hrd
    have hlc := cen_len hcen
    have hld := cen_len hcen'
    have hltc := cen_lt hcen
    have hltd := cen_lt hcen'
    rw [hNl] at hlc hltc
    rw [hNl'] at hld hltd
    have hlenC := hO.rd.len
    have hlenD := hO'.rd.len
    repeat' (first | refine WK.seqC (by assumption) ?_ | intro (_ : CleanTo _ _) | refine WK.skip ?_ | refine WK.ret ?_ | refine WK.exit ?_ | refine WK.block ?_ | (apply WK.reg; (· exact lnn)) | (apply WK.regC; (· rfl); (· exact lnn); (· decide)) | (apply WK.regd0; (· exact lnn)) | refine WKC.nil ?_ | refine WKO.nil ?_ | ((first | apply WKC.op | apply WKO.op | ((first | apply WKC.gop | apply WKO.gop); (· rfl); (· exact dcd))); (· first | exact k_mv rfl | exact k_lenL rfl hlenC | exact k_lenL rfl hlenD | exact k_call rfl rfl (g_24 (cellsA_rd (hC6 rfl (by simp only [next_bump]; omega))) hn1 (by omega) (by omega)) | exact k_call rfl rfl (g_24 (cellsA_rd (hD6 rfl (by simp only [next_bump]; omega))) hn1 (by omega) (by omega)) | exact k_call rfl rfl g_17 | exact opA); (· rfl)) | ((first | apply WKC.gnoT | apply WKO.gnoT | apply WKC.gnoF | apply WKO.gnoF); (· rfl); (· exact dcd)) | ((first | apply WKC.gnu | apply WKO.gnu); (· rfl)) | ((first | apply WKC.gsp | apply WKO.gsp); (· rfl); all_goals ((fail_if_success (refine known ?_ ?_; (· assumption))); intro _)) | ((first | apply WKC.gspB | apply WKO.gspB); (· rfl); all_goals ((fail_if_success (refine known ?_ ?_; (· assumption))); intro _)) | refine pN ?_ | refine pR ?_ | refine pX ?_ | refine bN ?_ | refine bR ?_ | refine bX ?_ | refine bO (by decide) ?_ | (apply WK.condT; (· rfl); (· exact dcd)) | (apply WK.condF; (· rfl); (· exact dcd)) | (apply WK.condD; (· rfl); all_goals intro _) | (apply WK.condN; (· rfl); all_goals intro _) | (apply WK.condB; (· rfl); all_goals intro _))
    have hfl : ∀ i, ((cs.map fun i => (i + y) % n).take i).foldl (fun a v => a ||| 2 ^ v) 0 < 1048576 := fun i => bitsN_lt (n := 20) _ 0 (by omega) fun v hv => by
      obtain ⟨j, _, rfl⟩ := List.mem_map.1 (List.mem_of_mem_take hv)
      have := Nat.mod_lt (j + y) (by omega : n > 0)
      omega
    refine WK.loop (α := Nat) (fun i => [(1, bA y), (5, nA n), (9, C), (12, D), (15, nA (((cs.map fun i => (i + y) % n).take i).foldl (fun a v => a ||| 2 ^ v) 0)), (16, nA i)]) (fun i H => i ≤ cs.length ∧ H.m = H6.m ∧ H6.next ≤ H.next) (fun i => cs.length - i) 0 (.cons rfl <| .cons rfl <| .cons rfl <| .cons rfl <| .cons rfl <| .cons rfl <| .nil _) ⟨Nat.zero_le _, rfl, by simp only [next_bump]; omega⟩ (by omega) ?_
    rintro i H' ⟨b1, b2, b3⟩
    by_cases hi : i < cs.length
    · have hci : cs.getD i 0 < n := by
        rw [List.getD_eq_getElem?_getD, List.getElem?_eq_getElem hi]
        exact hltc _ (List.getElem_mem hi)
      have hmi := Nat.mod_lt (cs.getD i 0 + y) (by omega : n > 0)
      have hRi := hC6 b2 b3
      have hpow : 2 ^ ((cs.getD i 0 + y) % n) < 1048576 := (Nat.pow_lt_pow_right (a := 2) (by omega) (by omega) : _ < 2 ^ 20)
      repeat' (first | refine WK.seq ?_ | refine WK.skip ?_ | refine WK.ret ?_ | refine WK.exit ?_ | refine WK.block ?_ | (apply WK.reg; (· exact lnn)) | (apply WK.regC; (· rfl); (· exact lnn); (· decide)) | (apply WK.regd0; (· exact lnn)) | refine WKC.nil ?_ | refine WKO.nil ?_ | ((first | apply WKC.op | apply WKO.op | ((first | apply WKC.gop | apply WKO.gop); (· rfl); (· exact dcd))); (· first | exact k_mv rfl | exact k_lenL rfl hlenC | exact k_iaE rfl rfl hRi hi | (apply k_ldY; (· rfl); (· exact hRi); (· exact fun _ _ => rfl); (· rw [Nat.mul_one]; exact map_at hi)) | exact k_conv8 rfl hy | exact k_shl1 rfl rfl (by omega) | exact k_orN rfl rfl (hfl i) hpow | exact opA); (· rfl)) | ((first | apply WKC.gnoT | apply WKO.gnoT | apply WKC.gnoF | apply WKO.gnoF); (· rfl); (· exact dcd)) | ((first | apply WKC.gnu | apply WKO.gnu); (· rfl)) | ((first | apply WKC.gsp | apply WKO.gsp); (· rfl); all_goals ((fail_if_success (refine known ?_ ?_; (· assumption))); intro _)) | ((first | apply WKC.gspB | apply WKO.gspB); (· rfl); all_goals ((fail_if_success (refine known ?_ ?_; (· assumption))); intro _)) | refine pN ?_ | refine pR ?_ | refine pX ?_ | refine bN ?_ | refine bR ?_ | refine bX ?_ | refine bO (by decide) ?_ | (apply WK.condT; (· rfl); (· exact dcd)) | (apply WK.condF; (· rfl); (· exact dcd)) | (apply WK.condD; (· rfl); all_goals intro _) | (apply WK.condN; (· rfl); all_goals intro _) | (apply WK.condB; (· rfl); all_goals intro _))
      have e : ((cs.map fun i => (i + y) % n).take (i + 1)).foldl (fun a v => a ||| 2 ^ v) 0 = ((cs.map fun i => (i + y) % n).take i).foldl (fun a v => a ||| 2 ^ v) 0 ||| 2 ^ ((cs.getD i 0 + y) % n) := by
        rw [List.take_add_one, List.getElem?_map, List.getD_eq_getElem?_getD, List.getElem?_eq_getElem hi, List.foldl_append]
        rfl
      exact ⟨i + 1, (.cons rfl <| .cons rfl <| .cons rfl <| .cons rfl <| .cons (by rw [e]; rfl) <| .cons rfl <| .nil _), ⟨hi, b2, by simp only [next_bump]; omega⟩, by omega⟩
    · have hfin : ((cs.map fun i => (i + y) % n).take i).foldl (fun a v => a ||| 2 ^ v) 0 = bitsN ds := by
        rw [List.take_of_length_le (by simp; omega)]
        exact hbits
      rw [hfin]
      repeat' (first | refine WK.seqC (by assumption) ?_ | intro (_ : CleanTo _ _) | refine WK.skip ?_ | refine WK.ret ?_ | refine WK.exit ?_ | refine WK.block ?_ | (apply WK.reg; (· exact lnn)) | (apply WK.regC; (· rfl); (· exact lnn); (· decide)) | (apply WK.regd0; (· exact lnn)) | refine WKC.nil ?_ | refine WKO.nil ?_ | ((first | apply WKC.op | apply WKO.op | ((first | apply WKC.gop | apply WKO.gop); (· rfl); (· exact dcd))); (· first | exact k_mv rfl | exact k_lenL rfl hlenC | exact k_call rfl rfl (g_25 (cellsA_rd (hD6 b2 (by simp only [next_bump]; omega))) (by omega) (fun v hv => by have := hltd v hv; omega)) | exact opA); (· rfl)) | ((first | apply WKC.gnoT | apply WKO.gnoT | apply WKC.gnoF | apply WKO.gnoF); (· rfl); (· exact dcd)) | ((first | apply WKC.gnu | apply WKO.gnu); (· rfl)) | ((first | apply WKC.gsp | apply WKO.gsp); (· rfl); all_goals ((fail_if_success (refine known ?_ ?_; (· assumption))); intro _)) | ((first | apply WKC.gspB | apply WKO.gspB); (· rfl); all_goals ((fail_if_success (refine known ?_ ?_; (· assumption))); intro _)) | refine pN ?_ | refine pR ?_ | refine pX ?_ | refine bN ?_ | refine bR ?_ | refine bX ?_ | refine bO (by decide) ?_ | (apply WK.condT; (· rfl); (· exact dcd)) | (apply WK.condF; (· rfl); (· exact dcd)) | (apply WK.condD; (· rfl); all_goals intro _) | (apply WK.condN; (· rfl); all_goals intro _) | (apply WK.condB; (· rfl); all_goals intro _))
      refine ⟨nofun, _, rfl, ?_, trivial⟩
      show AV.bool _ = _
      rw [decide_eq_true rfl]
end Go.Proofs.Ytpbighinamljbaa.PA
/- The input of the news laws, as it is read. No condition. -/
set_option linter.unusedSimpArgs false
set_option linter.unusedVariables false
namespace Go.Proofs.Ytpbighinamljbaa.PA
open Go Go.Eng Go.Proofs Go.RowKit Go.ChangeShapes Go.Deep
instance : Inhabited (Nat × Nat) := ⟨(0, 0)⟩
theorem u8_nat {n : Int} (h : (Lit.int .u8 n).wf = true) : ∃ m : Nat, n = (m : Int) ∧ m < 256 := by
  simp [Lit.wf, IntKind.min, IntKind.max, IntKind.signed, IntKind.bits] at h
  exact ⟨n.toNat, by omega, by omega⟩
theorem relL_arr {E : Env} {w : World} : ∀ x : Prs, AVRelL E w (arrC x) (x.flatMap fun p => [Value.int .u8 (p.1 : Int), Value.int .u8 (p.2 : Int)])
  | [] => by simp [arrC, AVRelL]
  | p :: x => by
    have := relL_arr (E := E) (w := w) x
    simp only [arrC, List.flatMap_cons, List.cons_append, List.nil_append, AVRelL, AVRel] at this ⊢
    exact ⟨_, _, rfl, rfl, _, _, rfl, rfl, this⟩
theorem arr_vals : ∀ (x : Prs) (j : Nat) (u : Value), (x.flatMap fun p => [Value.int .u8 (p.1 : Int), Value.int .u8 (p.2 : Int)])[j]? = some u →
    ∃ i p, x[i]? = some p ∧ ((j = i * 2 ∧ u = .int .u8 (p.1 : Int)) ∨ (j = i * 2 + 1 ∧ u = .int .u8 (p.2 : Int)))
  | [], j, u, h => by simp at h
  | p :: x, 0, u, h => by simp at h; exact ⟨0, p, rfl, .inl ⟨rfl, h.symm⟩⟩
  | p :: x, 1, u, h => by simp at h; exact ⟨0, p, rfl, .inr ⟨rfl, h.symm⟩⟩
  | p :: x, j + 2, u, h => by
    have h' : (x.flatMap fun p => [Value.int .u8 (p.1 : Int), Value.int .u8 (p.2 : Int)])[j]? = some u := by simpa using h
    obtain ⟨i, q, h1, h2⟩ := arr_vals x j u h'
    refine ⟨i + 1, q, by simpa using h1, ?_⟩
    rcases h2 with ⟨rfl, h2⟩ | ⟨rfl, h2⟩
    · exact .inl ⟨by omega, h2⟩
    · exact .inr ⟨by omega, h2⟩
section
variable {H : Type} {enc : TypeId × Value → H} {P : Program} {w : World} {base : Nat} {held : Bool}
/-- One pair, opened. -/
theorem open_arr2 {spare : Nat → Bool} {t e : TypeId} {fuel : Nat} {cs : List Value} {x : DataW H × List MemPlace} (ht : P.underlying t = some (.array 2 e)) (he : P.underlying e = some (.int .u8)) (ct : P.cellsOf t = 2) (ce : P.cellsOf e = 1)
    (h : DataW.trod enc P w base spare held fuel t cs = some x) : ∃ p : Nat × Nat, cs = [.int .u8 (p.1 : Int), .int .u8 (p.2 : Int)] ∧ p.1 < 256 ∧ p.2 < 256 := by
  obtain ⟨xs, m, _, _, hlen, hl, hel⟩ := DataW.trod_array ht h
  rw [ct] at hlen
  have h0 := hel 0 (by omega)
  have h1 := hel 1 (by omega)
  rw [List.getElem?_eq_getElem (by omega)] at h0 h1
  rw [ce] at h0 h1
  obtain ⟨n0, e0, _, w0⟩ := DataW.trod_int he h0
  obtain ⟨n1, e1, _, w1⟩ := DataW.trod_int he h1
  match cs, hlen with
  | [a, b], _ =>
    simp at e0 e1
    obtain ⟨m0, rfl, l0⟩ := u8_nat w0
    obtain ⟨m1, rfl, l1⟩ := u8_nat w1
    exact ⟨(m0, m1), by rw [e0, e1], l0, l1⟩
/-- The input, read. -/
theorem read_input {t te e : TypeId} {v : Value} {d : DataW H} {ps : List MemPlace} (ht : P.underlying t = some (.slice te)) (hte : P.underlying te = some (.array 2 e)) (he : P.underlying e = some (.int .u8)) (ct : P.cellsOf te = 2) (ce : P.cellsOf e = 1)
    {a0 : Option Addr} {len cap : Nat} (hv : v = .slice a0 len cap) (h : DataW.Trod enc P w base (fun _ => true) held t v d ps) :
    ∃ x : Prs, (∀ p ∈ x, p.1 < 256 ∧ p.2 < 256) ∧ AVRel (E0 w) w (.imm (arrC x) x.length false) v := by
  subst hv
  obtain ⟨fuel, hf⟩ := h
  have hf' : DataW.trod enc P w base (fun _ => true) held fuel t [.slice a0 len cap] = some (d, ps) := hf
  rcases open_slice ht hf' with ⟨h0, _⟩ | ⟨a, len', cap', m, n, D, Pl, h0, hb, hl, hm, hmm, _, hx⟩
  · cases h0
    refine ⟨[], by simp, ?_⟩
    simp only [AVRel]
    exact .inl ⟨rfl, rfl, none, 0, rfl, by simp⟩
  · cases h0
    by_cases hz : len = 0
    · subst hz
      refine ⟨[], by simp, ?_⟩
      simp only [AVRel]
      exact .inl ⟨rfl, rfl, some a, cap, rfl, by simp⟩
    · have hmc : m = cap := by simpa using hmm
      obtain ⟨f, hfn⟩ := choose_lt (n := len) (p := fun i p => w.cell? (a.add (i * 2)) = some (.int .u8 ((p : Nat × Nat).1 : Int)) ∧ w.cell? (a.add (i * 2 + 1)) = some (.int .u8 (p.2 : Int)) ∧ p.1 < 256 ∧ p.2 < 256) (fun i hi => by
        obtain ⟨cs', h1, h2⟩ := hx i (by omega)
        obtain ⟨p, rfl, q1, q2⟩ := open_arr2 hte he ct ce h2
        rw [ct] at h1
        obtain ⟨_, _, hcell⟩ := World.cells?_some h1
        have e0 := hcell 0 (by omega)
        have e1 := hcell 1 (by omega)
        rw [add_add] at e0 e1
        exact ⟨p, by simpa using e0, by simpa using e1, q1, q2⟩)
      have hs : a.spot = none := by
        have h0 := (hfn 0 (by omega)).1
        rw [Nat.zero_mul] at h0
        have h0' : w.cell? a = some (.int .u8 ((f 0).1 : Int)) := by simpa [Addr.add] using h0
        unfold World.cell? at h0'
        split at h0'
        · split at h0'
          · cases h0'
          · rename_i q
            simpa using q
        · cases h0'
      obtain ⟨b, s, sp⟩ := a
      simp only at hs
      subst hs
      have hadd : ∀ j, (⟨b, s, none⟩ : Addr).add j = ⟨b, s + j, none⟩ := fun j => by
        unfold Addr.add
        split
        · rename_i q; subst q; rfl
        · rfl
      refine ⟨(List.range len).map f, fun p hp => ?_, ?_⟩
      · simp only [List.mem_map, List.mem_range] at hp
        obtain ⟨i, hi, rfl⟩ := hp
        exact (hfn i hi).2.2
      · simp only [AVRel, List.length_map, List.length_range]
        refine .inr ⟨b, s, cap, _, rfl, ?_, fun j u hu => ?_, relL_arr _, hl, by simp⟩
        · have h0 := (hfn 0 (by omega)).1
          rw [hadd] at h0
          exact World.block_lt_of_cell? _ _ h0
        · obtain ⟨i, p, h1, h2⟩ := arr_vals _ _ _ hu
          rw [List.getElem?_map, Option.map_eq_some_iff] at h1
          obtain ⟨i', h1, rfl⟩ := h1
          have hi' : i < len := by
            rcases Nat.lt_or_ge i len with q | q
            · exact q
            · rw [List.getElem?_eq_none (by simpa using q)] at h1; cases h1
          rw [List.getElem?_range hi'] at h1
          cases h1
          rcases h2 with ⟨rfl, rfl⟩ | ⟨rfl, rfl⟩
          · rw [← hadd]; exact (hfn i hi').1
          · rw [← hadd]; exact (hfn i hi').2.1
end
end Go.Proofs.Ytpbighinamljbaa.PA
namespace Go.Proofs.Ytpbighinamljbaa.newsRenamed
open Go Go.ChangeShapes Go.WideShapes Go.ChangeAt Go.RowKit Go.Eng
set_option linter.unusedVariables false
theorem own : ownKnob Try.prog.godebug = none := by kernel_rfl
theorem laidOut : laidOutB Try.prog = true := by kernel_rfl
theorem call (w : World) (y : Nat) (x : PA.Prs) (v : Value) (hy : y < 256) (hx : ∀ p ∈ x, p.1 < 256 ∧ p.2 < 256) (hv : AVRel (E0 w) w (.imm (PA.arrC x) x.length false) v) :
    Calls Try.prog 7 #[v, .int .u8 (y : Int)] w fun e w' => e = .returned (.bool true) ∧ Below w.heap.size w w' := by
  obtain ⟨u, H', h1, rfl, _⟩ := PA.x7 (k := 0) (fuel := 2000) (H0 := ⟨.e, 0⟩) hx hy (fun _ _ => rfl) (by omega)
  have h2 : PA.cfG 16 7 [.imm (PA.arrC x) x.length false, .int .u8 (y : Int)] ⟨.e, 0⟩ = some (.bool true, H') := (PA.cfG_step rfl rfl).trans h1
  have h3 := (PA.cfG_ok 16 _ _ _ _ _ h2).2 (E0 w) w [v, .int .u8 (y : Int)] (rel0 w) (by
    simp only [AVRelL]
    exact ⟨_, _, rfl, hv, _, _, rfl, by simp only [AVRel], rfl⟩)
  refine h3.mono fun e w' ⟨u, E', he, hs, hr⟩ => ?_
  simp only [AVRel] at hr
  subst hr
  exact ⟨he, below0 hs⟩
set_option maxRecDepth 100000 in
theorem lifted (os : Os) (started : os.Started) (H : Type) (enc : TypeId × Value → H) :
    ReturnsInHanded {} Try.checked os 7 .any (Rows.newsRenamedSpec.pre6 enc Try.prog Try.f7 Rows.newsRenamedRow.domain false) (Rows.newsRenamedSpec.post enc Try.prog Try.f7 false true false false) := by
  refine returnsInHanded_of_change (C := Try.checked) own started (by kernel_rfl) Try.func7
    (ChangeSpec.witness6 (enc := enc) (C := Try.checked) false ⟨#[], #[.slice none 0 0, .int .u8 0], []⟩ 8 (by kernel_rfl) (by kernel_rfl) (by kernel_rfl) (by kernel_rfl)) ?_
  intro W base args ds gs before hval0 hW hcnd _
  have hval : ∀ (j : Nat) t v, Try.f7.params[j]? = some t → args[j]? = some v → Value.okWide Try.prog W .any base t v := hval0
  have hW' := hW
  obtain ⟨p, q, hA0, hV, rfl, hfz, hnd⟩ := hW
  have hA : DataW.TrodAll enc Try.prog W 0 (fun _ => true) true Try.f7.params.toList args.toList ds p := hA0
  rw [Try.params7] at hA hval
  obtain ⟨v0, v1, d0, d1, p0, p1, rfl, rfl, rfl, h0, h1⟩ := trodAll_two hA
  obtain ⟨rfl, rfl⟩ := trodVars_none hV
  obtain ⟨a0, len, cap, hv0⟩ := okWide_slice Try.underlying36 (hval 0 36 v0 rfl rfl)
  obtain ⟨x, hx, hrel⟩ := PA.read_input Try.underlying36 Try.underlying74 Try.underlying5 (by kernel_rfl) (by kernel_rfl) hv0 h0
  obtain ⟨n, rfl, rfl, rfl, wn⟩ := open_int Try.underlying5 (hval 1 5 v1 rfl rfl) h1
  obtain ⟨n, rfl, hn⟩ := PA.u8_nat wn
  clear hA0 hval0
  refine (call W n x v0 hn hx hrel).mono fun e W' ⟨he, bel⟩ => ?_
  subst he
  have hlt : ∀ x ∈ p0, x.block < W.heap.size := fun x hx => by simpa using hW'.lt x (by simp [hx])
  exact ⟨_, rfl, _, _, _, [], _, [], hW', trodAll_mk1 (shut_bool Try.underlying4 _), trodAll_mk2 (Below.trod laidOut (by kernel_rfl) (of_decide_eq_true (by kernel_rfl)) h0 bel hlt) (shut_int Try.underlying5 wn), rfl, bel.frame _, fun h => by cases h⟩
end Go.Proofs.Ytpbighinamljbaa.newsRenamed
namespace Go.Proofs.Ytpbighinamljbaa
open Go
/-- The row of NewsRenamed. -/
theorem newsRenamed_holds : Rows.NewsRenamedSaid :=
  OpenClaim.holds_of_wide 7 Try.f7 rfl rfl rfl rfl rfl rfl rfl ⟨rfl, rfl, rfl, rfl, rfl⟩ rfl rfl rfl rfl rfl (by kernel_rfl) Try.func7 (by kernel_rfl)
    (of_decide_eq_true (by kernel_rfl)) (by unfold Func.isWrapper; first | (rw [if_pos (by decide +kernel)]; kernel_rfl) | (rw [if_neg (by decide +kernel)]; exact ⟨rfl, rfl⟩))
    (fun os started H enc _ => newsRenamed.lifted os started H enc)
#print axioms newsRenamed_holds
end Go.Proofs.Ytpbighinamljbaa
