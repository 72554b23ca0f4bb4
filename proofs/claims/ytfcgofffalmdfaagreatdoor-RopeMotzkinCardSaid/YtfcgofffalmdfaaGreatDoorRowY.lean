/- RopeSizes and RopeMotzkin: Sizes sum to All, the last one is Best, which is above 0, the first one is 1, and there is one for each size up to Most; if all letters may be paired and the gap is 0, Sizes of k is the binomial coefficient of the length and 2k times the k-th Catalan number. No condition. -/
import Derived.Test.YtfcgofffalmdfaaGreatDoorJE
import Derived.Test.YtfcgofffalmdfaaGreatDoorJB
import Derived.Test.YtfcgofffalmdfaaGreatDoorJC
import Derived.Test.YtfcgofffalmdfaaGreatDoorJD
import Derived.ProofKit
import Derived.OpenShut
import Derived.Deep.Slices
import Derived.Deep.SlicePairs
import Derived.Deep.Fields
import Derived.Test.YtfcgofffalmdfaaGreatDoorRows
import Derived.Test.YtfcgofffalmdfaaGreatDoorCards
import Derived.Test.YtfcgofffalmdfaaGreatDoorTie
import Derived.LaidMore
import Derived.Lay
import Derived.SevenTiedAt
import Derived.Stop.Joined
import Derived.SizedLaws
import Derived.Carry
import Derived.Lib.SmallJoins
import Derived.ChangeSame
set_option linter.unusedSectionVars false
set_option linter.unusedVariables false
set_option linter.unusedSimpArgs false
namespace Go.Proofs.YtfcgofffalmdfaaGreatDoor.PA
open Go Go.Eng Go.Proofs
def cmpI (m n : Nat) : Int := if m < n then -1 else if m = n then 0 else 1
abbrev negZ (n : Nat) : AV := .agg [.bool (decide ((dz n).length > 0)), rowZ (dz n)]
abbrev qN (n : Nat) : AV := .agg [.bool false, rowZ (dz n), .bool false, rowZ (dz 1)]
abbrev fN (n d : Nat) : AV := .agg [.bool false, rowZ (dz n), .bool false, rowZ (dz d)]
def qC (l : List Nat) : List AV := (l.map fun n => [AV.bool false, rowZ (dz n), .bool false, rowZ (dz 1)]).flatten
def rowQ (l : List Nat) : AV := .imm (qC l) l.length false
def BestV (s : List UInt8) (l : List (Int × Int)) (gap : Int) : List UInt8 × Int := if readE s l gap = 0 then (decS ((szF s (rulesOf l) gap 0 s.length).getD (mostF s (rulesOf l) gap 0 s.length) 0), 0) else ([], readE s l gap)
def SZ (f : Nat) (args : List AV) (v : AV) : Prop := match f with
  | 83 => ∀ d, args = [.agg [.bool false, rowZ d]] → v = zN (valZ d)
  | 103 => ∀ a b, args = [rowZ a, rowZ b] → ∃ o, v = rowZ o ∧ digZ o ∧ valZ o = valZ a + valZ b ∧ o.length < 2000
  | 85 => ∀ a b, args = [rowZ a, rowZ b] → ∃ o, v = rowZ o ∧ digZ o ∧ valZ o = valZ a - valZ b ∧ o.length < 2000
  | 82 => ∀ m n, args = [rowZ (dz m), rowZ (dz n)] → v = zA (cmpI m n)
  | 108 => ∀ n, args = [zN n] → v = negZ n
  | 66 => (∀ m n, args = [zN m, zN n] → v = zN (m + n)) ∧ (∀ m n, 0 < n → args = [zN m, negZ n] → v = zN (m - n))
  | 86 => ∀ m n, args = [zN m, zN n] → v = zN (m - n)
  | 72 => ∀ m n, args = [zN m, zN n] → v = zN (m * n)
  | 52 => ∀ n, args = [nA n] → v = zN n
  | 109 => ∀ n, args = [zN n] → v = nA (min n 1)
  | 71 => ∀ m n, args = [zN m, zN n] → v = nA (min (m - n) 1)
  | 107 => ∀ n, args = [.str (decS n)] → v = .tup [zN n, .bool true]
  | 70 => ∀ n, args = [.str (decS n)] → v = .tup [qN n, .bool true]
  | 28 => ∀ m n, args = [qN m, qN n] → v = nA (min (m - n) 1)
  | 30 => ∀ m n p q, args = [fN m n, fN p q] → v = fN (m * p) (n * q)
  | 84 => ∀ m n, args = [rowZ (dz m), nA n] → v = rowZ (dz (m * n))
  | 45 => ∀ m n, args = [zN m, zN n] → v = .tup [zN (m / n), zN (m % n)]
  | 88 => ∀ n, args = [zN n] → v = zN n
  | 73 => ∀ m n, args = [zN m, zN n] → v = zN (Nat.gcd m n)
  | 33 => ∀ m n, args = [fN m n] → v = fN (m / Nat.gcd m n) (n / Nat.gcd m n)
  | 40 => ∀ m n, args = [qN m, qN n] → v = qN (m + n)
  | 32 => ∀ n, args = [nA n] → v = qN n
  | 22 => ∀ n, args = [zN n] → v = qN n
  | 74 => ∀ m n, args = [zN m, zN n] → v = fN m n
  | 34 => ∀ m n, args = [nA m, nA n] → v = fN (m / Nat.gcd m n) (n / Nat.gcd m n)
  | 87 => ∀ n, args = [zN n] → v = .str (decS n)
  | 46 => ∀ n, args = [qN n] → v = .tup [.str (decS n), .bool true]
  | 21 => ∀ s n, args = [.str s, qN n] → v = .bool (decide (s = decS n))
  | 35 => ∀ s l gap, args = [.str s, pairsI l, .int .i64 gap] → v = .tup [.str (BestV s l gap).1, .int .i64 (BestV s l gap).2]
  | 39 => ∀ l, args = [strI l] → v = .int .i64 0
  | 38 => ∀ l m, args = [strI l, rowQ m] → v = .bool (decide (l = m))
  | 27 => ∀ n, args = [.str (decS n)] → v = .bool true
  | 29 => ∀ n, args = [.str (decS n)] → v = qN n
  | _ => False
open Classical in
noncomputable def KE : CF := fun f args H => if h : ∃ v, CallOK Tryz.prog f args H v H ∧ SZ f args v then some (h.choose, H) else none
theorem KE_ok : CFok Tryz.prog KE := by
  intro f args H v H' h
  unfold KE at h
  split at h
  · rename_i q
    cases h
    exact q.choose_spec.1
  · cases h
theorem KE_hit {f : Nat} {args : List AV} {H : AHeap} {v : AV} (h : CallOK Tryz.prog f args H v H) (hs : SZ f args v) : ∃ v', KE f args H = some (v', H) ∧ SZ f args v' := by
  have q : ∃ v, CallOK Tryz.prog f args H v H ∧ SZ f args v := ⟨v, h, hs⟩
  exact ⟨_, (by unfold KE; rw [dif_pos q]), q.choose_spec.2⟩
attribute [irreducible] KE
theorem zN_inj {m n : Nat} (h : zN m = zN n) : m = n := by
  simp only [zN, AV.agg.injEq, List.cons.injEq, true_and, and_true] at h
  exact dz_inj (rowZ_inj h)
theorem E83 {d : List Nat} (hd : digZ d) (hl : d.length < 2000) (H : AHeap) : KE 83 [.agg [.bool false, rowZ d]] H = some (zN (valZ d), H) := by
  obtain ⟨v, h1, h2⟩ := KE_hit (lean_call hd hl H) (fun d' e => by
    simp only [List.cons.injEq, AV.agg.injEq, true_and, and_true] at e
    rw [rowZ_inj e])
  rw [h1, h2 d rfl]
theorem frozZ2 (a b : List Nat) : AV.frozL [rowZ a, rowZ b] = true := by simp only [AV.frozL, rowZ_froz, Bool.and_self]
theorem E103 {a b : List Nat} (ha : digZ a) (hb : digZ b) (hla : a.length < 900) (hlb : b.length < 900) (H : AHeap) : ∃ o, KE 103 [rowZ a, rowZ b] H = some (rowZ o, H) ∧ digZ o ∧ valZ o = valZ a + valZ b ∧ o.length < 2000 := by
  obtain ⟨v, H', h, o, h1, h2, h3, h4⟩ := plusZ_ok (cf := xcallK Kno F 2000 0) (fuel := 2000) (H := ⟨.e, 0⟩) ha hb (by omega) (by omega) (by omega)
  have hc := (xcallK_sound mixed Kno_ok F_ok 2000 1 103 _ _ _ _ ((cfstep rfl rfl).trans h)).pure (H := H) (frozZ2 a b) (rowZ_fz h1 (fun i _ => get_e0 i))
  obtain ⟨v', q1, q2⟩ := KE_hit hc (fun a' b' e => by
    simp only [List.cons.injEq, and_true] at e
    rw [← rowZ_inj e.1, ← rowZ_inj e.2]
    exact ⟨o, rfl, h2, h3, h4⟩)
  obtain ⟨o', rfl, r1, r2, r3⟩ := q2 a b rfl
  exact ⟨o', q1, r1, r2, r3⟩
theorem E85 {a b : List Nat} (ha : digZ a) (hb : digZ b) (hla : a.length < 900) (hlb : b.length ≤ a.length) (hv : valZ b ≤ valZ a) (H : AHeap) : ∃ o, KE 85 [rowZ a, rowZ b] H = some (rowZ o, H) ∧ digZ o ∧ valZ o = valZ a - valZ b ∧ o.length < 2000 := by
  obtain ⟨v, H', h, o, h1, h2, h3, h4⟩ := lessZ_ok (cf := xcallK Kno F 2000 0) (fuel := 2000) (H := ⟨.e, 0⟩) ha hb (by omega) hlb hv (by omega)
  have hc := (xcallK_sound mixed Kno_ok F_ok 2000 1 85 _ _ _ _ ((cfstep rfl rfl).trans h)).pure (H := H) (frozZ2 a b) (rowZ_fz h1 (fun i _ => get_e0 i))
  obtain ⟨v', q1, q2⟩ := KE_hit hc (fun a' b' e => by
    simp only [List.cons.injEq, and_true] at e
    rw [← rowZ_inj e.1, ← rowZ_inj e.2]
    exact ⟨o, rfl, h2, h3, h4⟩)
  obtain ⟨o', rfl, r1, r2, r3⟩ := q2 a b rfl
  exact ⟨o', q1, r1, r2, r3⟩
end Go.Proofs.YtfcgofffalmdfaaGreatDoor.PA
namespace Go.Proofs.YtfcgofffalmdfaaGreatDoor.PA
open Go Go.Eng Go.Proofs
set_option maxHeartbeats 2000000 in
theorem sizesZ_ok {cf : CF} {fuel : Nat} {H : AHeap} {m n : Nat} (hm : (dz m).length < 1000) (hn : (dz n).length < 1000) (hf : 1100 < fuel) : ∃ v H', xfunc cf fuel L82 [rowZ (dz m), rowZ (dz n)] H = some (v, H') ∧ v = zA (cmpI m n) := by
  refine xfunc_ofK rfl (by show 2 ≤ 41; omega) ?_
  unfold L82
  dsimp only
  have hd1 := digZ_dz m
  have hd2 := digZ_dz n
  have hlt : (dz m).length < (dz n).length → cmpI m n = -1 := fun h => by unfold cmpI; rw [if_pos (dz_len_lt h)]
  have hgt : (dz n).length < (dz m).length → cmpI m n = 1 := fun h => by
    have := dz_len_lt h
    unfold cmpI
    rw [if_neg (by omega), if_neg (by omega)]
  repeat' (first | refine WK.seq ?_ | refine WK.skip ?_ | refine WK.ret ?_ | refine WK.block ?_ | (apply WK.reg; (· exact lnn)) | refine WKO.nil ?_ | ((first | apply WKO.op); (· first | exact k_mv rfl | exact k_lenZ rfl | exact k_subM rfl (by omega) | exact opA); (· rfl)) | refine pN ?_ | refine pR ?_ | (apply WK.condD; (· rfl); all_goals intro _) | fail)
  · exact ⟨fun id q => (by cases q), _, rfl, by rw [hlt (by omega)]; rfl⟩
  · exact ⟨fun id q => (by cases q), _, rfl, by rw [hgt (by omega)]; rfl⟩
  · have hl : (dz m).length = (dz n).length := by omega
    refine WK.loop (α := Nat) (fun i => [(0, rowZ (dz m)), (1, rowZ (dz n)), (5, zA ((i : Int) - 1))]) (fun i H' => i ≤ (dz m).length ∧ (dz m).drop i = (dz n).drop i) (fun i => i) (dz m).length (.cons rfl <| .cons rfl <| .cons rfl <| .nil _) ⟨Nat.le_refl _, by rw [List.drop_eq_nil_of_le (by omega), List.drop_eq_nil_of_le (by omega)]⟩ (by show (dz m).length < fuel; omega) ?_
    rintro i H3 ⟨hi, hdr⟩
    cases i with
    | zero =>
      repeat' (first | refine WK.seq ?_ | refine WK.ret ?_ | refine WK.exit ?_ | (apply WK.reg; (· exact lnn)) | refine WKO.nil ?_ | ((first | apply WKO.op); (· first | exact k_mv rfl | exact k_geqM rfl); (· rfl)) | refine pN ?_ | refine pX ?_ | refine bX ?_ | (apply WK.condF; (· rfl); (· exact dcd)) | fail)
      rw [List.drop_zero, List.drop_zero] at hdr
      exact ⟨fun id q => (by cases q), _, rfl, by rw [dz_inj hdr]; unfold cmpI; rw [if_neg (by omega), if_pos rfl]; rfl⟩
    | succ k =>
      rw [zA_nat]
      repeat' (first | refine WK.seq ?_ | refine WK.skip ?_ | refine WK.ret ?_ | refine WK.block ?_ | (apply WK.reg; (· exact lnn)) | (apply WK.regC; (· rfl); (· exact lnn); (· decide)) | refine WKC.nil ?_ | refine WKO.nil ?_ | ((first | apply WKC.op | apply WKO.op); (· first | exact k_mv rfl | exact k_geqT rfl | exact k_iaZ rfl rfl (by omega) | exact k_ldZ rfl (by omega) | exact k_subM rfl (by omega) | exact opA); (· rfl)) | refine pN ?_ | refine pR ?_ | refine bN ?_ | refine bR ?_ | (apply WK.condT; (· rfl); (· exact dcd)) | (apply WK.condD; (· rfl); all_goals intro _) | fail)
      · have := cmpZ_lt hd1 (by omega) hl hdr (by assumption)
        rw [valZ_dz, valZ_dz] at this
        exact ⟨fun id q => (by cases q), _, rfl, by unfold cmpI; rw [if_pos this]; rfl⟩
      · have := cmpZ_lt hd2 (by omega) hl.symm hdr.symm (by assumption)
        rw [valZ_dz, valZ_dz] at this
        exact ⟨fun id q => (by cases q), _, rfl, by unfold cmpI; rw [if_neg (by omega), if_neg (by omega)]; rfl⟩
      · exact ⟨k, (.cons rfl <| .cons rfl <| .cons rfl <| .nil _), ⟨by omega, drop_eq_of (by omega) hl hdr (by omega)⟩, by omega⟩
theorem E82 {m n : Nat} (hm : (dz m).length < 900) (hn : (dz n).length < 900) (H : AHeap) : KE 82 [rowZ (dz m), rowZ (dz n)] H = some (zA (cmpI m n), H) := by
  obtain ⟨v, H', h, rfl⟩ := sizesZ_ok (cf := xcallK Kno F 2000 0) (fuel := 2000) (H := ⟨.e, 0⟩) (m := m) (n := n) (by omega) (by omega) (by omega)
  have hc := (xcallK_sound mixed Kno_ok F_ok 2000 1 82 _ _ _ _ ((cfstep rfl rfl).trans h)).pure (H := H) (frozZ2 _ _) (Fz.froz rfl)
  obtain ⟨v', q1, q2⟩ := KE_hit hc (fun m' n' e => by
    simp only [List.cons.injEq, and_true] at e
    rw [dz_inj (rowZ_inj e.1), dz_inj (rowZ_inj e.2)])
  rw [q1, q2 m n rfl]
theorem add_walkP {m n : Nat} (hm : (dz m).length < 800) (hn : (dz n).length < 800) : ∃ v H', xfunc (xcallK KE F 2000 0) 2000 L66 [zN m, zN n] ⟨.e, 0⟩ = some (v, H') ∧ v = zN (m + n) := by
  refine xfunc_ofK rfl (by show 2 ≤ 43; omega) ?_
  have hF := HF.start ⟨.e, 0⟩
  generalize (⟨.e, 0⟩ : AHeap) = H at hF ⊢
  unfold L66
  dsimp only
  repeat' (first | refine WK.seq ?_ | (apply WK.reg; (· exact lnn)) | (apply WKO.boxO; (· rfl); (· assumption); (· rfl); (· exact nxx); (· exact nxx); (· exact nxx); intro _ _ _) | (apply WKO.alO; (· assumption); (· rfl); (· exact nxx); (· exact nxx); (· exact nxx); intro _ _ _) | refine WKO.nil ?_ | ((first | apply WKO.op); (· first | exact k_eqB rfl rfl | (apply k_ldO; (· rfl); (· assumption); (· rfl); (· exact mmb); (· rfl)) | exact k_faddr rfl); (· rfl)) | refine pN ?_ | (apply WK.condT; (· rfl); (· exact dcd)) | fail)
  rename_i H1 hF1 hn1 H2 hF2 hn2 H3 hF3 hn3
  obtain ⟨o, e1, e2, e3, e4⟩ := E103 (digZ_dz m) (digZ_dz n) (by omega) (by omega) ((H3.bump 5).bump (9 + 1))
  rw [valZ_dz, valZ_dz] at e3
  refine WK.regC1 9 rfl rfl rfl ?_
  dsimp only [List.take_succ_cons, List.take_zero]
  repeat' (first | refine WK.ret ?_ | (apply WKO.stO0; (· rfl); (· rfl); (· assumption); (· rfl); (· exact nxx); (· first | exact .inr nxx); (· rfl); (· rfl); (· first | decide); intro _ _ _) | refine WKC.nil ?_ | refine WKO.nil ?_ | ((first | apply WKC.op); (· first | (apply k_call; (· rfl); (· rfl); (· exact cfhit e1)) | (apply k_call; (· rfl); (· rfl); (· exact cfhit (E83 e2 e4 _))) | (apply k_ldO; (· rfl); (· assumption); (· rfl); (· exact mmb); (· rfl)) | exact k_faddr rfl | exact opA); (· rfl)) | refine pN ?_ | refine pR ?_ | fail)
  repeat' (first | fail)
  rename_i H9 hF9 hn9
  exact ⟨fun id q => (by cases q), _, resK_obj rfl (hF9.obj _ (.head _)) rfl, by rw [e3]; rfl⟩
theorem negZ_eq {n : Nat} (h : 0 < n) : negZ n = .agg [.bool true, rowZ (dz n)] := by
  unfold negZ
  have := @dz_nil n
  rw [decide_eq_true (by omega)]
theorem SZ66P {m n : Nat} : SZ 66 [zN m, zN n] (zN (m + n)) := by
  refine ⟨fun m' n' e => ?_, fun m' n' h0 e => ?_⟩
  · simp only [List.cons.injEq, and_true] at e
    rw [zN_inj e.1, zN_inj e.2]
  · rw [negZ_eq h0] at e
    simp [zN] at e
theorem E66 {m n : Nat} (hm : (dz m).length < 800) (hn : (dz n).length < 800) (H : AHeap) : KE 66 [zN m, zN n] H = some (zN (m + n), H) := by
  obtain ⟨v, H', h, rfl⟩ := add_walkP hm hn
  have hc := (xfunc_sound mixed (xcallK_sound mixed KE_ok F_ok 2000 0) 2000 (F_ok 66 L66 rfl) h).pure (H := H) (by simp only [AV.frozL, zN_froz, Bool.and_self]) (Fz.froz (zN_froz _))
  obtain ⟨v', q1, q2⟩ := KE_hit hc SZ66P
  rw [q1, q2.1 m n rfl]
end Go.Proofs.YtfcgofffalmdfaaGreatDoor.PA
namespace Go.Proofs.YtfcgofffalmdfaaGreatDoor.PA
theorem getZ_set (N : List Nat) (i w p : Nat) (hi : i < N.length) : (N.set i w).getD p 0 = if p = i then w else N.getD p 0 := by
  rw [List.getD_eq_getElem?_getD, List.getD_eq_getElem?_getD, List.getElem?_set]
  by_cases h : i = p
  · subst h
    simp [hi]
  · rw [if_neg h, if_neg (fun q => h q.symm)]
theorem digZ_set {l : List Nat} (h : digZ l) (p : Nat) {w : Nat} (hw : w < BZ) : digZ (l.set p w) := by
  intro x hx
  rcases List.mem_or_eq_of_mem_set hx with q | q
  · exact h x q
  · rw [q]; exact hw
structure MulO (a b : List Nat) (i : Nat) (N : List Nat) : Prop where
  v : valZ N = valZ (a.take i) * valZ b
  l : N.length = a.length + b.length + 1
  d : digZ N
  z : ∀ j, i + b.length ≤ j → N.getD j 0 = 0
structure MulI (a b : List Nat) (i k c : Nat) (N : List Nat) : Prop where
  v : valZ N + BZ ^ (i + k) * c = valZ (a.take i) * valZ b + BZ ^ i * (a.getD i 0 * valZ (b.take k))
  l : N.length = a.length + b.length + 1
  d : digZ N
  c1 : c < BZ
  k1 : k ≤ b.length + 1
  z : ∀ j, i + max k b.length ≤ j → N.getD j 0 = 0
  e : k = b.length + 1 → c = 0
theorem MulO.zero (a b : List Nat) : MulO a b 0 (List.replicate (a.length + b.length + 1) 0) := by
  refine ⟨by rw [valZ_zeros, List.take_zero, valZ, Nat.zero_mul], by simp, fun x hx => by rw [List.eq_of_mem_replicate hx]; decide, fun j _ => ?_⟩
  rw [List.getD_eq_getElem?_getD, List.getElem?_replicate]
  split <;> rfl
theorem MulO.row {a b : List Nat} {i : Nat} {N : List Nat} (h : MulO a b i N) : MulI a b i 0 0 N :=
  ⟨by rw [h.v, List.take_zero, valZ, Nat.mul_zero, Nat.mul_zero, Nat.mul_zero], h.l, h.d, by decide, by omega, fun j hj => h.z j (by omega), fun _ => rfl⟩
theorem MulI.step {a b : List Nat} {i k c s : Nat} {N : List Nat} (ha : digZ a) (hb : digZ b) (h : MulI a b i k c N) (hk : k < b.length) (hi : i < a.length) (hs : s = N.getD (i + k) 0 + c + a.getD i 0 * b.getD k 0) : MulI a b i (k + 1) (s / 10000) (N.set (i + k) (s % 10000)) ∧ s < 100000000 := by
  have h1 := digZ_get ha i
  have h2 := digZ_get hb k
  have h3 := digZ_get h.d (i + k)
  have h4 := h.c1
  have hB : BZ = 10000 := rfl
  rw [hB] at h1 h2 h3 h4
  have h5 : a.getD i 0 * b.getD k 0 ≤ 9999 * 9999 := Nat.mul_le_mul (by omega) (by omega)
  have hs2 : s < 100000000 := by omega
  refine ⟨⟨?_, by rw [List.length_set]; exact h.l, digZ_set h.d _ (Nat.mod_lt _ (by decide)), by rw [hB]; omega, by omega, fun j hj => ?_, fun q => by omega⟩, hs2⟩
  · have e1 := valZ_set N (i + k) (s % 10000) (by have := h.l; omega)
    have e2 := h.v
    have e3 := Nat.mod_add_div s 10000
    have e4 : BZ ^ (i + (k + 1)) * (s / 10000) = BZ ^ (i + k) * (10000 * (s / 10000)) := by rw [← Nat.add_assoc, Nat.pow_succ, Nat.mul_assoc, hB]
    have e5 : BZ ^ (i + k) * (s % 10000) + BZ ^ (i + k) * (10000 * (s / 10000)) = BZ ^ (i + k) * N.getD (i + k) 0 + BZ ^ (i + k) * c + BZ ^ (i + k) * (a.getD i 0 * b.getD k 0) := by
      rw [← Nat.mul_add, e3, hs, Nat.mul_add, Nat.mul_add]
    have e6 : BZ ^ i * (a.getD i 0 * valZ (b.take (k + 1))) = BZ ^ i * (a.getD i 0 * valZ (b.take k)) + BZ ^ (i + k) * (a.getD i 0 * b.getD k 0) := by
      rw [valZ_take', Nat.mul_add, Nat.mul_add, Nat.pow_add, Nat.mul_assoc (BZ ^ i)]
      congr 2
      rw [Nat.mul_left_comm]
    rw [e4, e6]
    omega
  · rw [getZ_set _ _ _ _ (by have := h.l; omega), if_neg (by omega)]
    exact h.z j (by omega)
theorem MulI.last {a b : List Nat} {i c : Nat} {N : List Nat} (h : MulI a b i b.length c N) (hi : i < a.length) : N.getD (i + b.length) 0 = 0 ∧ MulI a b i (b.length + 1) 0 (N.set (i + b.length) c) := by
  have h0 := h.z (i + b.length) (by omega)
  refine ⟨h0, ?_, by rw [List.length_set]; exact h.l, digZ_set h.d _ h.c1, by decide, by omega, fun j hj => ?_, fun _ => rfl⟩
  · have e1 := valZ_set N (i + b.length) c (by have := h.l; omega)
    have e2 := h.v
    rw [h0, Nat.mul_zero, Nat.add_zero] at e1
    rw [Nat.mul_zero, Nat.add_zero, e1, e2, List.take_of_length_le (Nat.le_succ _), List.take_length]
  · rw [getZ_set _ _ _ _ (by have := h.l; omega), if_neg (by omega)]
    exact h.z j (by omega)
theorem MulI.done {a b : List Nat} {i k c : Nat} {N : List Nat} (h : MulI a b i k c N) (hk : ¬ k < b.length) (hc : ¬ 0 < c) : MulO a b (i + 1) N := by
  refine ⟨?_, h.l, h.d, fun j hj => h.z j (by have := h.k1; omega)⟩
  have e := h.v
  rw [show c = 0 by omega, Nat.mul_zero, Nat.add_zero, List.take_of_length_le (l := b) (i := k) (by omega)] at e
  rw [e, valZ_take', Nat.add_mul, Nat.mul_assoc]
theorem MulO.done {a b : List Nat} {i : Nat} {N : List Nat} (h : MulO a b i N) (hi : ¬ i < a.length) : valZ N = valZ a * valZ b := by
  rw [h.v, List.take_of_length_le (by omega)]
end Go.Proofs.YtfcgofffalmdfaaGreatDoor.PA
namespace Go.Proofs.YtfcgofffalmdfaaGreatDoor.PA
open Go Go.Eng Go.Proofs
theorem nA_cells (n : Nat) : (nA n).cells = [nA n] := rfl
theorem nA_one (n : Nat) : (nA n).oneCell = true := rfl
theorem replicate_nA (m : Nat) : (List.replicate m [AV.int .i64 (.ofNat 0)]).flatten = (List.replicate m 0).map nA := by
  rw [List.map_replicate]
  induction m with
  | zero => rfl
  | succ m ih => rw [List.replicate_succ, List.flatten_cons, ih, List.replicate_succ]; rfl
theorem map_nA' {N : List Nat} {p : Nat} (h : p < N.length) : (N.map nA)[p]? = some (nA (N.getD p 0)) := by
  have := map_nA h
  rwa [Nat.mul_one] at this
set_option maxHeartbeats 4000000 in
theorem mul_walkZ {m n : Nat} (hm : (dz m).length < 400) (hn : (dz n).length < 400) : ∃ v H', xfunc (xcallK Kno F 2000 1) 2000 L72 [zN m, zN n] ⟨.e, 0⟩ = some (v, H') ∧ ∃ u, v = .agg [.bool false, u] ∧ RowE 1 H' u (dz (m * n)).length ((dz (m * n)).map nA) := by
  refine xfunc_ofK rfl (by show 2 ≤ 80; omega) ?_
  have hF := HF.start ⟨.e, 0⟩
  generalize (⟨.e, 0⟩ : AHeap) = H at hF ⊢
  have hd1 := digZ_dz m
  have hd2 := digZ_dz n
  have hv1 := valZ_dz m
  have hv2 := valZ_dz n
  have ez : ∀ k, zN k = .agg [.bool false, rowZ (dz k)] := fun k => rfl
  simp only [ez]
  generalize dz m = a at hm hd1 hv1 ⊢
  generalize dz n = b at hn hd2 hv2 ⊢
  unfold L72
  dsimp only
  repeat' (first | refine WK.seq ?_ | (apply WK.reg; (· exact lnn)) | (apply WKO.boxO; (· rfl); (· assumption); (· rfl); (· exact nxx); (· exact nxx); (· exact nxx); intro _ _ _) | (apply WKO.alO; (· assumption); (· rfl); (· exact nxx); (· exact nxx); (· exact nxx); intro _ _ _) | refine WKO.nil ?_ | ((first | apply WKO.op); (· first | exact k_lenZ rfl | (apply k_ldO; (· rfl); (· assumption); (· rfl); (· exact mmb); (· rfl)) | exact k_faddr rfl | exact opA); (· rfl)) | refine pN ?_ | fail)
  rename_i H1 hF1 hn1 H2 hF2 hn2 H3 hF3 hn3
  refine WKO.mkO (m := a.length + b.length + 1) rfl rfl ⟨by omega, by decide⟩ hF3 rfl (by simp only [next_bump]; omega) ?_
  intro H4 hF4 hn4
  rw [replicate_nA] at hF4
  repeat' (first | refine WK.seq ?_ | refine WK.block ?_ | (apply WK.reg; (· exact lnn)) | refine WKO.nil ?_ | ((first | apply WKO.op); (· first | exact k_mv rfl); (· rfl)) | refine pN ?_ | fail)
  generalize hpo : (H3.bump 10).next = po at hF4 ⊢
  have hb3 := hF3.base
  have hle3 := hF3.le
  have hpo2 : H.next ≤ po := by simp only [next_bump] at hpo; omega
  have hpo3 : H.next + 1 + 1 + 1 ≤ po := by simp only [next_bump] at hpo; omega
  clear hF hF1 hF2 hF3
  refine WK.loop (α := Nat × List Nat) (fun s => [(2, .ptr H.next 0), (3, .ptr (H.next + 1) 0), (4, .ptr (H.next + 1 + 1) 0), (5, .sl po 0 (a.length + b.length + 1) (a.length + b.length + 1)), (6, nA s.1)])
    (fun s H' => (∃ T, HF H [] T [(po, .cells (s.2.map nA) none), (H.next + 1 + 1, .cells [.bool false, .nils] none), (H.next + 1, .cells [.bool false, rowZ b] none), (H.next, .cells [.bool false, rowZ a] none)] H') ∧ MulO a b s.1 s.2 ∧ s.1 ≤ a.length) (fun s => a.length - s.1) (0, List.replicate (a.length + b.length + 1) 0) (.cons rfl <| .cons rfl <| .cons rfl <| .cons rfl <| .cons rfl <| .nil _) ⟨⟨_, hF4.up rfl (by simp only [next_bump]; omega)⟩, MulO.zero a b, Nat.zero_le _⟩ (by show a.length - 0 < 2000; omega) ?_
  rintro ⟨i, N⟩ H5 ⟨⟨T5, hF5⟩, hO, hi⟩
  simp only at hF5 hO hi ⊢
  clear hF4
  repeat' (first | refine WK.seq ?_ | refine WK.skip ?_ | refine WK.exit ?_ | refine WK.block ?_ | (apply WK.reg; (· exact lnn)) | refine WKO.nil ?_ | ((first | apply WKO.op); (· first | exact k_mv rfl | exact k_lenZ rfl | (apply k_ldO; (· rfl); (· assumption); (· rfl); (· exact mmb); (· rfl)) | exact k_faddr rfl | exact opA); (· rfl)) | refine pN ?_ | refine pX ?_ | refine bX ?_ | (apply WK.condD; (· rfl); all_goals intro _) | fail)
  · refine WK.loop (α := Nat × Nat × List Nat) (fun s => [(2, .ptr H.next 0), (3, .ptr (H.next + 1) 0), (4, .ptr (H.next + 1 + 1) 0), (5, .sl po 0 (a.length + b.length + 1) (a.length + b.length + 1)), (6, nA i), (7, nA s.2.1), (8, nA s.1)])
      (fun s H' => (∃ T, HF H [] T [(po, .cells (s.2.2.map nA) none), (H.next + 1 + 1, .cells [.bool false, .nils] none), (H.next + 1, .cells [.bool false, rowZ b] none), (H.next, .cells [.bool false, rowZ a] none)] H') ∧ MulI a b i s.1 s.2.1 s.2.2) (fun s => b.length + 1 - s.1) (0, 0, N) (.cons rfl <| .cons rfl <| .cons rfl <| .cons rfl <| .cons rfl <| .cons rfl <| .cons rfl <| .nil _) ⟨⟨_, hF5.up rfl (by simp only [next_bump]; omega)⟩, hO.row⟩ (by show b.length + 1 - 0 < 2000; omega) ?_
    rintro ⟨k, c, M⟩ H6 ⟨⟨T6, hF6⟩, hI⟩
    simp only at hF6 hI ⊢
    clear hF5
    have hMl := hI.l
    have hc1 := hI.c1
    have hk1 := hI.k1
    have hke := hI.e
    have hB : BZ = 10000 := rfl
    rw [hB] at hc1
    have hdg := digZ_get hI.d (i + k)
    have hda := digZ_get hd1 i
    have hdb := digZ_get hd2 k
    rw [hB] at hda hdb
    have hmul : a.getD i 0 * b.getD k 0 ≤ 9999 * 9999 := Nat.mul_le_mul (by omega) (by omega)
    rw [hB] at hdg
    repeat' (first | refine WK.seq ?_ | refine WK.skip ?_ | refine WK.exit ?_ | refine WK.block ?_ | (apply WK.reg; (· exact lnn)) | (apply WK.regC; (· rfl); (· exact lnn); (· decide)) | refine WKC.nil ?_ | refine WKO.nil ?_ | ((first | apply WKC.op | apply WKO.op | ((first | apply WKO.gop); (· rfl); (· exact dcd))); (· first | exact k_mv rfl | exact k_lenZ rfl | exact k_ia1s rfl rfl (by omega) | (apply k_ldO; (· rfl); (· exact hF6); (· rfl); (· exact .head _); (· exact map_nA' (by omega))) | exact k_iaZ rfl rfl (by omega) | exact k_ldZ rfl (by omega) | exact k_mulN rfl rfl (by omega) | exact k_remN rfl rfl (by decide) | exact k_quoN rfl rfl (by decide) (by omega) | (apply k_ldO; (· rfl); (· assumption); (· rfl); (· exact mmb); (· rfl)) | exact k_faddr rfl | exact opA); (· rfl)) | ((first | apply WKO.gnoF); (· rfl); (· exact dcd)) | ((first | apply WKO.gsp); (· rfl); all_goals ((fail_if_success (refine known ?_ ?_; (· assumption))); intro _)) | refine pN ?_ | refine pX ?_ | refine bN ?_ | refine bX ?_ | (apply WK.condT; (· rfl); (· exact dcd)) | (apply WK.condF; (· rfl); (· exact dcd)) | (apply WK.condD; (· rfl); all_goals intro _) | fail)
    · refine WKO.stN (f := nA) (N := M) (p := i + k) rfl rfl (nA_cells _) (nA_one _) hF6 rfl nxx (.inr hpo2) (by omega) ?_
      intro H7 hF7 hn7
      repeat' (first | (apply WK.reg; (· exact lnn)) | refine WKO.nil ?_ | ((first | apply WKO.op); (· first | exact k_mv rfl | exact opA); (· rfl)) | refine pN ?_ | refine bN ?_ | fail)
      obtain ⟨q1, q2⟩ := hI.step hd1 hd2 (by assumption) (by assumption) rfl
      exact ⟨(k + 1, _, _), (.cons rfl <| .cons rfl <| .cons rfl <| .cons rfl <| .cons rfl <| .cons rfl <| .cons rfl <| .nil _), ⟨⟨T6, hF7.up rfl (by simp only [next_bump]; omega)⟩, q1⟩, by show b.length + 1 - (k + 1) < b.length + 1 - k; omega⟩
    · have hkb : k = b.length := by omega
      subst hkb
      obtain ⟨q0, q1⟩ := hI.last (by assumption)
      refine WKO.stN (f := nA) (N := M) (p := i + b.length) rfl rfl (nA_cells _) (nA_one _) hF6 rfl nxx (.inr hpo2) (by omega) ?_
      intro H7 hF7 hn7
      repeat' (first | (apply WK.reg; (· exact lnn)) | refine WKO.nil ?_ | ((first | apply WKO.op); (· first | exact k_mv rfl | exact opA); (· rfl)) | refine pN ?_ | refine bN ?_ | fail)
      have e1 : (M.getD (i + b.length) 0 + c) / 10000 = 0 := by omega
      have e2 : (M.getD (i + b.length) 0 + c) % 10000 = c := by omega
      rw [e2] at hF7
      rw [e1]
      exact ⟨(b.length + 1, 0, _), (.cons rfl <| .cons rfl <| .cons rfl <| .cons rfl <| .cons rfl <| .cons rfl <| .cons rfl <| .nil _), ⟨⟨T6, hF7.up rfl (by simp only [next_bump]; omega)⟩, q1⟩, by show b.length + 1 - (b.length + 1) < b.length + 1 - b.length; omega⟩
    · refine ⟨fun _ => ?_, fun q => absurd rfl q⟩
      repeat' (first | (apply WK.reg; (· exact lnn)) | refine WKO.nil ?_ | ((first | apply WKO.op); (· first | exact k_mv rfl | exact opA); (· rfl)) | refine pN ?_ | fail)
      exact ⟨(i + 1, M), (.cons rfl <| .cons rfl <| .cons rfl <| .cons rfl <| .cons rfl <| .nil _), ⟨⟨T6, hF6.up rfl (by simp only [next_bump]; omega)⟩, hI.done (by assumption) (by omega), by show i + 1 ≤ a.length; omega⟩, by show a.length - (i + 1) < a.length - i; omega⟩
  · refine ⟨fun _ => ?_, fun q => absurd rfl q⟩
    repeat' (first | refine WK.seq ?_ | (apply WK.reg; (· exact lnn)) | ((first | apply WKO.op); (· first | exact k_mv rfl | exact k_neB rfl rfl | (apply k_ldO; (· rfl); (· assumption); (· rfl); (· exact mmb); (· rfl)) | exact k_faddr rfl | exact opA); (· rfl)) | fail)
    have hvN := hO.done (by assumption)
    have hNl := hO.l
    have hpl := hF5.lt _ (.head _)
    have hle5 := hF5.le
    simp only at hpl
    have hfrt : Frt ((H5.bump 5).bump 9) (.sl po 0 (a.length + b.length + 1) (a.length + b.length + 1)) N := .inr (.inl ⟨po, by rw [hNl], by simp only [next_bump]; omega, hF5.obj _ (.head _), by omega⟩)
    refine WKO.callV rfl rfl rfl (show ∃ v H', xcallK Kno F 2000 1 83 [.agg [.bool false, .sl po 0 (a.length + b.length + 1) (a.length + b.length + 1)]] ((H5.bump 5).bump 9) = some (v, H') ∧ _ from by
      obtain ⟨v, H', q1, q2⟩ := lean_ok (cf := xcallK Kno F 2000 0) (fuel := 2000) hfrt hO.d (by omega) (by omega)
      exact ⟨v, H', (cfstep rfl rfl).trans q1, q2⟩) ?_
    rintro v H7 ⟨u, rfl, hR, hfr, hn7, hown⟩
    have ho := hR.one
    simp only [next_bump] at hfr hn7 hown
    have hF7 : HF H7 [H.next + 1 + 1] H7.next [(H.next + 1 + 1, .cells [.bool false, .nils] none)] H7 := HF.add ⟨fun p hp => (by cases hp), fun p hp => (by cases hp), by simp, Nat.le_refl _, Nat.le_refl _, fun _ _ _ => rfl⟩ ((hfr _ (by omega)).trans (hF5.obj (H.next + 1 + 1, _) (.tail _ (.head _)))) (by omega) (by simp)
    clear hF5
    repeat' (first | refine WK.ret ?_ | (apply WKO.p0; (· rfl); (· rfl); (· first | rfl); (· first | assumption); (· assumption); (· rfl); (· exact nxx); (· first | exact .inl (by simp)); intro _ _ _) | refine WKO.nil ?_ | refine pN ?_ | fail)
    rename_i H9 hF9 hn9
    rw [hvN, hv1, hv2] at hR
    exact ⟨fun id q => (by cases q), _, resK_obj rfl (hF9.obj _ (.head _)) rfl, u, rfl, hR.frame (Nat.le_trans hF9.base hF9.le) (fun q hq => hF9.fr q (hR.own_lt hq) (by have := hown q hq; simp only [List.mem_singleton]; omega))⟩
theorem E72 {m n : Nat} (hm : (dz m).length < 400) (hn : (dz n).length < 400) (H : AHeap) : KE 72 [zN m, zN n] H = some (zN (m * n), H) := by
  obtain ⟨v, H', h, u, rfl, hR⟩ := mul_walkZ hm hn
  have hc := (xfunc_sound mixed (xcallK_sound mixed Kno_ok F_ok 2000 1) 2000 (F_ok 72 L72 rfl) h).pure (H := H) (v' := zN (m * n)) (by simp only [AV.frozL, zN_froz, Bool.and_self]) (.agg rfl (fun j x y hx hy => by
    match j, hx, hy with
    | 0, hx, hy => cases hx; cases hy; exact .bool _
    | 1, hx, hy => cases hx; cases hy; exact rowZ_fz hR (fun i _ => get_e0 i)))
  obtain ⟨v', q1, q2⟩ := KE_hit hc (fun m' n' e => by
    simp only [List.cons.injEq, and_true] at e
    rw [zN_inj e.1, zN_inj e.2])
  rw [q1, q2 m n rfl]
end Go.Proofs.YtfcgofffalmdfaaGreatDoor.PA
namespace Go.Proofs.YtfcgofffalmdfaaGreatDoor.PA
theorem decV_acc : ∀ (l : List Nat) (v : Nat), l.foldl (fun v c => 10 * v + (c - 48)) v = v * 10 ^ l.length + decV l
  | [], v => by simp [decV]
  | c :: l, v => by
    have e : decV (c :: l) = l.foldl (fun v c => 10 * v + (c - 48)) (10 * 0 + (c - 48)) := rfl
    rw [e, List.foldl_cons, decV_acc l, decV_acc l (10 * 0 + (c - 48)), List.length_cons, Nat.pow_succ, Nat.add_mul, Nat.add_mul, Nat.mul_comm 10 v, Nat.mul_assoc v 10, Nat.mul_comm 10 (10 ^ l.length)]
    omega
theorem decV_app (a b : List Nat) : decV (a ++ b) = decV a * 10 ^ b.length + decV b := by
  have : decV (a ++ b) = b.foldl (fun v c => 10 * v + (c - 48)) (decV a) := by unfold decV; rw [List.foldl_append]
  rw [this, decV_acc]
theorem decV_lt : ∀ {l : List Nat}, (∀ c ∈ l, 48 ≤ c ∧ c < 58) → decV l < 10 ^ l.length
  | [], _ => by simp [decV]
  | c :: l, h => by
    have h1 := decV_lt (l := l) (fun x hx => h x (by simp [hx]))
    have h2 := h c (by simp)
    have e : decV (c :: l) = (c - 48) * 10 ^ l.length + decV l := by
      have : decV (c :: l) = l.foldl (fun v c => 10 * v + (c - 48)) (10 * 0 + (c - 48)) := rfl
      rw [this, decV_acc, Nat.mul_zero, Nat.zero_add]
    have h3 : (c - 48) * 10 ^ l.length ≤ 9 * 10 ^ l.length := Nat.mul_le_mul_right _ (by omega)
    rw [e, List.length_cons, Nat.pow_succ]
    omega
def grp (L : List Nat) (i j : Nat) : List Nat := (L.take j).drop i
theorem grp_nil (L : List Nat) (i : Nat) : decV (grp L i i) = 0 := by
  unfold grp
  rw [List.drop_eq_nil_of_le (by rw [List.length_take]; omega)]
  rfl
theorem grp_next {L : List Nat} {i j : Nat} (hij : i ≤ j) (hj : j < L.length) : decV (grp L i (j + 1)) = 10 * decV (grp L i j) + (L.getD j 0 - 48) := by
  unfold grp
  rw [List.take_add_one, List.getElem?_eq_getElem hj, Option.toList_some, List.drop_append_of_le_length (by rw [List.length_take]; omega), decV_snoc, List.getD_eq_getElem?_getD, List.getElem?_eq_getElem hj]
  rfl
theorem grp_lt {L : List Nat} (h : ∀ c ∈ L, 48 ≤ c ∧ c < 58) {i j : Nat} (hij : i ≤ j) (h4 : j ≤ i + 4) : decV (grp L i j) < 10000 := by
  have h1 := decV_lt (l := grp L i j) (fun c hc => h c (List.mem_of_mem_take (List.mem_of_mem_drop hc)))
  have h2 : (grp L i j).length ≤ 4 := by unfold grp; rw [List.length_drop, List.length_take]; omega
  have h3 : 10 ^ (grp L i j).length ≤ 10 ^ 4 := Nat.pow_le_pow_right (by decide) h2
  have h4 : (10 : Nat) ^ 4 = 10000 := rfl
  omega
structure ReadZ (L : List Nat) (n at_ : Nat) (o : List Nat) : Prop where
  v : valZ o + BZ ^ o.length * decV (L.take at_) = n
  d : digZ o
  l : o.length + at_ ≤ L.length
theorem ReadZ.next {L : List Nat} {n at_ : Nat} {o : List Nat} (h : ReadZ L n at_ o) (hL : ∀ c ∈ L, 48 ≤ c ∧ c < 58) (h0 : 0 < at_) : ReadZ L n (at_ - 4) (o ++ [decV (grp L (at_ - 4) at_)]) := by
  have hl := h.l
  refine ⟨?_, digZ_snoc h.d (by rw [BZ_eq]; exact grp_lt hL (by omega) (by omega)), by rw [List.length_append, List.length_singleton]; omega⟩
  rw [valZ_snoc, ← h.v, List.length_append, List.length_singleton, Nat.pow_succ, Nat.mul_assoc, Nat.add_assoc, ← Nat.mul_add]
  congr 2
  have e : L.take at_ = L.take (at_ - 4) ++ grp L (at_ - 4) at_ := by
    unfold grp
    have := List.take_append_drop (at_ - 4) (L.take at_)
    rw [List.take_take, Nat.min_eq_left (by omega)] at this
    exact this.symm
  rw [e, decV_app, BZ_eq]
  by_cases h4 : 4 ≤ at_
  · have : (grp L (at_ - 4) at_).length = 4 := by unfold grp; rw [List.length_drop, List.length_take]; omega
    rw [this]
    omega
  · rw [show at_ - 4 = 0 by omega, List.take_zero]
    simp [decV]
theorem ReadZ.done {L : List Nat} {n : Nat} {o : List Nat} (h : ReadZ L n 0 o) : valZ o = n := by
  have := h.v
  rw [List.take_zero, show decV [] = 0 from rfl, Nat.mul_zero, Nat.add_zero] at this
  exact this
theorem decS_get {n i : Nat} (h : i < (decL n).length) : (decS n)[i]? = some (UInt8.ofNat ((decL n).getD i 0)) ∧ (UInt8.ofNat ((decL n).getD i 0)).toNat = (decL n).getD i 0 ∧ 48 ≤ (decL n).getD i 0 ∧ (decL n).getD i 0 < 58 := by
  have h1 : (decL n)[i]? = some ((decL n).getD i 0) := by rw [List.getD_eq_getElem?_getD, List.getElem?_eq_getElem h]; rfl
  have h2 := decL_dig n _ (List.mem_of_getElem? h1)
  refine ⟨by rw [decS, List.getElem?_map, h1]; rfl, ?_, h2⟩
  rw [UInt8.toNat_ofNat']
  omega
theorem decS_length (n : Nat) : (decS n).length = (decL n).length := by rw [decS, List.length_map]
end Go.Proofs.YtfcgofffalmdfaaGreatDoor.PA
namespace Go.Proofs.YtfcgofffalmdfaaGreatDoor.PA
open Go Go.Eng Go.Proofs
theorem HF.back {H0 Hc H1 : AHeap} {T : Nat} {fs fs' : List (Nat × AObj)} {p : Nat} (h0 : HF H0 [] T fs Hc) (h1 : HF Hc [p] Hc.next fs' H1) (hp : H0.next ≤ p) (he : fs'.map (·.1) = fs.map (·.1)) : HF H0 [] T fs' H1 where
  obj := h1.obj
  lt := fun q hq => by
    have : q.1 ∈ fs.map (·.1) := by rw [← he]; exact List.mem_map_of_mem hq
    obtain ⟨q', hq', e⟩ := List.mem_map.1 this
    have := h0.lt q' hq'
    omega
  nd := h1.nd
  base := h0.base
  le := Nat.le_trans h0.le (Nat.le_trans h1.base h1.le)
  fr := fun k hk hm => (h1.fr k (by have := h0.base; have := h0.le; omega) (by simp only [List.mem_singleton]; omega)).trans (h0.fr k hk hm)
theorem HF.here {H0 H : AHeap} {T : Nat} {fs : List (Nat × AObj)} {mod : List Nat} (m : List Nat) (h : HF H0 mod T fs H) : HF H m H.next fs H :=
  ⟨h.obj, fun p hp => Nat.lt_of_lt_of_le (h.lt p hp) h.le, h.nd, Nat.le_refl _, Nat.le_refl _, fun _ _ _ => rfl⟩
section
variable {cf : CF} {n m : Nat} {H0 H H' : AHeap} {T : Nat} {fs : List (Nat × AObj)} {l : KL0} {R : KL0 → AHeap → Prop} {r : List XOper} {x y : XO}
theorem WKO.apF {d1 d2 d3 bytes p : Nat} {z0 c1 u val : AV} {cs : List AV} {pX : XO} (hF : HF H0 [] T ((p, .cells [c1, u] none) :: fs) H) (hR : RowE 1 H u m cs) (ho : ∀ q, u.own = some q → H0.next ≤ q ∧ q ∉ p :: fs.map (·.1)) (hp0 : H0.next ≤ p) (hb : bytes ≤ 2 ^ 16) (hm : H'.m = H.m) (hn : H.next ≤ n) (hlt : n < H'.next) (hl : m < 1000000)
    (hy : evK l y = some val) (hc : val.cells = [val]) (hov : val.oneCell = true) (hx : evK ((d1, .sl n 0 1 1) :: l) x = some u) (hpx : ∀ v', evK ((d2, v') :: (d1, .sl n 0 1 1) :: l) pX = some (.ptr p 0))
    (hst : ∀ v', evK ((d3, .ptr p (0 + 1)) :: (d2, v') :: (d1, .sl n 0 1 1) :: l) (.t d2) = some v')
    (k : ∀ v' H1, HF H0 [] T ((p, .cells [c1, v'] none) :: fs) H1 → RowE 1 H1 v' (m + 1) (cs ++ [val]) → (∀ q, v'.own = some q → H0.next ≤ q ∧ q ∉ p :: fs.map (·.1)) → H'.next ≤ H1.next → WKO cf r (n + 1 + 1 + 1 + 1) ((d3, .ptr p (0 + 1)) :: (d2, v') :: (d1, .sl n 0 1 1) :: l) H1 R) :
    WKO cf (⟨some d1, .bslice [z0] [(0, 1, y)] 1, none⟩ :: ⟨some d2, .app 1 bytes x (.t d1), none⟩ :: ⟨some d3, .faddr 1 pX, none⟩ :: ⟨none, .store 1 (.t d3) (.t d2), none⟩ :: r) n l H' R := by
  have hR' : RowE 1 H' u m cs := hR.frame (by omega) (fun i _ => bump_get hm i)
  have hb0 := hF.base
  have hle := hF.le
  have hown : ∀ q, u.own = some q → q < H.next := fun q hq => hR.own_lt hq
  refine WKO.append1E (m := m) (v := u) (cs := cs) (new := [val]) hR' hx ?_ (by simp [allSm, XOp.opnds, hy]) (by omega) (by omega) hb rfl (by simp [hov]) hlt (fun e => by have := hown n e; omega) (fun v' H1 q1 q2 q3 q4 => ?_)
  · simp only [evParts, hy, bind, Option.bind_some, fillA, hc]
    simp
  · have hF1 : HF H0 [] T ((p, .cells [c1, u] none) :: fs) H1 := (hF.up hm (by omega)).call (H' := H1) (mod' := n :: ownL u) (fun q h1 h2 => by
        simp only [List.mem_cons, not_or] at h2
        exact q3 q h1 h2.1 (fun e => h2.2 (mem_ownL.2 e))) q2 (fun q hq => .inr (by
        rcases List.mem_cons.1 hq with e | e
        · omega
        · exact (ho q (mem_ownL.1 e)).1)) (fun q hq => by
        have hqT := hF.lt q hq
        intro hmem
        rcases List.mem_cons.1 hmem with e | e
        · omega
        · have := (ho _ (mem_ownL.1 e)).2
          apply this
          rcases List.mem_cons.1 hq with e2 | e2
          · rw [e2]; exact .head _
          · exact .tail _ (List.mem_map_of_mem e2))
    have hv1 : v'.oneCell = true := (show RowE 1 H1 v' (m + 1) (cs ++ [val]) from .inl q1).one
    refine WKO.op (k_faddr (hpx v')) (by simp [allSm, XOp.opnds, hpx v']) ?_
    refine WKO.c0 (c := [c1, u]) (show evK _ (.t d3) = some (.ptr p (0 + 1)) from by simp [evK, Go.Eng.look]) (hst v') hv1 (HF.here [p] hF1) rfl (Nat.le_refl _) (.inl (.head _)) (by simp) ?_
    intro H2 hF2 hn2
    have hpT := hF.lt _ (.head _)
    simp only at hpT
    have hown' : ∀ q, v'.own = some q → H0.next ≤ q ∧ q ∉ p :: fs.map (·.1) := fun q hq => by
      rcases q4 q hq with e | e
      · exact ho q e
      · refine ⟨by omega, fun hmem => ?_⟩
        have : q < T := by
          rcases List.mem_cons.1 hmem with e2 | e2
          · omega
          · obtain ⟨q', hq', e3⟩ := List.mem_map.1 e2
            have := hF.lt q' (.tail _ hq')
            omega
        omega
    refine k v' H2 (HF.back hF1 hF2 hp0 (by simp)) ((show RowE 1 H1 v' (m + 1) (cs ++ [val]) from .inl q1).frame (Nat.le_trans hF2.base hF2.le) (fun q hq => hF2.fr q (by
      have := (show RowE 1 H1 v' (m + 1) (cs ++ [val]) from .inl q1).own_lt hq
      exact this) (by
      have := (hown' q hq).2
      simp only [List.mem_cons, not_or] at this
      simp only [List.mem_singleton]
      exact this.1))) hown' (by omega)
end
end Go.Proofs.YtfcgofffalmdfaaGreatDoor.PA
namespace Go.Proofs.YtfcgofffalmdfaaGreatDoor.PA
open Go Go.Eng Go.Proofs
section
variable {cf : CF} {n a c m : Nat} {z : Int} {H : AHeap} {l : KL0} {x y : XO}
theorem k_sidL (hx : evK l x = some (.str (decS m))) (hy : evK l y = some (nA a)) (h : a < (decL m).length) : XV cf l H n (.sidx x y) = some (bA ((decL m).getD a 0), H) := by
  obtain ⟨h1, h2, _⟩ := decS_get h
  have := k_sidx (cf := cf) (H := H) (n := n) hx hy (by rw [decS_length]; exact h)
  rw [this, List.getD_eq_getElem?_getD, h1]
  simp only [Option.getD_some]
  rw [h2]
theorem k_slenL (hx : evK l x = some (.str (decS m))) : XV cf l H n (.slen x) = some (nA (decL m).length, H) := by
  have := k_slen (cf := cf) (H := H) (n := n) hx
  rw [decS_length] at this
  exact this
theorem k_lt48 (hx : evK l x = some (bA c)) (h : 48 ≤ c) : XV cf l H n (.bin .lss x (.k (.int .u8 (.ofNat 48)))) = some (.bool false, H) :=
  k_bin hx rfl (by
    show some (AV.bool (decide ((c : Int) < ((48 : Nat) : Int)))) = _
    rw [decide_eq_false (by omega)])
theorem k_gt57 (hx : evK l x = some (bA c)) (h : c < 58) : XV cf l H n (.bin .gtr x (.k (.int .u8 (.ofNat 57)))) = some (.bool false, H) :=
  k_bin hx rfl (by
    show some (AV.bool (decide ((c : Int) > ((57 : Nat) : Int)))) = _
    rw [decide_eq_false (by omega)])
theorem k_sub48 (hx : evK l x = some (bA c)) (h : 48 ≤ c) (h2 : c < 256) : XV cf l H n (.bin .sub x (.k (.int .u8 (.ofNat 48)))) = some (bA (c - 48), H) :=
  k_bin hx rfl (by
    show some (AV.int .u8 (wrapA .u8 ((c : Int) - ((48 : Nat) : Int)))) = _
    have : wrapA .u8 ((c : Int) - ((48 : Nat) : Int)) = ((c - 48 : Nat) : Int) := by
      simp only [wrapA, IntKind.wrap, IntKind.bits, IntKind.signed]
      simp
      omega
    rw [this]
    rfl)
theorem k_sub4 (hx : evK l x = some (nA a)) (h : a < 1000000000) : XV cf l H n (.bin .sub x (.k (.int .i64 (.ofNat 4)))) = some (zA ((a : Int) - 4), H) :=
  k_bin hx rfl (by
    show some (AV.int .i64 (wrapA .i64 ((a : Int) - ((4 : Nat) : Int)))) = _
    rw [wrapI _ (by omega) (by omega)]
    rfl)
theorem k_mx4 (hy : evK l y = some (zA ((a : Int) - 4))) : XV cf l H n (.mx [.k (.int .i64 (.ofNat 0)), y]) = some (nA (a - 4), H) := by
  rw [k_mxZ (a := 0) (b := (a : Int) - 4) rfl hy]
  congr 2
  unfold nA
  congr 1
  split <;> omega
theorem k_gtrP (hx : evK l x = some (nA a)) (h : 0 < a) : XV cf l H n (.bin .gtr x (.k (.int .i64 (.ofNat 0)))) = some (.bool true, H) :=
  k_bin hx rfl (by
    show some (AV.bool (decide ((a : Int) > Int.ofNat 0))) = _
    rw [decide_eq_true (by show (0 : Int) < a; omega)])
theorem k_gtrN0 (hx : evK l x = some (zA z)) (h : z ≤ 0) : XV cf l H n (.bin .gtr x (.k (.int .i64 (.ofNat 0)))) = some (.bool false, H) :=
  k_bin hx rfl (by
    show some (AV.bool (decide (z > Int.ofNat 0))) = _
    rw [decide_eq_false (by show ¬ (0 : Int) < z; omega)])
theorem k_mul10 (hx : evK l x = some (nA a)) (h : a < 1000000) : XV cf l H n (.bin .mul (.k (.int .i64 (.ofNat 10))) x) = some (nA (10 * a), H) := k_mulN (a := 10) rfl hx (by omega)
end
theorem resK_ob2 {l : KL0} {H : AHeap} {t t2 i n : Nat} {c : List AV} {opn : Option Nat} {v : AV} (hl : Go.Eng.look l t = some (.ptr i 0)) (hg : H.get i = some (.cells c opn)) (hc : c.length = n) (h2 : Go.Eng.look l t2 = some v) : resK l H [.c t (some n), .t t2] = some [.agg c, v] := by
  simp only [resK, resK1, hl, h2, Option.bind_some, loadA, cellsAt, hg, List.drop_zero]
  rw [if_pos (by omega), List.take_of_length_le (by omega)]
  rfl
theorem head_len (n : Nat) (h : (decL n).getD 0 0 = 48) : (decL n).length = 1 := by
  by_cases h0 : n = 0
  · rw [h0]; rfl
  · exact absurd h (decL_head h0)
set_option maxHeartbeats 4000000 in
theorem digits_walk {n : Nat} (hl : (decL n).length ≤ 1000) : ∃ v H', xfunc (xcallK Kno F 3000 1) 3000 L107 [.str (decS n)] ⟨.e, 0⟩ = some (v, H') ∧ ∃ u, v = .tup [.agg [.bool false, u], .bool true] ∧ RowE 1 H' u (dz n).length ((dz n).map nA) := by
  refine xfunc_ofK rfl (by show 1 ≤ 69; omega) ?_
  have hF := HF.start ⟨.e, 0⟩
  generalize (⟨.e, 0⟩ : AHeap) = H at hF ⊢
  have hpos := decL_pos n
  have hL := decL_dig n
  have hget : ∀ i, i < (decL n).length → 48 ≤ (decL n).getD i 0 ∧ (decL n).getD i 0 < 58 := fun i hi => (decS_get hi).2.2
  have hhd := head_len n
  have h00 := hget 0 hpos
  unfold L107
  dsimp only
  refine WK.cut (α := Unit) (fun _ => [(0, .str (decS n)), (2, .ptr H.next 0), (3, .bool false)]) (fun _ H' => ∃ T, HF H [] T [(H.next, .cells [.bool false, .nils] none)] H') ?_ ?_
  · repeat' (first | (apply WK.reg; (· exact lnn)) | (apply WKO.alO; (· assumption); (· rfl); (· exact nxx); (· exact nxx); (· exact nxx); intro _ _ _) | refine WKO.nil ?_ | ((first | apply WKO.op); (· first | exact k_mv rfl); (· rfl)) | refine pN ?_ | fail)
    rename_i H1 hF1 hn1
    exact ⟨(), (.cons rfl <| .cons rfl <| .cons rfl <| .nil _), _, hF1⟩
  rintro ⟨⟩ H1 ⟨T1, hF1⟩
  have hb1 := hF1.base
  have hle1 := hF1.le
  clear hF
  refine WK.cut (α := Unit) (fun _ => [(0, .str (decS n)), (2, .ptr H.next 0), (3, .bool false)]) (fun _ H' => ∃ T, HF H [] T [(H.next, .cells [.bool false, .nils] none)] H') ?_ ?_
  · repeat' (first | refine WK.seq ?_ | refine WK.skip ?_ | (apply WK.reg; (· exact lnn)) | refine WKO.nil ?_ | ((first | apply WKO.op | ((first | apply WKO.gop); (· rfl); (· exact dcd))); (· first | exact k_mv rfl | exact k_slenL rfl | exact k_sidL rfl rfl (by omega) | exact k_eq8 rfl | exact opA); (· rfl)) | ((first | apply WKO.gnoT); (· rfl); (· exact dcd)) | ((first | apply WKO.gsp); (· rfl); all_goals ((fail_if_success (refine known ?_ ?_; (· assumption))); intro _)) | refine pN ?_ | (apply WK.condF; (· rfl); (· exact dcd)) | fail)
    all_goals first
      | (exfalso; have := hhd (by assumption); omega)
      | exact ⟨(), (.cons rfl <| .cons rfl <| .cons rfl <| .nil _), T1, hF1.up rfl (by simp only [next_bump]; omega)⟩
  rintro ⟨⟩ H2 ⟨T2, hF2⟩
  have hb2 := hF2.base
  have hle2 := hF2.le
  clear hF1
  repeat' (first | refine WK.seq ?_ | refine WK.block ?_ | (apply WK.reg; (· exact lnn)) | ((apply WKO.p0; (· rfl); (· rfl); (· rfl); (· rfl); (· assumption); (· rfl); (· exact nxx); (· exact .inr (by omega)); intro _ _ _)) | (apply WKO.alO; (· assumption); (· rfl); (· exact nxx); (· exact nxx); (· exact nxx); intro _ _ _) | refine WKO.nil ?_ | ((first | apply WKO.op); (· first | exact k_mv rfl | exact k_slenL rfl | exact opA); (· rfl)) | refine pN ?_ | fail)
  rename_i H3 hF3 hn3 H4 hF4 hn4
  generalize hp4 : H2.next + 1 = p4 at hF3 hF4 ⊢
  have hp4a : H.next < p4 := by omega
  clear hF2 hF3
  refine WK.loop (α := Nat × Int × List Nat × AV) (fun s => [(0, .str (decS n)), (2, .ptr H.next 0), (3, .bool false), (4, .ptr p4 0), (5, zA s.2.1)])
    (fun s H' => (∃ T, HF H [] T [(p4, .cells [.bool false, s.2.2.2] none), (H.next, .cells [.bool false, .nils] none)] H') ∧ RowE 1 H' s.2.2.2 s.2.2.1.length (s.2.2.1.map nA) ∧ (∀ q, s.2.2.2.own = some q → H.next ≤ q ∧ q ∉ p4 :: [H.next]) ∧ ReadZ (decL n) n s.1 s.2.2.1 ∧ (0 < s.1 → s.2.1 = s.1) ∧ (s.1 = 0 → s.2.1 ≤ 0)) (fun s => s.1) ((decL n).length, ((decL n).length : Int), [], .nils) (.cons rfl <| .cons rfl <| .cons rfl <| .cons rfl <| .cons rfl <| .nil _)
    ⟨⟨_, hF4.up rfl (by simp only [next_bump]; omega)⟩, .inl ⟨rfl, .inl ⟨rfl, rfl⟩⟩, fun q hq => by simp [AV.own] at hq, ⟨by rw [List.take_length, decV_L]; simp [valZ], digZ_nil, by simp⟩, fun _ => rfl, fun h => by simp only at h; omega⟩ (by show (decL n).length < 3000; omega) ?_
  rintro ⟨at_, z, o, u⟩ H5 ⟨⟨T5, hF5⟩, hR, ho, hZ, hz1, hz0⟩
  simp only at hF5 hR ho hZ hz1 hz0 ⊢
  have hb5 := hF5.base
  have hle5 := hF5.le
  have hal := hZ.l
  clear hF4
  by_cases h0 : 0 < at_
  · have ez : zA z = nA at_ := by rw [hz1 h0]; rfl
    rw [ez]
    repeat' (first | refine WK.seq ?_ | refine WK.skip ?_ | refine WK.block ?_ | (apply WK.reg; (· exact lnn)) | refine WKO.nil ?_ | ((first | apply WKO.op); (· first | exact k_mv rfl | exact k_gtrP rfl h0 | exact k_sub4 rfl (by omega) | exact k_mx4 rfl); (· rfl)) | refine pN ?_ | (apply WK.condT; (· rfl); (· exact dcd)) | fail)
    refine WK.loop (α := Nat) (fun j => [(0, .str (decS n)), (2, .ptr H.next 0), (3, .bool false), (4, .ptr p4 0), (5, nA at_), (6, nA (decV (grp (decL n) (at_ - 4) j))), (7, nA j)]) (fun j H' => H'.m = H5.m ∧ H5.next ≤ H'.next ∧ at_ - 4 ≤ j ∧ j ≤ at_) (fun j => at_ - j) (at_ - 4) ?_ ⟨rfl, by simp only [next_bump]; omega, Nat.le_refl _, by omega⟩ (by show at_ - (at_ - 4) < 3000; omega) ?_
    · exact .cons rfl <| .cons rfl <| .cons rfl <| .cons rfl <| .cons rfl <| .cons (by rw [grp_nil]; rfl) <| .cons rfl <| .nil _
    rintro j H6 ⟨m6, n6, hj1, hj2⟩
    have hd := grp_lt hL (i := at_ - 4) (j := j) hj1 (by omega)
    have hnx : j < at_ → decV (grp (decL n) (at_ - 4) (j + 1)) = 10 * decV (grp (decL n) (at_ - 4) j) + ((decL n).getD j 0 - 48) := fun h => grp_next hj1 (by omega)
    have hgj : j < at_ → 48 ≤ (decL n).getD j 0 ∧ (decL n).getD j 0 < 58 := fun h => hget j (by omega)
    repeat' (first | refine WK.seq ?_ | refine WK.skip ?_ | refine WK.exit ?_ | refine WK.block ?_ | (apply WK.reg; (· exact lnn)) | refine WKO.nil ?_ | ((first | apply WKO.op | ((first | apply WKO.gop); (· rfl); (· exact dcd))); (· first | exact k_mv rfl | exact k_sidL rfl rfl (by omega) | exact k_lt48 rfl (hgj (by omega)).1 | exact k_gt57 rfl (hgj (by omega)).2 | exact k_mul10 rfl (by omega) | exact k_sub48 rfl (hgj (by omega)).1 (by omega) | exact k_of8 rfl (by omega) | exact k_addN rfl rfl (by omega) | exact opA); (· rfl)) | refine pN ?_ | refine pX ?_ | refine bN ?_ | refine bX ?_ | (apply WK.condF; (· rfl); (· exact dcd)) | (apply WK.condD; (· rfl); all_goals intro _) | fail)
    · refine ⟨j + 1, ?_, ⟨m6, by simp only [next_bump]; omega, by omega, by omega⟩, by omega⟩
      exact .cons rfl <| .cons rfl <| .cons rfl <| .cons rfl <| .cons rfl <| .cons (by rw [hnx (by assumption)]; rfl) <| .cons rfl <| .nil _
    · have hj : j = at_ := by omega
      subst hj
      have hF6 := hF5.up m6 n6
      have hR6 := hR.frame n6 (fun q _ => bump_get m6 q)
      repeat' (first | ((first | apply WKO.op); (· first | exact k_mv rfl | exact k_faddr rfl | (apply k_ldO; (· rfl); (· exact hF6); (· rfl); (· exact .head _); (· rfl))); (· rfl)) | fail)
      refine WKO.apF (H0 := H) hF6 hR6 ho (by omega) (by decide) rfl (by simp only [next_bump]; omega) (by simp only [next_bump]; omega) (by omega) rfl rfl rfl rfl (fun _ => rfl) (fun _ => rfl) ?_
      intro v7 H7 hF7 hR7 ho7 hn7
      repeat' (first | (apply WK.reg; (· exact lnn)) | refine WKO.nil ?_ | ((first | apply WKO.op); (· first | exact k_mv rfl | exact k_sub4 rfl (by omega)); (· rfl)) | refine pN ?_ | refine bN ?_ | fail)
      refine ⟨(j - 4, (j : Int) - 4, o ++ [_], v7), (.cons rfl <| .cons rfl <| .cons rfl <| .cons rfl <| .cons rfl <| .nil _), ⟨⟨T5, hF7.up rfl (by simp only [next_bump]; omega)⟩, ?_, ho7, hZ.next hL h0, fun h => by simp only at h ⊢; omega, fun h => by simp only at h ⊢; omega⟩, by show j - 4 < j; omega⟩
      have hR8 : RowE 1 H7 v7 (o ++ [decV (grp (decL n) (j - 4) j)]).length ((o ++ [decV (grp (decL n) (j - 4) j)]).map nA) := by simpa using hR7
      exact hR8.frame (by simp only [next_bump]; omega) (fun _ _ => rfl)
  · have hat : at_ = 0 := by omega
    subst hat
    have hvo := hZ.done
    repeat' (first | refine WK.seq ?_ | refine WK.exit ?_ | (apply WK.reg; (· exact lnn)) | refine WKO.nil ?_ | ((first | apply WKO.op); (· first | exact k_mv rfl | exact k_gtrN0 rfl (hz0 rfl)); (· rfl)) | refine pN ?_ | refine pX ?_ | refine bX ?_ | (apply WK.condF; (· rfl); (· exact dcd)) | fail)
    refine ⟨fun _ => ?_, fun q => absurd rfl q⟩
    repeat' (first | refine WK.seq ?_ | (apply WK.reg; (· exact lnn)) | ((first | apply WKO.op); (· first | (apply k_ldA; (· rfl); (· exact hF5); (· rfl); (· exact .head _); (· rfl))); (· rfl)) | fail)
    refine WKO.callV rfl rfl rfl (show ∃ v H', xcallK Kno F 3000 1 83 [.agg [.bool false, u]] (((H5.bump 2).bump 4)) = some (v, H') ∧ _ from by
      obtain ⟨v, H', q1, q2⟩ := lean_ok (cf := xcallK Kno F 3000 0) (fuel := 3000) (H := (H5.bump 2).bump 4) (X := u) (d := o) (.inr (.inr (hR.frame (by simp only [next_bump]; omega) (fun _ _ => rfl)))) hZ.d (by omega) (by omega)
      exact ⟨v, H', (cfstep rfl rfl).trans q1, q2⟩) ?_
    rintro v H7 ⟨w, rfl, hR7, hfr, hn7, hown⟩
    have ho7 := hR7.one
    simp only [next_bump] at hfr hn7 hown
    have hpT := hF5.lt (H.next, _) (.tail _ (.head _))
    simp only at hpT
    have hF7 : HF H7 [H.next] H7.next [(H.next, .cells [.bool false, .nils] none)] H7 := HF.add ⟨fun p hp => (by cases hp), fun p hp => (by cases hp), by simp, Nat.le_refl _, Nat.le_refl _, fun _ _ _ => rfl⟩ ((hfr _ (by omega)).trans (hF5.obj (H.next, _) (.tail _ (.head _)))) (by omega) (by simp)
    clear hF5
    repeat' (first | refine WK.ret ?_ | (apply WKO.p0; (· rfl); (· rfl); (· first | rfl); (· first | assumption); (· assumption); (· rfl); (· exact nxx); (· first | exact .inl (by simp)); intro _ _ _) | refine WKO.nil ?_ | ((first | apply WKO.op); (· first | exact k_mv rfl); (· rfl)) | refine pN ?_ | fail)
    rename_i H9 hF9 hn9
    rw [hvo] at hR7
    exact ⟨fun id q => (by cases q), _, resK_ob2 rfl (hF9.obj _ (.head _)) rfl rfl, w, rfl, hR7.frame (Nat.le_trans hF9.base hF9.le) (fun q hq => hF9.fr q (hR7.own_lt hq) (by have := hown q hq; simp only [List.mem_singleton]; omega))⟩
theorem Z_fz {H : AHeap} {u : AV} {n : Nat} (hR : RowE 1 H u (dz n).length ((dz n).map nA)) : Fz H ⟨.e, 0⟩ (fun _ => False) (.agg [.bool false, u]) (zN n) :=
  .agg rfl (fun j x y hx hy => by
    match j, hx, hy with
    | 0, hx, hy => cases hx; cases hy; exact .bool _
    | 1, hx, hy => cases hx; cases hy; exact rowZ_fz hR (fun i _ => get_e0 i))
theorem decS_inj {m n : Nat} (h : decS m = decS n) : m = n := by
  have e : ∀ n, (decS n).map UInt8.toNat = decL n := fun n => by
    rw [decS, List.map_map]
    refine (List.map_congr_left (g := id) fun x hx => ?_).trans (List.map_id _)
    have := decL_dig n x hx
    show (UInt8.ofNat x).toNat = x
    rw [UInt8.toNat_ofNat']
    omega
  rw [← decV_L m, ← decV_L n, ← e m, ← e n, h]
theorem E107 {n : Nat} (hl : (decL n).length ≤ 1000) (H : AHeap) : KE 107 [.str (decS n)] H = some (.tup [zN n, .bool true], H) := by
  obtain ⟨v, H', h, u, rfl, hR⟩ := digits_walk hl
  have hc := (xfunc_sound mixed (xcallK_sound mixed Kno_ok F_ok 3000 1) 3000 (F_ok 107 L107 rfl) h).pure (H := H) (v' := .tup [zN n, .bool true]) rfl (.tup rfl (fun j x y hx hy => by
    match j, hx, hy with
    | 0, hx, hy => cases hx; cases hy; exact Z_fz hR
    | 1, hx, hy => cases hx; cases hy; exact .bool _))
  obtain ⟨v', q1, q2⟩ := KE_hit hc (fun n' e => by
    simp only [List.cons.injEq, AV.str.injEq, and_true] at e
    rw [decS_inj e])
  rw [q1, q2 n rfl]
end Go.Proofs.YtfcgofffalmdfaaGreatDoor.PA
namespace Go.Proofs.YtfcgofffalmdfaaGreatDoor.PA
open Go Go.Eng Go.Proofs
set_option maxHeartbeats 4000000 in
theorem intZ_walk {n : Nat} (hn : n < 4611686018427387905) : ∃ v H', xfunc (xcallK Kno F 3000 1) 3000 L52 [nA n] ⟨.e, 0⟩ = some (v, H') ∧ ∃ u, v = .agg [.bool false, u] ∧ RowE 1 H' u (dz n).length ((dz n).map nA) := by
  refine xfunc_ofK rfl (by show 1 ≤ 25; omega) ?_
  have hF := HF.start ⟨.e, 0⟩
  generalize (⟨.e, 0⟩ : AHeap) = H at hF ⊢
  have hdl : (dz n).length ≤ 5 := dz_len 5 n (by show n < 10000 ^ 5; omega)
  have hb0 : decide (n < 0) = false := decide_eq_false (Nat.not_lt_zero n)
  unfold L52
  dsimp only
  repeat' (first | refine WK.seq ?_ | refine WK.block ?_ | (apply WK.reg; (· exact lnn)) | (apply WKO.p0; (· rfl); (· rfl); (· first | rfl); (· first | rfl); (· assumption); (· rfl); (· exact nxx); (· first | exact .inr nxx); intro _ _ _) | (apply WKO.alO; (· assumption); (· rfl); (· exact nxx); (· exact nxx); (· exact nxx); intro _ _ _) | refine WKO.nil ?_ | ((first | apply WKO.op); (· first | exact k_mv rfl | exact opA); (· rfl)) | refine pN ?_ | fail)
  rename_i H1 hF1 hn1 H2 hF2 hn2 H3 hF3 hn3
  generalize hp3 : H1.next + 1 + 1 + 1 = p3 at hF2 hF3 ⊢
  have hp3a : H.next < p3 := by simp only [next_bump] at *; omega
  refine WK.loop (α := Nat × List Nat × AV) (fun s => [(0, nA s.1), (2, .ptr H.next 0), (3, .ptr p3 0)])
    (fun s H' => (∃ T, HF H [] T [(p3, .cells [.bool false, s.2.2] none), (H.next, .cells [.bool false, .nils] none)] H') ∧ RowE 1 H' s.2.2 s.2.1.length (s.2.1.map nA) ∧ (∀ q, s.2.2.own = some q → H.next ≤ q ∧ q ∉ p3 :: [H.next]) ∧ s.2.1 ++ dz s.1 = dz n ∧ s.1 ≤ n) (fun s => (dz s.1).length) (n, [], .nils) (.cons rfl <| .cons rfl <| .cons rfl <| .nil _)
    ⟨⟨_, by rw [hb0] at hF3; exact hF3⟩, .inl ⟨rfl, .inl ⟨rfl, rfl⟩⟩, fun q hq => by simp [AV.own] at hq, rfl, Nat.le_refl _⟩ (by show (dz n).length < 3000; omega) ?_
  rintro ⟨m, o, u⟩ H5 ⟨⟨T5, hF5⟩, hR, ho, hd, hm⟩
  simp only at hF5 hR ho hd hm ⊢
  have hb5 := hF5.base
  have hle5 := hF5.le
  have hol : o.length ≤ 5 := by
    have := congrArg List.length hd
    rw [List.length_append] at this
    omega
  clear hF hF1 hF2 hF3
  repeat' (first | refine WK.seq ?_ | refine WK.skip ?_ | refine WK.exit ?_ | refine WK.block ?_ | (apply WK.reg; (· exact lnn)) | refine WKO.nil ?_ | ((first | apply WKO.op); (· first | exact k_mv rfl | exact k_remN rfl rfl (by decide) | exact k_faddr rfl | (apply k_ldO; (· rfl); (· exact hF5); (· rfl); (· exact .head _); (· rfl)) | exact opA); (· rfl)) | refine pN ?_ | refine pX ?_ | refine bX ?_ | (apply WK.condF; (· rfl); (· exact dcd)) | (apply WK.condD; (· rfl); all_goals intro _) | fail)
  · refine WKO.apF (H0 := H) (hF5.up (H' := _) rfl nxx) (hR.frame (H' := _) nxx (fun q _ => rfl)) ho (by omega) (by decide) rfl (by simp only [next_bump]; omega) (by simp only [next_bump]; omega) (by omega) rfl rfl rfl rfl (fun _ => rfl) (fun _ => rfl) ?_
    intro v7 H7 hF7 hR7 ho7 hn7
    repeat' (first | (apply WK.reg; (· exact lnn)) | refine WKO.nil ?_ | ((first | apply WKO.op); (· first | exact k_mv rfl | exact k_quoN rfl rfl (by decide) (by omega)); (· rfl)) | refine pN ?_ | refine bN ?_ | fail)
    have hm0 : m ≠ 0 := by assumption
    refine ⟨(m / 10000, o ++ [m % 10000], v7), (.cons rfl <| .cons rfl <| .cons rfl <| .nil _), ⟨⟨T5, hF7.up rfl (by simp only [next_bump]; omega)⟩, ?_, ho7, ?_, by show m / 10000 ≤ n; omega⟩, ?_⟩
    · have hR8 : RowE 1 H7 v7 (o ++ [m % 10000]).length ((o ++ [m % 10000]).map nA) := by simpa using hR7
      exact hR8.frame (by simp only [next_bump]; omega) (fun _ _ => rfl)
    · show (o ++ [m % 10000]) ++ dz (m / 10000) = dz n
      rw [← hd, dz_pos hm0, List.append_assoc]
      rfl
    · show (dz (m / 10000)).length < (dz m).length
      rw [dz_pos hm0, List.length_cons]
      exact Nat.lt_succ_self _
  · refine ⟨fun _ => ?_, fun q => absurd rfl q⟩
    have hm0 : m = 0 := by omega
    subst hm0
    rw [dz_zero, List.append_nil] at hd
    subst hd
    repeat' (first | refine WK.seq ?_ | (apply WK.reg; (· exact lnn)) | ((first | apply WKO.op); (· first | (apply k_ldA; (· rfl); (· exact hF5); (· rfl); (· exact .head _); (· rfl))); (· rfl)) | fail)
    have hou := hR.one
    have hF6 := HF.here [H.next] (hF5.sub (gs := [(H.next, .cells [.bool false, .nils] none)]) (.cons _ (.refl _)) (Nat.le_refl _) hF5.le)
    refine WKO.p0 rfl rfl rfl hou hF6 rfl nxx (.inl (.head _)) ?_
    intro H9 hF9 hn9
    repeat' (first | refine WK.ret ?_ | refine WKO.nil ?_ | refine pN ?_ | fail)
    exact ⟨fun id q => (by cases q), _, resK_obj rfl (hF9.obj _ (.head _)) rfl, u, rfl, hR.frame (Nat.le_trans hF9.base hF9.le) (fun q hq => hF9.fr q (hR.own_lt hq) (by have := (ho q hq).2; simp only [List.mem_cons, not_or] at this; simp only [List.mem_singleton]; exact this.2.1))⟩
theorem E52 {n : Nat} (hn : n < 4611686018427387905) (H : AHeap) : KE 52 [nA n] H = some (zN n, H) := by
  obtain ⟨v, H', h, u, rfl, hR⟩ := intZ_walk hn
  have hc := (xfunc_sound mixed (xcallK_sound mixed Kno_ok F_ok 3000 1) 3000 (F_ok 52 L52 rfl) h).pure (H := H) rfl (Z_fz hR)
  obtain ⟨v', q1, q2⟩ := KE_hit hc (fun n' e => by
    simp only [List.cons.injEq, and_true] at e
    rw [nA_inj e])
  rw [q1, q2 n rfl]
theorem k_scAll {cf : CF} {n a : Nat} {H : AHeap} {l : KL0} {x y : XO} {s : List UInt8} (hx : evK l x = some (.str s)) (hy : evK l y = some (nA a)) (h : a = s.length) : XV cf l H n (.scut x none (some y)) = some (.str s, H) := by
  rw [k_scT hx hy (by omega), h, List.take_length]
set_option maxHeartbeats 4000000 in
theorem parse_walk {n : Nat} (hl : (decL n).length ≤ 1000) : ∃ v H', xfunc (xcallK KE F 3000 0) 3000 L70 [.str (decS n)] ⟨.e, 0⟩ = some (v, H') ∧ v = .tup [qN n, .bool true] := by
  refine xfunc_ofK rfl (by show 1 ≤ 98; omega) ?_
  have hF := HF.start ⟨.e, 0⟩
  generalize (⟨.e, 0⟩ : AHeap) = H at hF ⊢
  have hpos := decL_pos n
  have hsl := decS_length n
  have hget : ∀ i, i < (decL n).length → 48 ≤ (decL n).getD i 0 ∧ (decL n).getD i 0 < 58 := fun i hi => (decS_get hi).2.2
  have h00 := hget 0 hpos
  unfold L70
  dsimp only
  repeat' (first | refine WK.seq ?_ | refine WK.skip ?_ | refine WK.block ?_ | (apply WK.reg; (· exact lnn)) | (apply WKO.alO; (· assumption); (· rfl); (· exact nxx); (· exact nxx); (· exact nxx); intro _ _ _) | refine WKO.nil ?_ | ((first | apply WKO.op | ((first | apply WKO.gop); (· rfl); (· exact dcd))); (· first | exact k_mv rfl | exact k_slenL rfl | exact k_sidL rfl rfl (by omega) | exact k_eq8 rfl | exact k_subM rfl (by omega) | exact opA); (· rfl)) | refine pN ?_ | (apply WK.condF; (· rfl); (· exact dcd)) | fail)
  rename_i H1 hF1 hn1
  refine WK.loop (α := Nat) (fun i => [(2, .ptr H.next 0), (3, .bool false), (4, .str (decS n)), (5, .bool false), (6, nA (decL n).length), (7, zA ((i : Int) - 1))])
    (fun i H' => (∃ T, HF H [] T [(H.next, .cells [.bool false, .nils, .bool false, .nils] none)] H') ∧ i ≤ (decL n).length) (fun i => i) (decL n).length (.cons rfl <| .cons rfl <| .cons rfl <| .cons rfl <| .cons rfl <| .cons rfl <| .nil _) ⟨⟨_, hF1.up rfl (by simp only [next_bump]; omega)⟩, Nat.le_refl _⟩ (by show (decL n).length < 3000; omega) ?_
  rintro i H3 ⟨⟨T3, hF3⟩, hi⟩
  clear hF hF1
  have hle3 := hF3.le
  have hb3 := hF3.base
  cases i with
  | zero =>
    repeat' (first | refine WK.seq ?_ | refine WK.skip ?_ | refine WK.ret ?_ | refine WK.exit ?_ | (apply WK.reg; (· exact lnn)) | (apply WKO.alO; (· assumption); (· rfl); (· exact nxx); (· exact nxx); (· exact nxx); intro _ _ _) | (apply WKO.stO0; (· rfl); (· rfl); (· assumption); (· rfl); (· exact nxx); (· first | exact .inr nxx); (· rfl); (· rfl); (· first | decide); intro _ _ _) | (apply WKO.stO2; (· rfl); (· rfl); (· assumption); (· rfl); (· exact nxx); (· first | exact .inr nxx); (· rfl); (· rfl); (· first | decide); intro _ _ _) | refine WKO.nil ?_ | ((first | apply WKO.op | ((first | apply WKO.gop); (· rfl); (· exact dcd))); (· first | exact k_mv rfl | exact k_geqM rfl | exact k_slenL rfl | exact k_scAll rfl rfl (by omega) | (apply k_call; (· rfl); (· rfl); (· exact cfhit (E107 hl _))) | (apply k_call; (· rfl); (· rfl); (· exact cfhit (E52 (n := 1) (by decide) _))) | (apply k_ldA; (· rfl); (· assumption); (· rfl); (· exact mmb); (· first | rfl)) | exact opA); (· rfl)) | ((first | apply WKO.gnoT); (· rfl); (· exact dcd)) | refine pN ?_ | refine pX ?_ | refine bX ?_ | (apply WK.condF; (· rfl); (· exact dcd)) | fail)
    rename_i H9 hF9 hn9
    exact ⟨fun id q => (by cases q), _, resK_ob2 rfl (hF9.obj _ (.tail _ (.tail _ (.head _)))) rfl rfl, rfl⟩
  | succ k =>
    have hk := hget k (by omega)
    rw [zA_nat]
    repeat' (first | refine WK.seq ?_ | refine WK.skip ?_ | refine WK.block ?_ | (apply WK.reg; (· exact lnn)) | refine WKO.nil ?_ | ((first | apply WKO.op); (· first | exact k_mv rfl | exact k_geqT rfl | exact k_sidL rfl rfl (by omega) | exact k_eq8 rfl | exact k_subM rfl (by omega)); (· rfl)) | refine pN ?_ | refine bN ?_ | (apply WK.condT; (· rfl); (· exact dcd)) | (apply WK.condF; (· rfl); (· exact dcd)) | fail)
    exact ⟨k, (.cons rfl <| .cons rfl <| .cons rfl <| .cons rfl <| .cons rfl <| .cons rfl <| .nil _), ⟨⟨T3, hF3.up rfl (by simp only [next_bump]; omega)⟩, by omega⟩, by omega⟩
theorem qN_froz (n : Nat) : (qN n).froz = true := by simp only [qN, AV.froz, AV.frozL, rowZ_froz, Bool.and_self]
theorem qN_inj {m n : Nat} (h : qN m = qN n) : m = n := by
  simp only [qN, AV.agg.injEq, List.cons.injEq, true_and, and_true] at h
  exact dz_inj (rowZ_inj h)
theorem E70 {n : Nat} (hl : (decL n).length ≤ 1000) (H : AHeap) : KE 70 [.str (decS n)] H = some (.tup [qN n, .bool true], H) := by
  obtain ⟨v, H', h, rfl⟩ := parse_walk hl
  have hc := (xfunc_sound mixed (xcallK_sound mixed KE_ok F_ok 3000 0) 3000 (F_ok 70 L70 rfl) h).pure (H := H) rfl (Fz.froz (by simp only [AV.froz, AV.frozL, rowZ_froz, Bool.and_self]))
  obtain ⟨v', q1, q2⟩ := KE_hit hc (fun n' e => by
    simp only [List.cons.injEq, AV.str.injEq, and_true] at e
    rw [decS_inj e])
  rw [q1, q2 n rfl]
end Go.Proofs.YtfcgofffalmdfaaGreatDoor.PA
namespace Go.Proofs.YtfcgofffalmdfaaGreatDoor.PA
open Go Go.Eng Go.Proofs
theorem k_ldC {cf : CF} {n : Nat} {H0 H H' : AHeap} {mod : List Nat} {T : Nat} {fs : List (Nat × AObj)} {l : KL0} {x : XO} {i p m : Nat} {c d : List AV} {opn : Option Nat} (hx : evK l x = some (.ptr i p)) (hF : HF H0 mod T fs H) (hm : H'.m = H.m) (ho : (i, .cells c opn) ∈ fs) (hc : p + m ≤ c.length) (e : (c.drop p).take m = d) : XV cf l H' n (.load (some m) x) = some (.agg d, H') := by
  have hg : H'.get i = some (.cells c opn) := by unfold AHeap.get; rw [hm]; exact hF.obj _ ho
  have := op_loadn (cf := cf) (m := n) (n := m) (i := i) (o := p) (ev := evK l) (x := x) hx hg (by omega)
  rw [e] at this
  exact k_any this
theorem valid_walk {n : Nat} (hl : (decL n).length ≤ 1000) : ∃ v H', xfunc (xcallK KE F 3000 0) 3000 L27 [.str (decS n)] ⟨.e, 0⟩ = some (v, H') ∧ v = .bool true := by
  refine xfunc_ofK rfl (by show 1 ≤ 11; omega) ?_
  have hF := HF.start ⟨.e, 0⟩
  generalize (⟨.e, 0⟩ : AHeap) = H at hF ⊢
  unfold L27
  dsimp only
  repeat' (first | refine WK.seq ?_ | refine WK.ret ?_ | (apply WK.reg; (· exact lnn)) | (apply WKO.alO; (· assumption); (· rfl); (· exact nxx); (· exact nxx); (· exact nxx); intro _ _ _) | (apply WKO.stO0; (· rfl); (· rfl); (· assumption); (· rfl); (· exact nxx); (· first | exact .inr nxx); (· rfl); (· rfl); (· first | decide); intro _ _ _) | refine WKO.nil ?_ | ((first | apply WKO.op); (· first | exact k_mv rfl | (apply k_call; (· rfl); (· rfl); (· exact cfhit (E70 hl _))) | exact opA); (· rfl)) | refine pN ?_ | fail)
  exact ⟨fun id q => (by cases q), _, rfl, rfl⟩
theorem E27 {n : Nat} (hl : (decL n).length ≤ 1000) (H : AHeap) : KE 27 [.str (decS n)] H = some (.bool true, H) := by
  obtain ⟨v, H', h, rfl⟩ := valid_walk hl
  have hc := (xfunc_sound mixed (xcallK_sound mixed KE_ok F_ok 3000 0) 3000 (F_ok 27 L27 rfl) h).pure (H := H) rfl (.bool _)
  obtain ⟨v', q1, q2⟩ := KE_hit hc (fun n' e => rfl)
  rw [q1, q2 n rfl]
theorem of_walk {n : Nat} (hl : (decL n).length ≤ 1000) : ∃ v H', xfunc (xcallK KE F 3000 0) 3000 L29 [.str (decS n)] ⟨.e, 0⟩ = some (v, H') ∧ v = qN n := by
  refine xfunc_ofK rfl (by show 1 ≤ 11; omega) ?_
  have hF := HF.start ⟨.e, 0⟩
  generalize (⟨.e, 0⟩ : AHeap) = H at hF ⊢
  unfold L29
  dsimp only
  repeat' (first | refine WK.seq ?_ | refine WK.ret ?_ | (apply WK.reg; (· exact lnn)) | (apply WKO.alO; (· assumption); (· rfl); (· exact nxx); (· exact nxx); (· exact nxx); intro _ _ _) | (apply WKO.stO0; (· rfl); (· rfl); (· assumption); (· rfl); (· exact nxx); (· first | exact .inr nxx); (· rfl); (· rfl); (· first | decide); intro _ _ _) | (apply WKO.stO1; (· rfl); (· rfl); (· assumption); (· rfl); (· exact nxx); (· first | exact .inr nxx); (· rfl); (· rfl); (· first | decide); intro _ _ _) | refine WKO.nil ?_ | ((first | apply WKO.op); (· first | exact k_mv rfl | (apply k_call; (· rfl); (· rfl); (· exact cfhit (E70 hl _))) | (apply k_ldA; (· rfl); (· assumption); (· rfl); (· exact mmb); (· first | rfl)) | exact opA); (· rfl)) | refine pN ?_ | fail)
  rename_i H1 hF1 hn1 H2 hF2 hn2 H3 hF3 hn3 H4 hF4 hn4
  exact ⟨fun id q => (by cases q), _, resK_obj rfl (hF4.obj _ (.tail _ (.head _))) rfl, rfl⟩
theorem E29 {n : Nat} (hl : (decL n).length ≤ 1000) (H : AHeap) : KE 29 [.str (decS n)] H = some (qN n, H) := by
  obtain ⟨v, H', h, rfl⟩ := of_walk hl
  have hc := (xfunc_sound mixed (xcallK_sound mixed KE_ok F_ok 3000 0) 3000 (F_ok 29 L29 rfl) h).pure (H := H) rfl (Fz.froz (qN_froz _))
  obtain ⟨v', q1, q2⟩ := KE_hit hc (fun n' e => by
    simp only [List.cons.injEq, AV.str.injEq, and_true] at e
    rw [decS_inj e])
  rw [q1, q2 n rfl]
theorem dz_one : dz 1 = [1] := by rw [dz_pos (by decide), show 1 / BZ = 0 by decide, dz_zero]; rfl
theorem fN_froz (m n : Nat) : (fN m n).froz = true := by simp only [fN, AV.froz, AV.frozL, rowZ_froz, Bool.and_self]
theorem fN_inj {m n p q : Nat} (h : fN m n = fN p q) : m = p ∧ n = q := by
  simp only [fN, AV.agg.injEq, List.cons.injEq, true_and, and_true] at h
  exact ⟨dz_inj (rowZ_inj h.1), dz_inj (rowZ_inj h.2)⟩
theorem mulq_walk {m n p q : Nat} (hm : (dz m).length < 400) (hn : (dz n).length < 400) (hp : (dz p).length < 400) (hq : (dz q).length < 400) : ∃ v H', xfunc (xcallK KE F 3000 0) 3000 L30 [fN m n, fN p q] ⟨.e, 0⟩ = some (v, H') ∧ v = fN (m * p) (n * q) := by
  refine xfunc_ofK rfl (by show 2 ≤ 16; omega) ?_
  have hF := HF.start ⟨.e, 0⟩
  generalize (⟨.e, 0⟩ : AHeap) = H at hF ⊢
  unfold L30
  dsimp only
  repeat' (first | refine WK.seq ?_ | (apply WK.reg; (· exact lnn)) | (apply WKO.boxO; (· rfl); (· assumption); (· rfl); (· exact nxx); (· exact nxx); (· exact nxx); intro _ _ _) | (apply WKO.alO; (· assumption); (· rfl); (· exact nxx); (· exact nxx); (· exact nxx); intro _ _ _) | refine WKO.nil ?_ | refine pN ?_ | fail)
  rename_i H1 hF1 hn1 H2 hF2 hn2 H3 hF3 hn3
  refine WK.regC1 11 rfl rfl rfl ?_
  dsimp only [List.take_succ_cons, List.take_zero]
  repeat' (first | refine WK.ret ?_ | (apply WKO.stO0; (· rfl); (· rfl); (· assumption); (· rfl); (· exact nxx); (· first | exact .inr nxx); (· rfl); (· rfl); (· first | decide); intro _ _ _) | refine WKC.nil ?_ | refine WKO.nil ?_ | ((first | apply WKC.op); (· first | (apply k_ldC; (· rfl); (· assumption); (· rfl); (· exact mmb); (· exact Nat.le_of_ble_eq_true rfl); (· rfl)) | (apply k_call; (· rfl); (· rfl); (· first | exact cfhit (E72 hm hp _) | exact cfhit (E72 hn hq _))) | exact k_faddr rfl | exact opA); (· rfl)) | refine pN ?_ | fail)
  rename_i H9 hF9 hn9
  exact ⟨fun id q => (by cases q), _, resK_obj rfl (hF9.obj _ (.head _)) rfl, rfl⟩
theorem E30f {m n p q : Nat} (hm : (dz m).length < 400) (hn : (dz n).length < 400) (hp : (dz p).length < 400) (hq : (dz q).length < 400) (H : AHeap) : KE 30 [fN m n, fN p q] H = some (fN (m * p) (n * q), H) := by
  obtain ⟨v, H', h, rfl⟩ := mulq_walk hm hn hp hq
  have hc := (xfunc_sound mixed (xcallK_sound mixed KE_ok F_ok 3000 0) 3000 (F_ok 30 L30 rfl) h).pure (H := H) (by simp only [AV.frozL, fN_froz, Bool.and_self]) (Fz.froz (fN_froz _ _))
  obtain ⟨v', q1, q2⟩ := KE_hit hc (fun m' n' p' q' e => by
    simp only [List.cons.injEq, and_true] at e
    rw [(fN_inj e.1).1, (fN_inj e.1).2, (fN_inj e.2).1, (fN_inj e.2).2])
  rw [q1, q2 m n p q rfl]
def Kor (A B : CF) : CF := fun f args H => match A f args H with
  | some r => some r
  | none => B f args H
theorem Kor_ok {P : Program} {A B : CF} (hA : CFok P A) (hB : CFok P B) : CFok P (Kor A B) := by
  intro f args H v H' h
  unfold Kor at h
  split at h
  · rename_i r q
    cases h
    exact hA _ _ _ _ _ q
  · exact hB _ _ _ _ _ h
theorem Kor_l {A B : CF} {f : Nat} {args : List AV} {H : AHeap} {r : AV × AHeap} (h : A f args H = some r) : Kor A B f args H = some r := by
  unfold Kor
  rw [h]
theorem Kor_r {A B : CF} {f : Nat} {args : List AV} {H : AHeap} {r : AV × AHeap} (h0 : A f args H = none) (h : B f args H = some r) : Kor A B f args H = some r := by
  unfold Kor
  rw [h0, h]
end Go.Proofs.YtfcgofffalmdfaaGreatDoor.PA
namespace Go.Proofs.YtfcgofffalmdfaaGreatDoor.PA
open Go Go.Eng Go.Proofs
theorem decL_big {n : Nat} (h : n < bigN) : (decL n).length ≤ 200 := by
  unfold decL
  split
  · decide
  · rw [List.length_reverse]
    exact decR_len 200 n (big200 h)
theorem dz_big {n : Nat} (h : n < bigN) : (dz n).length < 60 := by
  have := dz_len 55 n (by
    rw [bigN_def] at h
    exact Nat.lt_of_lt_of_le h (by show 4294967296 ^ 20 ≤ 10000 ^ 55; decide))
  omega
noncomputable def KH : CF := fun f args H => match f, args with
  | 25, [.str s, P, .int .i64 gap] => (rdP H P).map fun l => (.tup [nA (MostV s l gap).1, .int .i64 (MostV s l gap).2], H)
  | 26, [.str s, P, .int .i64 gap] => (rdP H P).map fun l => (.tup [.str (AllV s l gap).1, .int .i64 (AllV s l gap).2], H)
  | _, _ => none
theorem KH_ok : CFok Tryz.prog KH := by
  intro f args H v H' h
  unfold KH at h
  split at h
  · obtain ⟨l, h1, h2⟩ := Option.map_eq_some_iff.1 h
    cases h2
    obtain ⟨H1, h3⟩ := Most_call _ l _
    exact frame0 h3 rfl (fun E w us hR hv => three_args (rdP_some h1) rfl hR hv)
  · obtain ⟨l, h1, h2⟩ := Option.map_eq_some_iff.1 h
    cases h2
    exact frame0 (All_call _ l _ ⟨.e, 0⟩) rfl (fun E w us hR hv => three_args (rdP_some h1) rfl hR hv)
  · cases h
theorem KH_none {f : Nat} {args : List AV} {H : AHeap} (h16 : f ≠ 25) (h22 : f ≠ 26) : KH f args H = none := by
  unfold KH
  split
  · exact absurd rfl h16
  · exact absurd rfl h22
  · rfl
theorem rdP_imm (H : AHeap) (l : List (Int × Int)) : rdP H (pairsI l) = none := by
  unfold rdP
  rw [dif_neg]
  rintro ⟨m, ⟨_, ⟨h, _⟩ | ⟨i, full, h, _⟩⟩ | ⟨_, _, i, h, _⟩⟩ <;> cases h
theorem KH_imm {f : Nat} {s : List UInt8} {l : List (Int × Int)} {gap : Int} {H : AHeap} : KH f [.str s, pairsI l, .int .i64 gap] H = none := by
  unfold KH
  split
  · rename_i e
    simp only [List.cons.injEq, and_true] at e
    rw [← e.2.1, rdP_imm]
    rfl
  · rename_i e
    simp only [List.cons.injEq, and_true] at e
    rw [← e.2.1, rdP_imm]
    rfl
  · rfl
noncomputable def KT : CF := Kor KH (Kor KR KE)
theorem KT_ok : CFok Tryz.prog KT := Kor_ok KH_ok (Kor_ok KR_ok KE_ok)
theorem KT_R {f : Nat} {args : List AV} {H : AHeap} {r : AV × AHeap} (h0 : KH f args H = none) (h : KR f args H = some r) : KT f args H = some r := Kor_r h0 (Kor_l h)
theorem KT_E {f : Nat} {args : List AV} {H : AHeap} {r : AV × AHeap} (h : KE f args H = some r) (h15 : f ≠ 24) (h9 : f ≠ 16) (h16 : f ≠ 25) (h19 : f ≠ 31) (h22 : f ≠ 26) : KT f args H = some r := Kor_r (KH_none h16 h22) (Kor_r (KR_none h15 h9 h16 h19 h22) h)
section
variable {H : AHeap} {s : List UInt8} {P : AV} {l : List (Int × Int)} {gap : Int}
theorem KT_most (h : readE s l gap = 0) : KT 25 [.str s, pairsI l, .int .i64 gap] H = some (.tup [nA (mostF s (rulesOf l) gap 0 s.length), .int .i64 0], H) := KT_R KH_imm (KR_16 s H h)
theorem KT_all (h : readE s l gap = 0) : KT 26 [.str s, pairsI l, .int .i64 gap] H = some (.tup [.str (decS (szF s (rulesOf l) gap 0 s.length).sum), .int .i64 0], H) := KT_R KH_imm (KR_22 s H h)
theorem KT_lives : KT 16 [] H = some (.bool true, H) := KT_R (KH_none (by decide) (by decide)) (KR_9 H)
theorem KT_of {n : Nat} (h : n < bigN) : KT 29 [.str (decS n)] H = some (qN n, H) := KT_E (E29 (by have := decL_big h; omega) H) (by decide) (by decide) (by decide) (by decide) (by decide)
end
theorem szF_big {s : List UInt8} {l : List (Int × Int)} {gap : Int} (h : readE s l gap = 0) : (szF s (rulesOf l) gap 0 s.length).sum < bigN := (szF_le s _ gap (readE_zero h).1).2
end Go.Proofs.YtfcgofffalmdfaaGreatDoor.PA
namespace Go.Eng
variable {P : Program}
inductive FzP (H : AHeap) : AV → AV → Prop
  | plain {v : AV} (h : AV.plain v = true) : FzP H v v
  | agg {l m : List AV} (hl : m.length = l.length) (h : ∀ (j : Nat) (x y : AV), l[j]? = some x → m[j]? = some y → FzP H x y) : FzP H (.agg l) (.agg m)
  | tup {l m : List AV} (hl : m.length = l.length) (h : ∀ (j : Nat) (x y : AV), l[j]? = some x → m[j]? = some y → FzP H x y) : FzP H (.tup l) (.tup m)
  | fsl {i o l c k : Nat} {cs ds : List AV} {opn : Option Nat} (hg : H.get i = some (.cells cs opn)) (hd : (cs.drop o).take k = ds) (hp : AV.plainL ds = true) (h0 : l = 0 → ds = []) : FzP H (.sl i o l c) (.imm ds l false)
  | fnil : FzP H .nils (.imm [] 0 false)
theorem FzP.sound {E E'' : Env} {w : World} {H : AHeap} (hR : Rel E H w) (hF : ∀ i o L, H.get i = some o → E.ρ i = some L → E''.I L.b) : ∀ {v v' : AV}, FzP H v v' → ∀ u, AVRel E w v u → AVRel E'' w v' u := by
  intro v v' h
  induction h with
  | plain hp => intro u h; exact plain_rel hp h
  | agg hl _ ih =>
    intro u h
    simp only [AVRel] at h ⊢
    obtain ⟨us, h1, h2⟩ := h
    exact ⟨us, h1, h2.fz hl ih⟩
  | tup hl _ ih =>
    intro u h
    simp only [AVRel] at h ⊢
    obtain ⟨us, h1, h2⟩ := h
    exact ⟨us, h1, h2.fz hl ih⟩
  | @fsl i o l c k cs ds opn hg hd hp h0 =>
    intro u h
    subst hd
    obtain ⟨L, ad, c', C, t, fz, us, hρ', rfl, hsl, hlc, hb, hr, hcell, _⟩ := row_sound hR h hg
    simp only [AVRel]
    by_cases q : l = 0
    · exact .inl ⟨q, h0 q, some ad, c', by rw [q], fun q => by cases q⟩
    · obtain rfl := hsl.addr hlc q
      refine .inr ⟨L.b, L.s + o, c', (us.drop o).take k, rfl, hF i _ L hg hρ', fun j x hj => ?_, plain_relL hp ((hr.drop o).take k), hlc, fun q => by cases q⟩
      rw [List.getElem?_take] at hj
      split at hj
      · rw [List.getElem?_drop] at hj
        have := hcell _ x hj
        simp only [World.cell?, hb]
        rw [show L.s + o + j = L.s + (o + j) by omega]
        exact this
      · cases hj
  | fnil =>
    intro u h
    simp only [AVRel] at h ⊢
    exact .inl ⟨trivial, trivial, none, 0, h, fun q => by cases q⟩
theorem CallOK.thaw {f : Nat} {args args0 : List AV} {v v' : AV} {H H1 : AHeap} (h : CallOK P f args0 ⟨.e, 0⟩ v H1) (hv : FzP H1 v v') (ha : ∀ E w us, Rel E H w → AVRelL E w args us → AVRelL (E0 w) w args0 us) : CallOK P f args H v' H := by
  refine ⟨h.1, fun E w us hR hus => ?_⟩
  refine (h.2 (E0 w) w us (rel0 w) (ha E w us hR hus)).mono ?_
  rintro e w' ⟨u, E', rfl, hs, hvr⟩
  have hblk : ∀ b, b < w.heap.size → w'.heap[b]? = w.heap[b]? := fun b hb => hs.fr.block b hb (fun i o L q => by simp [AHeap.get, Tr.get] at q)
  have hsz := hs.fr.size
  have hnew : ∀ i o L, H1.get i = some o → E'.ρ i = some L → w.heap.size ≤ L.b := fun i o L q1 q2 => by
    rcases hs.nb i o L q1 q2 with q | ⟨j, o', L', q, _⟩
    · exact q
    · simp [AHeap.get, Tr.get] at q
  have hext : Env.Ext E ⟨E.ρ, fun b => E.I b ∨ (w.heap.size ≤ b ∧ b < w'.heap.size), E.lk⟩ w w' := ⟨fun _ _ q => q, fun _ q => .inl q, fun b q => hblk b (hR.imm b q), fun _ _ _ q => q⟩
  refine ⟨u, ⟨E.ρ, fun b => E.I b ∨ (w.heap.size ≤ b ∧ b < w'.heap.size), E.lk⟩, rfl, ⟨hext, ⟨fun i L q => ?_, fun b q => ?_, fun i o q => ?_, hR.inj⟩, ⟨hs.fr.os, hs.fr.tape, hs.fr.output, hsz, fun b hb _ => hblk b hb⟩, fun i o L q q2 => .inr ⟨i, o, L, q, q2, rfl⟩, Nat.le_refl _, fun i L q => .inl q, fun b q => q.imp id (fun q => .inl q.1)⟩, ?_⟩
  · have := hR.dom i L q
    exact ⟨this.1, by omega⟩
  · rcases q with q | q
    · have := hR.imm b q
      omega
    · exact q.2
  · obtain ⟨L, q1, q2, q3⟩ := hR.obj i o q
    have hlt := (hR.dom i L q1).2
    refine ⟨L, q1, ObjR.mono hext (hblk _ hlt) q2, fun q4 => ?_⟩
    rcases q4 with q4 | q4
    · exact q3 q4
    · omega
  · exact FzP.sound hs.rel (fun i o L q1 q2 => Or.inr ⟨hnew i o L q1 q2, (hs.rel.dom i L q2).2⟩) hv u hvr
end Go.Eng
namespace Go.Proofs.YtfcgofffalmdfaaGreatDoor.PA
structure DivI (a : List Nat) (B i : Nat) (N : List Nat) (r : Nat) : Prop where
  v : valZ (a.drop i) = valZ (N.drop i) * B + r
  r : r < B
  l : N.length = a.length
  d : digZ N
  i : i ≤ a.length
theorem DivI.zero (a : List Nat) {B : Nat} (hB : 0 < B) : DivI a B a.length (List.replicate a.length 0) 0 := by
  refine ⟨?_, hB, by simp, fun x hx => ?_, Nat.le_refl _⟩
  · rw [List.drop_length, List.drop_eq_nil_of_le (by simp)]
    simp [valZ]
  · rw [List.eq_of_mem_replicate hx]
    decide
theorem DivI.step {a : List Nat} {B i low : Nat} {N : List Nat} {r : Nat} (h : DivI a B (i + 1) N r) (hl : low < BZ) (h1 : B * low ≤ a.getD i 0 + BZ * r) (h2 : a.getD i 0 + BZ * r < B * (low + 1)) : DivI a B i (N.set i low) (a.getD i 0 + BZ * r - B * low) := by
  have hi := h.i
  have hlN := h.l
  have hv := h.v
  refine ⟨?_, ?_, by rw [List.length_set, h.l], digZ_set h.d i hl, by omega⟩
  · rw [valZ_drop a i, valZ_drop (N.set i low) i, getZ_set N i low i (by omega), if_pos rfl]
    have e : (N.set i low).drop (i + 1) = N.drop (i + 1) := by
      rw [List.drop_set_of_lt (by omega)]
    rw [e, hv, Nat.mul_add, Nat.add_mul]
    have e2 : BZ * (valZ (N.drop (i + 1)) * B) = BZ * valZ (N.drop (i + 1)) * B := by rw [Nat.mul_assoc]
    rw [e2, Nat.mul_comm low B]
    omega
  · rw [Nat.mul_add, Nat.mul_one] at h2
    omega
theorem DivI.done {a : List Nat} {B : Nat} {N : List Nat} {r : Nat} (h : DivI a B 0 N r) : valZ N = valZ a / B ∧ r = valZ a % B := by
  have hv := h.v
  rw [List.drop_zero, List.drop_zero] at hv
  have := h.r
  rw [hv]
  constructor
  · rw [Nat.mul_comm, Nat.mul_add_div (by omega), Nat.div_eq_of_lt this, Nat.add_zero]
  · rw [Nat.mul_comm, Nat.mul_add_mod, Nat.mod_eq_of_lt this]
theorem DivI.lt {a : List Nat} {B i : Nat} {N : List Nat} {r : Nat} (h : DivI a B (i + 1) N r) (ha : digZ a) : a.getD i 0 + BZ * r < B * 10000 := by
  have h1 := digZ_get ha i
  have h2 := h.r
  have h3 : BZ * (r + 1) ≤ BZ * B := Nat.mul_le_mul_left _ h2
  rw [Nat.mul_add, Nat.mul_one] at h3
  rw [show BZ = 10000 from rfl] at h1 h3 ⊢
  omega
theorem valZ_cons (x : Nat) (l : List Nat) : valZ (x :: l) = x + BZ * valZ l := rfl
end Go.Proofs.YtfcgofffalmdfaaGreatDoor.PA
namespace Go.Proofs.YtfcgofffalmdfaaGreatDoor.PA
open Go Go.Eng Go.Proofs
theorem RdR.src {z len : Nat} {H : AHeap} {X : AV} {cs : List AV} (h : RdR z H X len cs) : srcA H z len X = some cs := by
  obtain ⟨h0, ⟨f, rfl⟩ | ⟨rfl, rfl⟩ | ⟨i, c, full, opn, rfl, h1, h2, h3, h4⟩⟩ := h
  · simp only [srcA]
    rw [if_pos (by omega), List.take_of_length_le (by omega)]
  · have : cs = [] := List.eq_nil_of_length_eq_zero (by omega)
    subst this
    rfl
  · simp only [srcA, h2, Nat.zero_add, List.drop_zero]
    rw [if_pos h4, h3]
theorem RdR.inj {z len len' : Nat} {H : AHeap} {X : AV} {cs cs' : List AV} (h : RdR z H X len cs) (h' : RdR z H X len' cs') : cs = cs' := by
  have e := h.len
  rw [h'.len] at e
  cases e
  have := h.src
  rw [h'.src] at this
  exact (Option.some.inj this).symm
theorem RdR.lenA {z len : Nat} {H : AHeap} {X : AV} {cs : List AV} (h : RdR z H X len cs) : Go.Eng.lenA X = some len := by
  obtain ⟨h0, ⟨f, rfl⟩ | ⟨rfl, rfl⟩ | ⟨i, c, full, opn, rfl, h1, h2, h3, h4⟩⟩ := h <;> rfl
theorem RdR.nstr {z len : Nat} {H : AHeap} {X : AV} {cs : List AV} (h : RdR z H X len cs) : ∀ s, X ≠ .str s := by
  obtain ⟨h0, ⟨f, rfl⟩ | ⟨rfl, rfl⟩ | ⟨i, c, full, opn, rfl, h1, h2, h3, h4⟩⟩ := h <;> intro s e <;> cases e
theorem nAs_plain (d : List Nat) : AV.plainL (d.map nA) = true := by
  induction d with
  | nil => rfl
  | cons x d ih => simp [AV.plainL, AV.plain, nA] at ih ⊢; exact ih
theorem rd_arg {H : AHeap} {X : AV} {d : List Nat} (h : RdR 1 H X d.length (d.map nA)) {E : Env} {w : World} {u : Value} (hR : Rel E H w) (hv : AVRel E w X u) : AVRel (E0 w) w (rowZ d) u :=
  Go.Eng.freeze hR hv h.lenA h.src h.nstr (nAs_plain d) (fun h0 => by rw [List.eq_nil_of_length_eq_zero h0]; rfl)
open Classical in
noncomputable def K83 : CF := fun f args H => match f, args with
  | 83, [.agg [.bool false, X]] => if h : ∃ d : List Nat, RdR 1 H X d.length (d.map nA) ∧ digZ d ∧ d.length < 2000 then some (zN (valZ h.choose), H) else none
  | _, _ => none
theorem rowZ_fzp {H : AHeap} {v : AV} {l : List Nat} (h : RowE 1 H v l.length (l.map nA)) : FzP H v (rowZ l) := by
  rcases h with ⟨_, ⟨rfl, h0⟩ | ⟨i, full, rfl, hg, hf, hfl, hi⟩⟩ | ⟨h0, h1, i, rfl, h2, h3⟩
  · have : l = [] := List.eq_nil_of_length_eq_zero h0
    subst this
    exact .fnil
  · exact .fsl (k := l.length * 1) hg (by rw [List.drop_zero, hf]) (nAs_plain l) (fun h0 => by rw [List.eq_nil_of_length_eq_zero h0]; rfl)
  · have : l = [] := List.eq_nil_of_length_eq_zero h0
    subst this
    exact .fsl (k := 0) h3 rfl rfl (fun _ => rfl)
theorem K83_ok : CFok Tryz.prog K83 := by
  intro f args H v H' h
  unfold K83 at h
  split at h
  · split at h
    · rename_i X q
      cases h
      obtain ⟨q1, q2, q3⟩ := q.choose_spec
      obtain ⟨v, H', h1, u, rfl, hR, _⟩ := lean_ok (cf := xcallK Kno F 3000 0) (fuel := 3000) (H := ⟨.e, 0⟩) (X := rowZ q.choose) (.inl rfl) q2 (by omega) (by omega)
      refine (xcallK_sound mixed Kno_ok F_ok 3000 1 83 _ _ _ _ ((cfstep rfl rfl).trans h1)).thaw (v' := zN (valZ q.choose)) (.agg rfl (fun j x y hx hy => ?_)) (fun E w us hRel hus => ?_)
      · match j, hx, hy with
        | 0, hx, hy => cases hx; cases hy; exact .plain rfl
        | 1, hx, hy => cases hx; cases hy; exact rowZ_fzp hR
      · simp only [AVRelL, AVRel] at hus ⊢
        obtain ⟨a, us1, rfl, ⟨bs, rfl, b1, bs1, hb, rfl, b2, bs2, rfl, hb2, rfl⟩, rfl⟩ := hus
        exact ⟨_, _, rfl, ⟨_, rfl, _, _, hb, rfl, _, _, rfl, rd_arg q1 hRel hb2, rfl⟩, rfl⟩
    · cases h
  · cases h
open Classical in
theorem K83_hit {H : AHeap} {X : AV} {d : List Nat} (h : RdR 1 H X d.length (d.map nA)) (hd : digZ d) (hl : d.length < 2000) : K83 83 [.agg [.bool false, X]] H = some (zN (valZ d), H) := by
  have q : ∃ d : List Nat, RdR 1 H X d.length (d.map nA) ∧ digZ d ∧ d.length < 2000 := ⟨d, h, hd, hl⟩
  show (if h : ∃ d : List Nat, RdR 1 H X d.length (d.map nA) ∧ digZ d ∧ d.length < 2000 then some (zN (valZ h.choose), H) else none) = _
  rw [dif_pos q]
  have e := (q.choose_spec.1.inj h)
  have e2 : q.choose = d := (List.map_inj_right (fun x y => nA_inj)).1 e
  rw [e2]
theorem K83_none {f : Nat} {args : List AV} {H : AHeap} (h : f ≠ 83) : K83 f args H = none := by
  unfold K83
  split
  · exact absurd rfl h
  · rfl
noncomputable def KD : CF := Kor K83 KE
theorem KD_ok : CFok Tryz.prog KD := Kor_ok K83_ok KE_ok
theorem KD_E {f : Nat} {args : List AV} {H : AHeap} {r : AV × AHeap} (h : f ≠ 83) (hk : KE f args H = some r) : KD f args H = some r := Kor_r (K83_none h) hk
theorem KD_83 {H : AHeap} {X : AV} {d : List Nat} (h : RdR 1 H X d.length (d.map nA)) (hd : digZ d) (hl : d.length < 2000) : KD 83 [.agg [.bool false, X]] H = some (zN (valZ d), H) := Kor_l (K83_hit h hd hl)
theorem k_fldZ {cf : CF} {n m : Nat} {H : AHeap} {l : KL0} {x : XO} (hx : evK l x = some (zN m)) : XV cf l H n (.fld 1 none x) = some (rowZ (dz m), H) :=
  k_any (by simp only [xval, xop, hx]; rfl)
theorem times_walk {m n : Nat} (hm : (dz m).length < 300) (hn : n < 10001) : ∃ v H', xfunc (xcallK KE F 3000 0) 3000 L84 [rowZ (dz m), nA n] ⟨.e, 0⟩ = some (v, H') ∧ v = rowZ (dz (m * n)) := by
  refine xfunc_ofK rfl (by show 2 ≤ 12; omega) ?_
  have hn2 : (dz n).length < 3 := by have := dz_len 2 n (by show n < 10000 ^ 2; omega); omega
  have hmn : (dz (m * n)).length < 400 := by
    have h1 := valZ_lt (digZ_dz m)
    rw [valZ_dz] at h1
    have h2 : m * n < BZ ^ ((dz m).length + 2) := by
      rw [Nat.pow_add]
      refine Nat.lt_of_lt_of_le (Nat.mul_lt_mul_of_lt_of_le h1 (show n ≤ BZ ^ 2 by show n ≤ 10000 ^ 2; omega) (by decide)) (Nat.le_refl _)
    have := dz_len _ _ h2
    omega
  unfold L84
  dsimp only
  repeat' (first | refine WK.seq ?_ | refine WK.ret ?_ | (apply WK.reg; (· exact lnn)) | refine WKO.nil ?_ | ((first | apply WKO.op); (· first | exact k_mv rfl | (apply k_call; (· rfl); (· rfl); (· exact cfhit (E52 (by omega) _))) | (apply k_call; (· rfl); (· rfl); (· exact cfhit (E72 (m := m) (n := n) (by omega) (by omega) _))) | (apply k_call; (· rfl); (· rfl); (· exact cfhit (E83 (digZ_dz (m * n)) (by omega) _))) | exact k_fldZ rfl | exact opA); (· rfl)) | refine pN ?_ | fail)
  exact ⟨fun id q => (by cases q), _, rfl, by rw [valZ_dz]; rfl⟩
theorem E84 {m n : Nat} (hm : (dz m).length < 300) (hn : n < 10001) (H : AHeap) : KE 84 [rowZ (dz m), nA n] H = some (rowZ (dz (m * n)), H) := by
  obtain ⟨v, H', h, rfl⟩ := times_walk hm hn
  have hc := (xfunc_sound mixed (xcallK_sound mixed KE_ok F_ok 3000 0) 3000 (F_ok 84 L84 rfl) h).pure (H := H) (by simp only [AV.frozL, rowZ_froz, AV.froz, nA, Bool.and_self]) (Fz.froz (rowZ_froz _))
  obtain ⟨v', q1, q2⟩ := KE_hit hc (fun m' n' e => by
    simp only [List.cons.injEq, and_true] at e
    rw [dz_inj (rowZ_inj e.1), nA_inj e.2])
  rw [q1, q2 m n rfl]
theorem _root_.Go.Eng.HF.swap {H0 H : AHeap} {mod : List Nat} {T : Nat} {a b : Nat × AObj} {fs : List (Nat × AObj)} (h : HF H0 mod T (a :: b :: fs) H) : HF H0 mod T (b :: a :: fs) H :=
  ⟨fun p hp => h.obj p (by simp only [List.mem_cons] at hp ⊢; rcases hp with q | q | q; exact .inr (.inl q); exact .inl q; exact .inr (.inr q)), fun p hp => h.lt p (by simp only [List.mem_cons] at hp ⊢; rcases hp with q | q | q; exact .inr (.inl q); exact .inl q; exact .inr (.inr q)), by
    have := h.nd
    simp only [List.map_cons, List.nodup_cons, List.mem_cons, not_or] at this ⊢
    exact ⟨⟨fun e => this.1.1 e.symm, this.2.1⟩, this.1.2, this.2.2⟩, h.base, h.le, h.fr⟩
section
variable {cf : CF} {n : Nat} {H0 H H' : AHeap} {mod : List Nat} {T : Nat} {fs : List (Nat × AObj)} {l : KL0} {R : KL0 → AHeap → Prop} {r : List XOper} {x y : XO}
theorem WKO.bsN {d : Nat} {z : List AV} (hF : HF H0 mod T fs H) (hm : H'.m = H.m) (hn : H.next ≤ H'.next) (hb : H0.next ≤ n) (hT : n < T) (hi : n ∉ fs.map (·.1)) (hlt : T ≤ H'.next)
    (k : ∀ H1, HF H0 mod T ((n, .cells [] none) :: fs) H1 → H1.next = H'.next → WKO cf r (n + 1) ((d, .sl n 0 0 0) :: l) H1 R) : WKO cf (⟨some d, .bslice z [] 0, none⟩ :: r) n l H' R :=
  WKO.op (v := .sl n 0 0 0) (H1 := H'.set n (some (.cells [] none))) (k_any (by simp [xval, xop, evParts, fillA])) rfl (k _ ((hF.up hm hn).newN hb hT hi (by rw [next_set]; exact hlt) (by rw [AHeap.get_set, if_pos rfl]) (fun k hk => by rw [AHeap.get_set, if_neg hk])) rfl)
theorem WKO.apC {d i bytes len : Nat} {v X : AV} {cs : List AV} (hx : evK l x = some (.sl i 0 1 1)) (hy : evK l y = some X) (hg : H'.get i = some (.cells [v] none)) (hi : i < H'.next) (hX : RdR 1 H' X len cs) (ho : cs.all AV.oneCell = true) (hl : len < 1000000) (hb : bytes ≤ 2 ^ 16)
    (k : ∀ Y H1, RdR 1 H1 Y (len + 1) (v :: cs) → H'.next ≤ H1.next → (∀ q, q < H'.next → H1.get q = H'.get q) → WKO cf r (n + 1) ((d, Y) :: l) H1 R) : WKO cf (⟨some d, .app 1 bytes x y, none⟩ :: r) n l H' R := by
  have hlen : Go.Eng.lenA X = some len := hX.lenA
  have hsrc := hX.src
  by_cases h0 : len = 0
  · subst h0
    have : cs = [] := List.eq_nil_of_length_eq_zero (by have := hX.1; omega)
    subst this
    have e : appA H' 1 bytes (.sl i 0 1 1) X = .eff (.sl i 0 1 1) H' := by
      simp only [appA, hlen, hsrc, hg]
      rw [if_neg (by simp; omega), if_neg (by omega), if_pos trivial]
    exact WKO.op (v := .sl i 0 1 1) (H1 := H') (k_any (by simp only [xval, xop, hx, hy, e])) (by simp [allSm, XOp.opnds, hx, hy]) (k _ H' ⟨rfl, .inr (.inr ⟨i, 1, _, _, rfl, hi, hg, rfl, Nat.le_refl _⟩)⟩ (Nat.le_refl _) (fun _ _ => rfl))
  · have e : appA H' 1 bytes (.sl i 0 1 1) X = .eff (.sl H'.next 0 (1 + len) openCap) (H'.add (.cells ([v] ++ cs) (some 1))) := by
      simp only [appA, hlen, hsrc, hg]
      rw [if_neg (by simp only [ho]; simp; omega), if_neg (by omega), if_neg h0, if_neg (by simp), if_pos (by decide), if_neg (by omega)]
      rfl
    refine WKO.op (v := .sl H'.next 0 (1 + len) openCap) (H1 := H'.add (.cells ([v] ++ cs) (some 1))) (k_any (by simp only [xval, xop, hx, hy, e])) (by simp [allSm, XOp.opnds, hx, hy]) (k _ _ ⟨by have := hX.1; simp; omega, .inr (.inr ⟨H'.next, _, _, _, by rw [Nat.add_comm], by rw [next_add]; omega, by rw [AHeap.get_add, if_pos rfl], ?_, ?_⟩)⟩ (by rw [next_add]; omega) (fun q hq => by rw [AHeap.get_add, if_neg (by omega)]))
    · rw [List.take_of_length_le (by have := hX.1; simp; omega)]
      rfl
    · have := hX.1
      simp
      omega
end
section
variable {cf : CF} {n : Nat} {z : Int} {H : AHeap} {l : KL0} {x : XO}
theorem k_leqI (hx : evK l x = some (zA z)) : XV cf l H n (.bin .leq x (.k (.int .i64 (.ofNat 0)))) = some (.bool (decide (z ≤ 0)), H) := k_bin hx rfl rfl
end
theorem cmpI_le {m n : Nat} : cmpI m n ≤ 0 ↔ m ≤ n := by
  unfold cmpI
  constructor
  · intro h
    split at h
    · omega
    · split at h <;> omega
  · intro h
    split
    · omega
    · rw [if_pos (by omega)]
      omega
end Go.Proofs.YtfcgofffalmdfaaGreatDoor.PA
namespace Go.Proofs.YtfcgofffalmdfaaGreatDoor.PA
open Go Go.Eng Go.Proofs
abbrev dvF (H : AHeap) (po nb : Nat) (a b N : List Nat) : List (Nat × AObj) :=
  [(po, .cells (N.map nA) none), (nb, .cells [] none), (H.next + 1 + 1 + 1, .cells [.bool false, .nils] none), (H.next + 1 + 1, .cells [.bool false, .nils] none), (H.next + 1, .cells [.bool false, rowZ b] none), (H.next, .cells [.bool false, rowZ a] none)]
def dvX (nb : Nat) (X : AV) (r : Nat) : Prop := X = rowZ (dz r) ∨ X = .sl nb 0 0 0 ∧ r = 0
theorem dvX.rd {nb r : Nat} {X : AV} {H : AHeap} (h : dvX nb X r) (hg : H.get nb = some (.cells [] none)) (hn : nb < H.next) : RdR 1 H X (dz r).length ((dz r).map nA) := by
  rcases h with rfl | ⟨rfl, rfl⟩
  · exact rowZ_rd H _
  · rw [dz_zero]
    exact ⟨rfl, .inr (.inr ⟨nb, 0, [], none, rfl, hn, hg, rfl, Nat.le_refl _⟩)⟩
theorem RdR.one {z len : Nat} {H : AHeap} {X : AV} {cs : List AV} (h : RdR z H X len cs) : X.oneCell = true := by
  obtain ⟨h0, ⟨f, rfl⟩ | ⟨rfl, rfl⟩ | ⟨i, c, full, opn, rfl, h1, h2, h3, h4⟩⟩ := h <;> rfl
theorem k_b1 {cf : CF} {n : Nat} {H : AHeap} {l : KL0} {x : XO} {Y : AV} (hx : evK l x = some Y) (hY : Y.oneCell = true) : XV cf l H n (.build [.bool false, .nils] [(1, 1, x)]) = some (.agg [.bool false, Y], H) := by
  refine k_any ?_
  have e : (evParts (evK l) [(1, 1, x)]).bind (fun q => (fillA [.bool false, .nils] q  ).map AV.agg) = some (.agg [.bool false, Y]) := by
    simp [evParts, hx, fillA, one_cells hY]
  simp only [xval, xop]
  rw [e]
  rfl
theorem k_b2 {cf : CF} {n : Nat} {H : AHeap} {l : KL0} {x y : XO} {Y : AV} {b : Bool} (hx : evK l x = some (.bool b)) (hy : evK l y = some Y) (hY : Y.oneCell = true) : XV cf l H n (.build [.bool false, .nils] [(0, 1, x), (1, 1, y)]) = some (.agg [.bool b, Y], H) := by
  refine k_any ?_
  have e : (evParts (evK l) [(0, 1, x), (1, 1, y)]).bind (fun q => (fillA [.bool false, .nils] q  ).map AV.agg) = some (.agg [.bool b, Y]) := by
    have := one_cells hY
    simp [evParts, hx, hy, fillA, this, show (AV.bool b).cells = [.bool b] from rfl]
  simp only [xval, xop]
  rw [e]
  rfl
theorem resK_two {l : KL0} {H : AHeap} {t i n t2 i2 n2 : Nat} {c c2 : List AV} {opn opn2 : Option Nat} (hl : Go.Eng.look l t = some (.ptr i 0)) (hg : H.get i = some (.cells c opn)) (hc : c.length = n) (hl2 : Go.Eng.look l t2 = some (.ptr i2 0)) (hg2 : H.get i2 = some (.cells c2 opn2)) (hc2 : c2.length = n2) : resK l H [.c t (some n), .c t2 (some n2)] = some [.agg c, .agg c2] := by
  simp only [resK, resK1, hl, hl2, Option.bind_some, loadA, cellsAt, hg, hg2, List.drop_zero]
  rw [if_pos (by omega), List.take_of_length_le (by omega), if_pos (by omega), List.take_of_length_le (by omega)]
  rfl
theorem _root_.Go.Eng.WKT.stG {cf : CF} {n : Nat} {H0 H H' : AHeap} {mod : List Nat} {T : Nat} {fs gs : List (Nat × AObj)} {l : KL0} {Q : List (KL0 × AHeap) → Prop} {r : List XOper} {i p m : Nat} {c : List AV} {opn : Option Nat} {v : AV} {a x : XO} (ha : evK l a = some (.ptr i p)) (hx : evK l x = some v) (hF : HF H0 mod T (gs ++ (i, .cells c opn) :: fs) H) (hm : H'.m = H.m) (hn : H.next ≤ H'.next) (hi : i ∈ mod ∨ H0.next ≤ i) (hl : v.cells.length = m) (h1 : v.cells.all AV.oneCell = true) (hf : p + m ≤ c.length)
    (k : ∀ H1, HF H0 mod T (gs ++ (i, .cells (overA c p v.cells) opn) :: fs) H1 → H1.next = H'.next → (∀ q, q ≠ i → H1.get q = H'.get q) → WKT cf r (n + 1) l H1 fun ps => Q ((l, H') :: ps)) : WKT cf (⟨none, .store m a x, none⟩ :: r) n l H' Q := by
  have hF' := hF.up hm hn
  have hst := op_store (cf := cf) (m := n) (n := m) (i := i) (o := p) (v := v) (H := H') (ev := evK l) ha hx (hF'.obj (i, _) (List.mem_append.2 (.inr (List.mem_cons_self ..)))) hl h1 hf
  exact WKT.opn (k_any hst) (by simp [allSm, XOp.opnds, ha, hx]) (k _ (hF'.put hi rfl (by rw [AHeap.get_set, if_pos rfl]) (fun k hk => by rw [AHeap.get_set, if_neg hk])) rfl (fun q hq => by rw [AHeap.get_set, if_neg hq]))
set_option maxHeartbeats 8000000 in
theorem divmod_walk {m n : Nat} (hm : (dz m).length < 200) (hn : (dz n).length < 200) (h0 : 0 < n) : ∃ v H', xfunc (xcallK KD F 20000 0) 20000 L45 [zN m, zN n] ⟨.e, 0⟩ = some (v, H') ∧ v = .tup [zN (m / n), zN (m % n)] := by
  refine xfunc_ofK rfl (by show 2 ≤ 92; omega) ?_
  have hF := HF.start ⟨.e, 0⟩
  generalize (⟨.e, 0⟩ : AHeap) = H at hF ⊢
  have hd1 := digZ_dz m
  have hv1 := valZ_dz m
  have ez : zN m = .agg [.bool false, rowZ (dz m)] := rfl
  simp only [ez]
  generalize dz m = a at hm hd1 hv1 ⊢
  unfold L45
  dsimp only
  repeat' (first | refine WK.seq ?_ | (apply WK.reg; (· exact lnn)) | (apply WKO.boxO; (· rfl); (· assumption); (· rfl); (· exact nxx); (· exact nxx); (· exact nxx); intro _ _ _) | (apply WKO.alO; (· assumption); (· rfl); (· exact nxx); (· exact nxx); (· exact nxx); intro _ _ _) | refine WKO.nil ?_ | ((first | apply WKO.op); (· first | exact k_lenZ rfl | (apply k_ldO; (· rfl); (· assumption); (· rfl); (· exact mmb); (· rfl)) | exact k_faddr rfl); (· rfl)) | refine pN ?_ | fail)
  rename_i H1 hF1 hn1 H2 hF2 hn2 H3 hF3 hn3 H4 hF4 hn4
  refine WKO.mkO (m := a.length) rfl rfl ⟨by omega, by decide⟩ hF4 rfl (by simp only [next_bump]; omega) ?_
  intro H5 hF5 hn5
  rw [replicate_nA] at hF5
  have hb4 := hF4.base
  have hl4 := hF4.le
  refine WKO.bsN hF5 rfl (Nat.le_refl _) (by omega) (by simp only [next_bump]; omega) (by simp only [List.map_cons, List.map_nil, List.mem_cons, List.not_mem_nil, or_false, next_bump]; omega) (by omega) ?_
  intro H6 hF6 hn6
  have hF6 := hF6.swap
  generalize hpo : (H4.bump 7).next = po at hF6 hn5 ⊢
  generalize hnb : H4.next + 1 + 1 + 1 + 1 = nb at hF6 ⊢
  have hpo2 : H.next ≤ po := by simp only [next_bump] at hpo; omega
  have hnb2 : H.next ≤ nb := by omega
  clear hF hF1 hF2 hF3 hF4 hF5
  repeat' (first | refine WK.seq ?_ | refine WK.block ?_ | (apply WK.reg; (· exact lnn)) | refine WKO.nil ?_ | ((first | apply WKO.op); (· first | exact k_mv rfl | exact k_lenZ rfl | exact k_subM rfl (by omega) | (apply k_ldO; (· rfl); (· assumption); (· rfl); (· exact .tail _ (.tail _ (.tail _ (.tail _ (.tail _ (.head _)))))); (· rfl)) | exact k_faddr rfl); (· rfl)) | refine pN ?_ | fail)
  refine WK.loop (α := Nat × List Nat × Nat × AV) (fun s => [(2, .ptr H.next 0), (3, .ptr (H.next + 1) 0), (4, .ptr (H.next + 1 + 1) 0), (5, .ptr (H.next + 1 + 1 + 1) 0), (6, .sl po 0 a.length a.length), (7, s.2.2.2), (8, zA ((s.1 : Int) - 1))])
    (fun s H' => (∃ T, HF H [] T (dvF H po nb a (dz n) s.2.1) H') ∧ DivI a n s.1 s.2.1 s.2.2.1 ∧ dvX nb s.2.2.2 s.2.2.1) (fun s => s.1) (a.length, List.replicate a.length 0, 0, .sl nb 0 0 0) (.cons rfl <| .cons rfl <| .cons rfl <| .cons rfl <| .cons rfl <| .cons rfl <| .cons rfl <| .nil _) ⟨⟨_, hF6.up rfl (by simp only [next_bump]; omega)⟩, DivI.zero a h0, .inr ⟨rfl, rfl⟩⟩ (by show a.length < 20000; omega) ?_
  rintro ⟨i, N, r, X⟩ H7 ⟨⟨T7, hF7⟩, hD, hX⟩
  simp only at hF7 hD hX ⊢
  clear hF6
  have hb7 := hF7.base
  have hl7 := hF7.le
  have hNl := hD.l
  cases i with
  | zero =>
    obtain ⟨q1, q2⟩ := hD.done
    rw [hv1] at q1 q2
    have hnbT : nb < T7 := hF7.lt (nb, _) (.tail _ (.head _))
    have hpoT : po < T7 := hF7.lt (po, _) (.head _)
    have ha83 : ∀ {H' : AHeap} {k : Nat}, H'.m = H7.m → H7.next ≤ H'.next → xcallK KD F 20000 k 83 [.agg [.bool false, .sl po 0 a.length a.length]] H' = some (zN (m / n), H') := fun {H' k} hm hn => by
      have := KD_83 (H := H') (X := .sl po 0 a.length a.length) (d := N) ⟨by simp, .inr (.inr ⟨po, _, _, _, by rw [hNl], by omega, (bump_get hm po).trans (hF7.obj _ (.head _)), by rw [List.take_of_length_le (by simp)], by simp⟩)⟩ hD.d (by omega)
      rw [q1] at this
      exact cfhit this
    have hb83 : ∀ {H' : AHeap} {k : Nat}, H'.m = H7.m → H7.next ≤ H'.next → xcallK KD F 20000 k 83 [.agg [.bool false, X]] H' = some (zN (m % n), H') := fun {H' k} hm hn => by
      have := KD_83 (H := H') (hX.rd ((bump_get hm nb).trans (hF7.obj (nb, _) (.tail _ (.head _)))) (by omega)) (digZ_dz r) (by have := dz_mono (Nat.le_of_lt hD.r); omega)
      rw [valZ_dz, q2] at this
      exact cfhit this
    have hX1 : X.oneCell = true := by rcases hX with rfl | ⟨rfl, _⟩ <;> rfl
    repeat' (first | refine WK.seq ?_ | refine WK.exit ?_ | (apply WK.reg; (· exact lnn)) | refine WKO.nil ?_ | ((first | apply WKO.op); (· first | exact k_mv rfl | exact k_geqM rfl); (· rfl)) | refine pN ?_ | refine pX ?_ | refine bX ?_ | (apply WK.condF; (· rfl); (· exact dcd)) | fail)
    refine ⟨fun _ => ?_, fun q => absurd rfl q⟩
    repeat' (first | refine WK.seq ?_ | refine WK.skip ?_ | (apply WK.reg; (· exact lnn)) | (apply WKO.alO; (· assumption); (· rfl); (· exact nxx); (· exact nxx); (· exact nxx); intro _ _ _) | (apply WKO.stO0; (· rfl); (· rfl); (· assumption); (· rfl); (· exact nxx); (· first | exact .inr nxx); (· rfl); (· rfl); (· first | decide); intro _ _ _) | (apply WKO.stO1; (· rfl); (· rfl); (· assumption); (· rfl); (· exact nxx); (· first | exact .inr nxx); (· rfl); (· rfl); (· first | decide); intro _ _ _) | refine WKO.nil ?_ | ((first | apply WKO.op); (· first | exact k_mv rfl | exact k_b1 rfl hX1 | exact k_b2 rfl rfl rfl | (apply k_ldO; (· rfl); (· assumption); (· rfl); (· first | exact .tail _ (.tail _ (.tail _ (.tail _ (.tail _ (.head _))))) | exact .tail _ (.tail _ (.tail _ (.tail _ (.tail _ (.tail _ (.tail _ (.head _)))))))); (· rfl)) | (apply k_call; (· rfl); (· rfl); (· exact ha83 rfl (by simp only [next_bump]; omega))) | (apply k_call; (· rfl); (· rfl); (· exact hb83 rfl (by simp only [next_bump]; omega))) | exact k_faddr rfl | exact opA); (· rfl)) | ((first | apply WKO.gnoT); (· rfl); (· exact dcd)) | refine pN ?_ | (apply WK.condF; (· rfl); (· exact dcd)) | fail)
    rename_i Ha hFa hna Hb hFb hnb Hc hFc hnc Hd hFd hnd
    generalize (H7.bump 2).next + 1 + 1 + 1 + 1 + 1 + 1 + 1 + 1 = p12 at hFd ⊢
    have hFs : HF H [] _ [(H.next + 1 + 1 + 1, .cells [.bool false, .nils] none), (H.next + 1 + 1, .cells [.bool false, .nils] none), (p12 + 1, .cells [.bool false, rowZ (dz (m % n))] none), (p12, .cells [.bool false, rowZ (dz (m / n))] none)] Hd :=
      ⟨fun p hp => by
        simp only [List.mem_cons, List.not_mem_nil, or_false] at hp
        rcases hp with rfl | rfl | rfl | rfl
        · exact hFd.obj (H.next + 1 + 1 + 1, _) (.tail _ (.tail _ (.tail _ (.tail _ (.head _)))))
        · exact hFd.obj (H.next + 1 + 1, _) (.tail _ (.tail _ (.tail _ (.tail _ (.tail _ (.head _))))))
        · exact hFd.obj (p12 + 1, _) (.head _)
        · exact hFd.obj (p12, _) (.tail _ (.head _)), fun p hp => by
        simp only [List.mem_cons, List.not_mem_nil, or_false] at hp
        rcases hp with rfl | rfl | rfl | rfl
        · exact hFd.lt (H.next + 1 + 1 + 1, _) (.tail _ (.tail _ (.tail _ (.tail _ (.head _)))))
        · exact hFd.lt (H.next + 1 + 1, _) (.tail _ (.tail _ (.tail _ (.tail _ (.tail _ (.head _))))))
        · exact hFd.lt (p12 + 1, _) (.head _)
        · exact hFd.lt (p12, _) (.tail _ (.head _)), by
        have h1 := hFd.nd
        simp only [List.map_cons, List.map_nil, List.nodup_cons, List.mem_cons, List.not_mem_nil, or_false, not_or, not_false_iff, List.nodup_nil, and_true] at h1 ⊢
        omega, hFd.base, hFd.le, hFd.fr⟩
    have hbs := hFs.base
    have hls := hFs.le
    have hp12 := hFs.nd
    simp only [List.map_cons, List.map_nil, List.nodup_cons, List.mem_cons, List.not_mem_nil, or_false, not_or, not_false_iff, List.nodup_nil, and_true] at hp12
    clear hFa hFb hFc hFd
    refine WK.regT (k := 4) rfl ?_
    have hFt := hFs.up (H' := (Hd.bump 8).bump 4) rfl (by simp only [next_bump]; omega)
    generalize (Hd.bump 8).bump 4 = HB at hFt ⊢
    have gB := hFt.obj (p12 + 1, _) (.tail _ (.tail _ (.head _)))
    repeat' (first | ((first | apply WKT.op); (· first | (apply k_ldA; (· rfl); (· exact hFt); (· rfl); (· exact mmb); (· rfl))); (· rfl)) | fail)
    refine WKT.stG (gs := [(H.next + 1 + 1 + 1, .cells [.bool false, .nils] none)]) rfl rfl hFt rfl (Nat.le_refl _) (.inr (by omega)) rfl rfl (Nat.le_refl _) ?_
    intro He hFe hne hge
    refine WKT.stG (gs := []) rfl rfl hFe rfl (Nat.le_refl _) (.inr (by omega)) rfl rfl (Nat.le_refl _) ?_
    intro Hf hFf hnf hgf
    repeat' (first | refine WKT.nil ?_ | fail)
    refine ⟨?_, fun j hj => (by cases hj), (_, Hf), rfl, ?_⟩
    · intro q hq
      obtain rfl : q = (1, [2], []) := by simpa using hq
      refine ⟨_, _, _, _, _, rfl, rfl, rfl, xop_ldn rfl gB rfl, fun j hj => ?_⟩
      have hj' : j = 1 ∨ j = 2 ∨ j = 3 := by simpa using hj
      rcases hj' with rfl | rfl | rfl
      · exact ⟨_, rfl, xop_ldn rfl gB rfl⟩
      · exact ⟨_, rfl, xop_ldn rfl gB rfl⟩
      · exact ⟨_, rfl, xop_ldn rfl ((hge _ (by omega)).trans gB) rfl⟩
    · refine ⟨fun _ => ?_, fun q => absurd rfl q⟩
      repeat' (first | refine WK.ret ?_ | fail)
      exact ⟨fun id q => (by cases q), _, resK_two rfl (hFf.obj (H.next + 1 + 1, _) (.tail _ (.head _))) rfl rfl (hFf.obj (H.next + 1 + 1 + 1, _) (.head _)) rfl, rfl⟩
  | succ i =>
    have hia := hD.i
    have hs1 := hD.lt hd1
    have hai := digZ_get hd1 i
    have hrn := hD.r
    rw [zA_nat]
    generalize hsv : a.getD i 0 + BZ * r = sv at hs1
    have hsl : (dz sv).length ≤ 201 := by
      have q1 := valZ_lt (digZ_dz n)
      rw [valZ_dz] at q1
      have : sv < BZ ^ ((dz n).length + 1) := by
        rw [Nat.pow_succ]
        exact Nat.lt_of_lt_of_le hs1 (Nat.mul_le_mul_right _ (Nat.le_of_lt q1))
      have := dz_len _ _ this
      omega
    have h84 : ∀ {w : Nat}, w < 10001 → ∀ {H' : AHeap} {k : Nat}, xcallK KD F 20000 k 84 [rowZ (dz n), nA w] H' = some (rowZ (dz (n * w)), H') := fun {w} hw {H' k} => cfhit (KD_E (by decide) (E84 (by omega) hw H'))
    have hnl : ∀ {w : Nat}, w < 10001 → (dz (n * w)).length ≤ 203 := fun {w} hw => by
      have q1 := valZ_lt (digZ_dz n)
      rw [valZ_dz] at q1
      have : n * w < BZ ^ ((dz n).length + 2) := by
        rw [Nat.pow_add]
        exact Nat.lt_of_lt_of_le (Nat.mul_lt_mul_of_lt_of_le q1 (show w ≤ BZ ^ 2 by show w ≤ 10000 ^ 2; omega) (by decide)) (Nat.le_refl _)
      have := dz_len _ _ this
      omega
    have h82 : ∀ {w : Nat}, w < 10001 → ∀ {H' : AHeap} {k : Nat}, xcallK KD F 20000 k 82 [rowZ (dz (n * w)), rowZ (dz sv)] H' = some (zA (cmpI (n * w) sv), H') := fun {w} hw {H' k} => cfhit (KD_E (by decide) (E82 (by have := hnl hw; omega) (by omega) H'))
    repeat' (first | refine WK.seq ?_ | refine WK.skip ?_ | refine WK.block ?_ | (apply WK.reg; (· exact lnn)) | (apply WKO.bsO; (· rfl); (· rfl); (· assumption); (· rfl); (· exact nxx); (· exact nxx); (· exact nxx); intro _ _ _) | refine WKO.nil ?_ | ((first | apply WKO.op); (· first | exact k_mv rfl | exact k_geqT rfl | (apply k_ldO; (· rfl); (· assumption); (· rfl); (· exact .tail _ (.tail _ (.tail _ (.tail _ (.tail _ (.head _)))))); (· rfl)) | exact k_iaZ rfl rfl (by omega) | exact k_ldZ rfl (by omega) | exact k_faddr rfl); (· rfl)) | refine pN ?_ | (apply WK.condT; (· rfl); (· exact dcd)) | fail)
    rename_i H8 hF8 hn8
    have hnb8 : nb < T7 := hF7.lt (nb, _) (.tail _ (.head _))
    have g8 : H8.get nb = some (.cells [] none) := hF8.obj (nb, _) (.tail _ (.tail _ (.head _)))
    have hl8 := hF8.le
    have hn8' := hn8
    simp only [next_bump] at hn8'
    refine WKO.apC rfl rfl (hF8.obj _ (.head _)) (by have := hF8.lt _ (.head _); simp only at this; omega) (hX.rd g8 (by omega)) (map_one _) (by have := dz_mono (show r ≤ sv by rw [← hsv, show BZ = 10000 from rfl]; omega); omega) (by decide) ?_
    intro Y H9 hY hn9 hk9
    have hF9 := (hF8.sub (gs := dvF H po nb a (dz n) N) (.cons _ (.refl _)) (Nat.le_refl _) hF8.le).call (H' := H9) (mod' := []) (fun k h1 _ => hk9 k h1) hn9 (fun k hk => by cases hk) (fun p _ => by simp)
    clear hF8 hF7
    have hY2 : RdR 1 H9 Y (a.getD i 0 :: dz r).length ((a.getD i 0 :: dz r).map nA) := hY
    have h83 : ∀ {H' : AHeap} {k : Nat}, H'.m = H9.m → H9.next ≤ H'.next → xcallK KD F 20000 k 83 [.agg [.bool false, Y]] H' = some (zN sv, H') := fun {H' k} hm hn => by
      have := KD_83 (H := H') (hY2.frame hn (fun q _ => bump_get hm q)) (fun x hx => by
        rcases List.mem_cons.1 hx with rfl | hx
        · exact hai
        · exact digZ_dz r x hx) (by have := dz_mono (show r ≤ sv by rw [← hsv, show BZ = 10000 from rfl]; omega); simp only [List.length_cons]; omega)
      rw [valZ_cons, valZ_dz, hsv] at this
      exact cfhit this
    have hY1 := hY.one
    repeat' (first | refine WK.seq ?_ | refine WK.block ?_ | (apply WK.reg; (· exact lnn)) | refine WKO.nil ?_ | ((first | apply WKO.op); (· first | exact k_mv rfl | exact k_b1 rfl hY1 | (apply k_call; (· rfl); (· rfl); (· exact h83 rfl (Nat.le_refl _))) | exact k_fldZ rfl); (· rfl)) | refine pN ?_ | fail)
    refine WK.loop (α := Nat × Nat) (fun s => [(2, .ptr H.next 0), (3, .ptr (H.next + 1) 0), (4, .ptr (H.next + 1 + 1) 0), (5, .ptr (H.next + 1 + 1 + 1) 0), (6, .sl po 0 a.length a.length), (7, rowZ (dz sv)), (8, nA i), (9, nA s.1), (10, nA s.2)])
      (fun s H' => (∃ T, HF H [] T (dvF H po nb a (dz n) N) H') ∧ s.1 < s.2 ∧ s.2 ≤ 10000 ∧ n * s.1 ≤ sv ∧ sv < n * s.2) (fun s => s.2 - s.1) (0, 10000) (.cons rfl <| .cons rfl <| .cons rfl <| .cons rfl <| .cons rfl <| .cons rfl <| .cons rfl <| .cons rfl <| .cons rfl <| .nil _) ⟨⟨_, hF9.up rfl (by simp only [next_bump]; omega)⟩, by decide, Nat.le_refl _, Nat.zero_le _, hs1⟩ (by show 10000 - 0 < 20000; omega) ?_
    rintro ⟨lo, hi⟩ H10 ⟨⟨T10, hF10⟩, hlh, hhi, hlo1, hhi1⟩
    simp only at hF10 hlh hhi hlo1 hhi1 ⊢
    have hb10 := hF10.base
    have hl10 := hF10.le
    clear hF9
    repeat' (first | refine WK.seq ?_ | refine WK.skip ?_ | refine WK.exit ?_ | refine WK.block ?_ | (apply WK.reg; (· exact lnn)) | refine WKO.nil ?_ | ((first | apply WKO.op); (· first | exact k_mv rfl | (apply k_call; (· rfl); (· rfl); (· exact h84 (by omega))) | (apply k_call; (· rfl); (· rfl); (· exact h82 (by omega))) | exact k_leqI rfl | (apply k_ldO; (· rfl); (· assumption); (· rfl); (· exact mmb); (· rfl)) | exact k_faddr rfl | exact opA); (· rfl)) | refine pN ?_ | refine pX ?_ | refine bN ?_ | refine bX ?_ | (apply WK.condD; (· rfl); all_goals intro _) | fail)
    · have hc := cmpI_le.1 (by assumption)
      exact ⟨((lo + hi) / 2, hi), (.cons rfl <| .cons rfl <| .cons rfl <| .cons rfl <| .cons rfl <| .cons rfl <| .cons rfl <| .cons rfl <| .cons rfl <| .nil _), ⟨⟨T10, hF10.up rfl (by simp only [next_bump]; omega)⟩, by show (lo + hi) / 2 < hi; omega, hhi, hc, hhi1⟩, by show hi - (lo + hi) / 2 < hi - lo; omega⟩
    · have hc : ¬ n * ((lo + hi) / 2) ≤ sv := fun e => absurd (cmpI_le.2 e) (by assumption)
      exact ⟨(lo, (lo + hi) / 2), (.cons rfl <| .cons rfl <| .cons rfl <| .cons rfl <| .cons rfl <| .cons rfl <| .cons rfl <| .cons rfl <| .cons rfl <| .nil _), ⟨⟨T10, hF10.up rfl (by simp only [next_bump]; omega)⟩, by show lo < (lo + hi) / 2; omega, by show (lo + hi) / 2 ≤ 10000; omega, hlo1, by show sv < n * ((lo + hi) / 2); omega⟩, by show (lo + hi) / 2 - lo < hi - lo; omega⟩
    · refine ⟨fun _ => ?_, fun q => absurd rfl q⟩
      have hhl : hi = lo + 1 := by omega
      subst hhl
      repeat' (first | refine WK.seq ?_ | (apply WK.reg; (· exact lnn)) | ((first | apply WKO.op); (· first | exact k_mv rfl | exact k_ia1s rfl rfl (by omega)); (· rfl)) | fail)
      refine WKO.stN (f := nA) (N := N) (p := i) rfl rfl (nA_cells _) (nA_one _) hF10 rfl nxx (.inr hpo2) (by omega) ?_
      intro H11 hF11 hn11
      simp only [next_bump] at hn11
      clear hF10
      repeat' (first | (apply WK.reg; (· exact lnn)) | refine WKO.nil ?_ | ((first | apply WKO.op); (· first | exact k_mv rfl | (apply k_call; (· rfl); (· rfl); (· exact h84 (by omega))) | (apply k_ldO; (· rfl); (· assumption); (· rfl); (· exact mmb); (· rfl)) | exact k_faddr rfl); (· rfl)) | refine pN ?_ | fail)
      refine WKO.callV rfl rfl rfl (P := fun v H' => ∃ o, v = rowZ o ∧ H' = _ ∧ digZ o ∧ valZ o = sv - n * lo ∧ o.length < 2000) (by
        obtain ⟨o, e1, e2, e3, e4⟩ := E85 (digZ_dz sv) (digZ_dz (n * lo)) (by omega) (dz_mono hlo1) (by rw [valZ_dz, valZ_dz]; exact hlo1) _
        rw [valZ_dz, valZ_dz] at e3
        exact ⟨_, _, cfhit (KD_E (by decide) e1), o, rfl, rfl, e2, e3, e4⟩) ?_
      rintro v12 H12 ⟨o, rfl, rfl, e2, e3, e4⟩
      repeat' (first | (apply WK.reg; (· exact lnn)) | refine WKO.nil ?_ | ((first | apply WKO.op); (· first | exact k_mv rfl | (apply k_call; (· rfl); (· rfl); (· exact cfhit (KD_83 (rowZ_rd _ o) e2 e4))) | exact k_fldZ rfl | exact k_subM rfl (by omega) | exact opA); (· rfl)) | refine pN ?_ | refine bN ?_ | fail)
      have hst := hD.step (low := lo) (by show lo < 10000; omega) (by rw [hsv]; exact hlo1) (by rw [hsv]; exact hhi1)
      rw [hsv] at hst
      rw [e3]
      exact ⟨(i, N.set i lo, sv - n * lo, rowZ (dz (sv - n * lo))), (.cons rfl <| .cons rfl <| .cons rfl <| .cons rfl <| .cons rfl <| .cons rfl <| .cons rfl <| .nil _), ⟨⟨_, hF11.up rfl (by simp only [next_bump]; omega)⟩, hst, .inl rfl⟩, Nat.lt_succ_self _⟩
theorem E45 {m n : Nat} (hm : (dz m).length < 200) (hn : (dz n).length < 200) (h0 : 0 < n) (H : AHeap) : KE 45 [zN m, zN n] H = some (.tup [zN (m / n), zN (m % n)], H) := by
  obtain ⟨v, H', h, rfl⟩ := divmod_walk hm hn h0
  have hc := (xfunc_sound mixed (xcallK_sound mixed KD_ok F_ok 20000 0) 20000 (F_ok 45 L45 rfl) h).pure (H := H) (by simp only [AV.frozL, zN_froz, Bool.and_self]) (Fz.froz (by simp only [AV.froz, AV.frozL, rowZ_froz, Bool.and_self]))
  obtain ⟨v', q1, q2⟩ := KE_hit hc (fun m' n' e => by
    simp only [List.cons.injEq, and_true] at e
    rw [zN_inj e.1, zN_inj e.2])
  rw [q1, q2 m n rfl]
end Go.Proofs.YtfcgofffalmdfaaGreatDoor.PA
namespace Go.Proofs.YtfcgofffalmdfaaGreatDoor.PA
def euM (x y : Nat) : Nat := if y = 0 then 0 else 1 + 2 * Nat.log2 (x * y) + (if x < y then 1 else 0)
theorem log2_half {a b : Nat} (hb : 0 < b) (h : 2 * b ≤ a) : Nat.log2 b < Nat.log2 a := by
  have h1 : 2 ^ Nat.log2 b ≤ b := Nat.log2_self_le (by omega)
  have h2 : 2 ^ (Nat.log2 b + 1) ≤ a := by rw [Nat.pow_succ]; omega
  exact (Nat.le_log2 (by omega)).2 h2
theorem euM_step {x y : Nat} (hy : 0 < y) : euM y (x % y) < euM x y := by
  have hr : x % y < y := Nat.mod_lt _ hy
  unfold euM
  rw [if_neg (show ¬ y = 0 by omega)]
  by_cases h0 : x % y = 0
  · rw [if_pos h0]
    omega
  · rw [if_neg h0, if_neg (show ¬ y < x % y by omega)]
    by_cases hxy : x < y
    · rw [Nat.mod_eq_of_lt hxy, if_pos hxy, Nat.mul_comm y x]
      omega
    · rw [if_neg hxy]
      have hx : 2 * (x % y) ≤ x := by
        have h1 := Nat.mod_add_div x y
        have h2 : 1 ≤ x / y := Nat.div_pos (by omega) hy
        have h3 : y * 1 ≤ y * (x / y) := Nat.mul_le_mul_left _ h2
        omega
      have h2 : 2 * (y * (x % y)) ≤ x * y := by
        rw [Nat.mul_comm x y, ← Nat.mul_assoc, Nat.mul_comm 2 y, Nat.mul_assoc]
        exact Nat.mul_le_mul_left _ hx
      have := log2_half (Nat.mul_pos hy (by omega)) h2
      omega
theorem euM_lt {x y : Nat} (hx : (dz x).length < 200) (hy : (dz y).length < 200) : euM x y < 20000 := by
  unfold euM
  split
  · omega
  · have h1 := valZ_lt (digZ_dz x)
    have h2 := valZ_lt (digZ_dz y)
    rw [valZ_dz] at h1 h2
    have hB : ∀ k, BZ ^ k ≤ 2 ^ (14 * k) := fun k => by
      rw [Nat.pow_mul]
      exact Nat.pow_le_pow_left (by decide) k
    have h3 : x * y < 2 ^ (14 * (dz x).length + 14 * (dz y).length) := by
      rw [Nat.pow_add]
      exact Nat.mul_lt_mul_of_lt_of_le (Nat.lt_of_lt_of_le h1 (hB _)) (Nat.le_of_lt (Nat.lt_of_lt_of_le h2 (hB _))) (Nat.pow_pos (by decide))
    by_cases h0 : x * y = 0
    · rw [h0]
      have : Nat.log2 0 = 0 := by decide
      rw [this]
      split <;> omega
    · have := (Nat.log2_lt h0).2 h3
      split <;> omega
end Go.Proofs.YtfcgofffalmdfaaGreatDoor.PA
namespace Go.Proofs.YtfcgofffalmdfaaGreatDoor.PA
open Go Go.Eng Go.Proofs
theorem abs_walk {n : Nat} : ∃ v H', xfunc (xcallK KE F 3000 0) 3000 L88 [zN n] ⟨.e, 0⟩ = some (v, H') ∧ v = zN n := by
  refine xfunc_ofK rfl (by show 1 ≤ 5; omega) ?_
  have hF := HF.start ⟨.e, 0⟩
  generalize (⟨.e, 0⟩ : AHeap) = H at hF ⊢
  unfold L88
  dsimp only
  repeat' (first | refine WK.seq ?_ | refine WK.ret ?_ | (apply WK.reg; (· exact lnn)) | (apply WKO.c1; (· rfl); (· rfl); (· first | rfl); (· assumption); (· rfl); (· exact nxx); (· first | exact .inr nxx); (· first | (simp [AV.cells]; done)); intro _ _ _) | (apply WKO.p0; (· rfl); (· rfl); (· first | rfl); (· first | rfl); (· assumption); (· rfl); (· exact nxx); (· first | exact .inr nxx); intro _ _ _) | (apply WKO.boxO; (· rfl); (· assumption); (· rfl); (· exact nxx); (· exact nxx); (· exact nxx); intro _ _ _) | (apply WKO.alO; (· assumption); (· rfl); (· exact nxx); (· exact nxx); (· exact nxx); intro _ _ _) | refine WKO.nil ?_ | ((first | apply WKO.op); (· first | (apply k_ldA; (· rfl); (· assumption); (· rfl); (· exact mmb); (· first | rfl)) | exact k_faddr rfl); (· rfl)) | refine pN ?_ | fail)
  rename_i H9 hF9 hn9
  exact ⟨fun id q => (by cases q), _, resK_obj rfl (hF9.obj _ (.head _)) rfl, rfl⟩
theorem E88 (n : Nat) (H : AHeap) : KE 88 [zN n] H = some (zN n, H) := by
  obtain ⟨v, H', h, rfl⟩ := abs_walk (n := n)
  have hc := (xfunc_sound mixed (xcallK_sound mixed KE_ok F_ok 3000 0) 3000 (F_ok 88 L88 rfl) h).pure (H := H) (by simp only [AV.frozL, zN_froz, Bool.and_self]) (Fz.froz (zN_froz _))
  obtain ⟨v', q1, q2⟩ := KE_hit hc (fun n' e => by
    simp only [List.cons.injEq, and_true] at e
    rw [zN_inj e])
  rw [q1, q2 n rfl]
set_option maxHeartbeats 4000000 in
theorem gcd_walk {m n : Nat} (hm : (dz m).length < 200) (hn : (dz n).length < 200) : ∃ v H', xfunc (xcallK KE F 30000 0) 30000 L73 [zN m, zN n] ⟨.e, 0⟩ = some (v, H') ∧ v = zN (Nat.gcd m n) := by
  refine xfunc_ofK rfl (by show 2 ≤ 24; omega) ?_
  have hF := HF.start ⟨.e, 0⟩
  generalize (⟨.e, 0⟩ : AHeap) = H at hF ⊢
  unfold L73
  dsimp only
  repeat' (first | refine WK.seq ?_ | (apply WK.reg; (· exact lnn)) | (apply WKO.boxO; (· rfl); (· assumption); (· rfl); (· exact nxx); (· exact nxx); (· exact nxx); intro _ _ _) | (apply WKO.alO; (· assumption); (· rfl); (· exact nxx); (· exact nxx); (· exact nxx); intro _ _ _) | refine WKO.nil ?_ | refine pN ?_ | fail)
  rename_i H1 hF1 hn1 H2 hF2 hn2 H3 hF3 hn3
  refine WK.regT (k := 6) rfl ?_
  have hFt : HF H [] _ [(H.next + 1 + 1, .cells [.bool false, .nils] none), (H.next + 1, .cells [.bool false, rowZ (dz n)] none), (H.next, .cells [.bool false, rowZ (dz m)] none)] (H3.bump 6) := hF3.up (H' := H3.bump 6) rfl (by simp only [next_bump]; omega)
  have hbt := hFt.base
  clear hF hF1 hF2 hF3
  generalize H3.bump 6 = HB at hFt ⊢
  have gB := hFt.obj (H.next + 1, _) (.tail _ (.head _))
  repeat' (first | ((first | apply WKT.op); (· first | (apply k_ldA; (· rfl); (· exact hFt); (· rfl); (· exact mmb); (· rfl)) | (apply k_call; (· rfl); (· rfl); (· first | exact cfhit (E88 m _) | exact cfhit (E88 n _)))); (· rfl)) | fail)
  refine WKT.stG (gs := [(H.next + 1 + 1, .cells [.bool false, .nils] none), (H.next + 1, .cells [.bool false, rowZ (dz n)] none)]) rfl rfl hFt rfl (Nat.le_refl _) (.inr (by omega)) rfl rfl (Nat.le_refl _) ?_
  intro He hFe hne hge
  refine WKT.stG (gs := [(H.next + 1 + 1, .cells [.bool false, .nils] none)]) rfl rfl hFe rfl (Nat.le_refl _) (.inr (by omega)) rfl rfl (Nat.le_refl _) ?_
  intro Hf hFf hnf hgf
  repeat' (first | refine WKT.nil ?_ | fail)
  refine ⟨?_, fun j hj => (by cases hj), (_, Hf), rfl, ?_⟩
  · intro q hq
    obtain rfl : q = (2, [1], []) := by simpa using hq
    refine ⟨_, _, _, _, _, rfl, rfl, rfl, xop_ldn rfl gB rfl, fun j hj => ?_⟩
    have hj' : j = 2 ∨ j = 1 ∨ j = 2 := by simpa using hj
    rcases hj' with rfl | rfl | rfl <;> exact ⟨_, rfl, xop_ldn rfl gB rfl⟩
  refine ⟨fun _ => ?_, fun q => absurd rfl q⟩
  repeat' (first | refine WK.seq ?_ | refine WK.block ?_ | fail)
  refine WK.loop (α := Nat × Nat) (fun s => [(2, .ptr H.next 0), (3, .ptr (H.next + 1) 0), (4, .ptr (H.next + 1 + 1) 0)])
    (fun s H' => (∃ T, HF H [] T [(H.next + 1 + 1, .cells [.bool false, .nils] none), (H.next + 1, .cells [.bool false, rowZ (dz s.2)] none), (H.next, .cells [.bool false, rowZ (dz s.1)] none)] H') ∧ Nat.gcd s.1 s.2 = Nat.gcd m n ∧ (dz s.1).length < 200 ∧ (dz s.2).length < 200) (fun s => euM s.1 s.2) (m, n) (.cons rfl <| .cons rfl <| .cons rfl <| .nil _) ⟨⟨_, hFf⟩, rfl, hm, hn⟩ (by show euM m n < 30000; have := euM_lt hm hn; omega) ?_
  rintro ⟨x, y⟩ H5 ⟨⟨T5, hF5⟩, hg, hx, hy⟩
  simp only at hF5 hg hx hy ⊢
  have hb5 := hF5.base
  have hl5 := hF5.le
  have hnil := @dz_nil y
  clear hFt hFe hFf
  repeat' (first | refine WK.seq ?_ | refine WK.skip ?_ | refine WK.exit ?_ | refine WK.block ?_ | (apply WK.reg; (· exact lnn)) | (apply WKO.p0; (· rfl); (· rfl); (· first | rfl); (· first | rfl); (· assumption); (· rfl); (· exact nxx); (· first | exact .inr nxx); intro _ _ _) | (apply WKO.alO; (· assumption); (· rfl); (· exact nxx); (· exact nxx); (· exact nxx); intro _ _ _) | (apply WKO.stO1; (· rfl); (· rfl); (· assumption); (· rfl); (· exact nxx); (· first | exact .inr nxx); (· rfl); (· rfl); (· first | decide); intro _ _ _) | refine WKO.nil ?_ | ((first | apply WKO.op); (· first | exact k_mv rfl | (apply k_call; (· rfl); (· rfl); (· exact cfhit (E45 hx hy (by omega) _))) | exact k_lenZ rfl | (apply k_ldO; (· rfl); (· assumption); (· rfl); (· exact mmb); (· rfl)) | (apply k_ldA; (· rfl); (· assumption); (· rfl); (· exact mmb); (· first | rfl)) | exact k_faddr rfl | exact opA); (· rfl)) | refine pN ?_ | refine pX ?_ | refine bX ?_ | (apply WK.condD; (· rfl); all_goals intro _) | fail)
  · rename_i Ha hFa hna Hb hFb hnb Hc hFc hnc Hd hFd hnd
    generalize (H5.bump 4).next + 1 + 1 + 1 + 1 + 1 + 1 = p5 at hFd ⊢
    clear hFa hFb hFc
    refine WK.regT (k := 4) rfl ?_
    have hFt : HF H [] _ [(p5 + 1, .cells [.bool false, rowZ (dz (x % y))] none), (p5, .cells [.bool false, rowZ (dz (x / y))] none), (H.next + 1 + 1, .cells [.bool false, .nils] none), (H.next + 1, .cells [.bool false, rowZ (dz y)] none), (H.next, .cells [.bool false, rowZ (dz x)] none)] (Hd.bump 4) := hFd.up (H' := Hd.bump 4) rfl (by simp only [next_bump]; omega)
    clear hFd
    have hnd4 := hFt.nd
    simp only [List.map_cons, List.map_nil, List.nodup_cons, List.mem_cons, List.not_mem_nil, or_false, not_or, not_false_iff, List.nodup_nil, and_true] at hnd4
    generalize Hd.bump 4 = HB at hFt ⊢
    have gB := hFt.obj (p5 + 1, _) (.head _)
    repeat' (first | ((first | apply WKT.op); (· first | (apply k_ldA; (· rfl); (· exact hFt); (· rfl); (· exact mmb); (· rfl))); (· rfl)) | fail)
    refine WKT.stG (gs := [(p5 + 1, .cells [.bool false, rowZ (dz (x % y))] none), (p5, .cells [.bool false, rowZ (dz (x / y))] none), (H.next + 1 + 1, .cells [.bool false, .nils] none), (H.next + 1, .cells [.bool false, rowZ (dz y)] none)]) rfl rfl hFt rfl (Nat.le_refl _) (.inr (by omega)) rfl rfl (Nat.le_refl _) ?_
    intro He hFe hne hge
    refine WKT.stG (gs := [(p5 + 1, .cells [.bool false, rowZ (dz (x % y))] none), (p5, .cells [.bool false, rowZ (dz (x / y))] none), (H.next + 1 + 1, .cells [.bool false, .nils] none)]) rfl rfl hFe rfl (Nat.le_refl _) (.inr (by omega)) rfl rfl (Nat.le_refl _) ?_
    intro Hf hFf hnf hgf
    repeat' (first | refine WKT.nil ?_ | fail)
    refine ⟨?_, fun j hj => (by cases hj), (_, Hf), rfl, ?_⟩
    · intro q hq
      obtain rfl : q = (1, [2], []) := by simpa using hq
      refine ⟨_, _, _, _, _, rfl, rfl, rfl, xop_ldn rfl gB rfl, fun j hj => ?_⟩
      have hj' : j = 1 ∨ j = 2 ∨ j = 3 := by simpa using hj
      rcases hj' with rfl | rfl | rfl
      · exact ⟨_, rfl, xop_ldn rfl gB rfl⟩
      · exact ⟨_, rfl, xop_ldn rfl gB rfl⟩
      · exact ⟨_, rfl, xop_ldn rfl ((hge _ (by omega)).trans gB) rfl⟩
    · have hy0 : 0 < y := by omega
      have hxy := dz_mono (Nat.le_of_lt (Nat.mod_lt x hy0))
      repeat' (first | refine pN ?_ | refine bN ?_ | fail)
      refine ⟨(y, x % y), (.cons rfl <| .cons rfl <| .cons rfl <| .nil _), ⟨⟨_, hFf.sub (gs := [(H.next + 1 + 1, .cells [.bool false, .nils] none), (H.next + 1, .cells [.bool false, rowZ (dz (x % y))] none), (H.next, .cells [.bool false, rowZ (dz y)] none)]) (.cons _ (.cons _ (.refl _))) (Nat.le_refl _) hFf.le⟩, ?_, hy, by show (dz (x % y)).length < 200; omega⟩, euM_step hy0⟩
      show Nat.gcd y (x % y) = Nat.gcd m n
      rw [← hg, Nat.gcd_comm x y, Nat.gcd_rec y x, Nat.gcd_comm]
  · refine ⟨fun _ => ?_, fun q => absurd rfl q⟩
    have hy0 : y = 0 := by omega
    subst hy0
    rw [Nat.gcd_zero_right] at hg
    repeat' (first | refine WK.seq ?_ | refine WK.ret ?_ | (apply WK.reg; (· exact lnn)) | (apply WKO.p0; (· rfl); (· rfl); (· first | rfl); (· first | rfl); (· assumption); (· rfl); (· exact nxx); (· first | exact .inr nxx); intro _ _ _) | refine WKO.nil ?_ | ((first | apply WKO.op); (· first | (apply k_ldA; (· rfl); (· assumption); (· rfl); (· exact mmb); (· first | rfl))); (· rfl)) | refine pN ?_ | fail)
    rename_i H9 hF9 hn9
    exact ⟨fun id q => (by cases q), _, resK_obj rfl (hF9.obj _ (.head _)) rfl, by rw [← hg]; rfl⟩
theorem E73 {m n : Nat} (hm : (dz m).length < 200) (hn : (dz n).length < 200) (H : AHeap) : KE 73 [zN m, zN n] H = some (zN (Nat.gcd m n), H) := by
  obtain ⟨v, H', h, rfl⟩ := gcd_walk hm hn
  have hc := (xfunc_sound mixed (xcallK_sound mixed KE_ok F_ok 30000 0) 30000 (F_ok 73 L73 rfl) h).pure (H := H) (by simp only [AV.frozL, zN_froz, Bool.and_self]) (Fz.froz (zN_froz _))
  obtain ⟨v', q1, q2⟩ := KE_hit hc (fun m' n' e => by
    simp only [List.cons.injEq, and_true] at e
    rw [zN_inj e.1, zN_inj e.2])
  rw [q1, q2 m n rfl]
theorem low_walk {m n : Nat} (hm : (dz m).length < 200) (hn : (dz n).length < 200) (h0 : 0 < n) : ∃ v H', xfunc (xcallK KE F 3000 0) 3000 L33 [fN m n] ⟨.e, 0⟩ = some (v, H') ∧ v = fN (m / Nat.gcd m n) (n / Nat.gcd m n) := by
  refine xfunc_ofK rfl (by show 1 ≤ 30; omega) ?_
  have hF := HF.start ⟨.e, 0⟩
  generalize (⟨.e, 0⟩ : AHeap) = H at hF ⊢
  have hg0 : 0 < Nat.gcd m n := Nat.gcd_pos_of_pos_right m h0
  have hgl : (dz (Nat.gcd m n)).length < 200 := Nat.lt_of_le_of_lt (dz_mono (Nat.gcd_le_right m h0)) hn
  have c1 : ∀ {H' : AHeap} {k : Nat}, xcallK KE F 3000 k 73 [zN m, zN n] H' = some (zN (Nat.gcd m n), H') := fun {H' k} => cfhit (E73 hm hn H')
  have c2 : ∀ {H' : AHeap} {k : Nat}, xcallK KE F 3000 k 45 [zN m, zN (Nat.gcd m n)] H' = _ := fun {H' k} => cfhit (E45 hm hgl hg0 H')
  have c3 : ∀ {H' : AHeap} {k : Nat}, xcallK KE F 3000 k 45 [zN n, zN (Nat.gcd m n)] H' = _ := fun {H' k} => cfhit (E45 hn hgl hg0 H')
  unfold L33
  dsimp only
  repeat' (first | refine WK.seq ?_ | (apply WK.reg; (· exact lnn)) | (apply WKO.boxO; (· rfl); (· assumption); (· rfl); (· exact nxx); (· exact nxx); (· exact nxx); intro _ _ _) | (apply WKO.alO; (· assumption); (· rfl); (· exact nxx); (· exact nxx); (· exact nxx); intro _ _ _) | (apply WKO.stO0; (· rfl); (· rfl); (· assumption); (· rfl); (· exact nxx); (· first | exact .inr nxx); (· rfl); (· rfl); (· first | decide); intro _ _ _) | (apply WKO.stO1; (· rfl); (· rfl); (· assumption); (· rfl); (· exact nxx); (· first | exact .inr nxx); (· rfl); (· rfl); (· first | decide); intro _ _ _) | refine WKO.nil ?_ | ((first | apply WKO.op); (· first | exact k_mv rfl | (apply k_ldC; (· rfl); (· assumption); (· rfl); (· first | exact mmb); (· exact Nat.le_of_ble_eq_true rfl); (· rfl)) | (apply k_call; (· rfl); (· rfl); (· first | exact c1 | exact c2 | exact c3)) | exact k_faddr rfl | exact opA); (· rfl)) | refine pN ?_ | fail)
  rename_i H9 hF9 hn9
  refine WKO.stO0 (m := 4) rfl rfl (hF9.sub (gs := [(H.next + 1, .cells [.bool false, .nils, .bool false, .nils] none), (H.next, .cells (fN m n).cells none)]) (.cons _ (.cons _ (.cons _ (.cons _ (.cons _ (.refl _)))))) (Nat.le_refl _) hF9.le) rfl nxx (.inr nxx) rfl rfl (Nat.le_of_ble_eq_true rfl) ?_
  intro Hz hFz hnz
  repeat' (first | refine WK.ret ?_ | refine WKO.nil ?_ | refine pN ?_ | fail)
  exact ⟨fun id q => (by cases q), _, resK_obj rfl (hFz.obj _ (.head _)) rfl, rfl⟩
theorem E33 {m n : Nat} (hm : (dz m).length < 200) (hn : (dz n).length < 200) (h0 : 0 < n) (H : AHeap) : KE 33 [fN m n] H = some (fN (m / Nat.gcd m n) (n / Nat.gcd m n), H) := by
  obtain ⟨v, H', h, rfl⟩ := low_walk hm hn h0
  have hc := (xfunc_sound mixed (xcallK_sound mixed KE_ok F_ok 3000 0) 3000 (F_ok 33 L33 rfl) h).pure (H := H) (by simp only [AV.frozL, fN_froz, Bool.and_self]) (Fz.froz (fN_froz _ _))
  obtain ⟨v', q1, q2⟩ := KE_hit hc (fun m' n' e => by
    simp only [List.cons.injEq, and_true] at e
    rw [(fN_inj e).1, (fN_inj e).2])
  rw [q1, q2 m n rfl]
theorem E33q {n : Nat} (hn : (dz n).length < 200) (H : AHeap) : KE 33 [qN n] H = some (qN n, H) := by
  have := E33 (n := 1) hn (by rw [dz_one]; decide) (by decide) H
  rw [Nat.gcd_one_right, Nat.div_one, Nat.div_one] at this
  exact this
theorem addq_walk {m n : Nat} (hm : (dz m).length < 200) (hn : (dz n).length < 200) : ∃ v H', xfunc (xcallK KE F 3000 0) 3000 L40 [qN m, qN n] ⟨.e, 0⟩ = some (v, H') ∧ v = qN (m + n) := by
  refine xfunc_ofK rfl (by show 2 ≤ 22; omega) ?_
  have hF := HF.start ⟨.e, 0⟩
  generalize (⟨.e, 0⟩ : AHeap) = H at hF ⊢
  have h1 : (dz 1).length < 400 := by rw [dz_one]; decide
  have c1 : ∀ {H' : AHeap} {k : Nat}, xcallK KE F 3000 k 72 [zN m, zN 1] H' = some (zN m, H') := fun {H' k} => cfhit (by rw [E72 (by omega) h1, Nat.mul_one])
  have c2 : ∀ {H' : AHeap} {k : Nat}, xcallK KE F 3000 k 72 [zN n, zN 1] H' = some (zN n, H') := fun {H' k} => cfhit (by rw [E72 (by omega) h1, Nat.mul_one])
  have c3 : ∀ {H' : AHeap} {k : Nat}, xcallK KE F 3000 k 72 [zN 1, zN 1] H' = some (zN 1, H') := fun {H' k} => cfhit (E72 h1 h1 H')
  have c4 : ∀ {H' : AHeap} {k : Nat}, xcallK KE F 3000 k 66 [zN m, zN n] H' = some (zN (m + n), H') := fun {H' k} => cfhit (E66 (by omega) (by omega) H')
  unfold L40
  dsimp only
  repeat' (first | refine WK.seq ?_ | (apply WK.reg; (· exact lnn)) | (apply WKO.boxO; (· rfl); (· assumption); (· rfl); (· exact nxx); (· exact nxx); (· exact nxx); intro _ _ _) | (apply WKO.alO; (· assumption); (· rfl); (· exact nxx); (· exact nxx); (· exact nxx); intro _ _ _) | refine WKO.nil ?_ | refine pN ?_ | fail)
  rename_i H1 hF1 hn1 H2 hF2 hn2 H3 hF3 hn3
  refine WK.regC1 17 rfl rfl rfl ?_
  dsimp only [List.take_succ_cons, List.take_zero]
  repeat' (first | refine WK.ret ?_ | (apply WKO.stO0; (· rfl); (· rfl); (· assumption); (· rfl); (· exact nxx); (· first | exact .inr nxx); (· rfl); (· rfl); (· first | decide); intro _ _ _) | refine WKC.nil ?_ | refine WKO.nil ?_ | ((first | apply WKC.op); (· first | (apply k_ldC; (· rfl); (· assumption); (· rfl); (· exact mmb); (· exact Nat.le_of_ble_eq_true rfl); (· rfl)) | (apply k_call; (· rfl); (· rfl); (· first | exact c1 | exact c2 | exact c3 | exact c4)) | exact k_faddr rfl | exact opA); (· rfl)) | refine pN ?_ | fail)
  rename_i H9 hF9 hn9
  exact ⟨fun id q => (by cases q), _, resK_obj rfl (hF9.obj _ (.head _)) rfl, rfl⟩
theorem E40 {m n : Nat} (hm : (dz m).length < 200) (hn : (dz n).length < 200) (H : AHeap) : KE 40 [qN m, qN n] H = some (qN (m + n), H) := by
  obtain ⟨v, H', h, rfl⟩ := addq_walk hm hn
  have hc := (xfunc_sound mixed (xcallK_sound mixed KE_ok F_ok 3000 0) 3000 (F_ok 40 L40 rfl) h).pure (H := H) (by simp only [AV.frozL, qN_froz, Bool.and_self]) (Fz.froz (qN_froz _))
  obtain ⟨v', q1, q2⟩ := KE_hit hc (fun m' n' e => by
    simp only [List.cons.injEq, and_true] at e
    rw [qN_inj e.1, qN_inj e.2])
  rw [q1, q2 m n rfl]
theorem whole_walk {n : Nat} (hn : n < 4611686018427387905) : ∃ v H', xfunc (xcallK KE F 3000 0) 3000 L32 [nA n] ⟨.e, 0⟩ = some (v, H') ∧ v = qN n := by
  refine xfunc_ofK rfl (by show 1 ≤ 7; omega) ?_
  have hF := HF.start ⟨.e, 0⟩
  generalize (⟨.e, 0⟩ : AHeap) = H at hF ⊢
  unfold L32
  dsimp only
  repeat' (first | refine WK.seq ?_ | refine WK.ret ?_ | (apply WK.reg; (· exact lnn)) | (apply WKO.alO; (· assumption); (· rfl); (· exact nxx); (· exact nxx); (· exact nxx); intro _ _ _) | (apply WKO.stO0; (· rfl); (· rfl); (· assumption); (· rfl); (· exact nxx); (· first | exact .inr nxx); (· rfl); (· rfl); (· first | decide); intro _ _ _) | refine WKO.nil ?_ | ((first | apply WKO.op); (· first | exact k_mv rfl | (apply k_call; (· rfl); (· rfl); (· first | exact cfhit (E52 hn _) | exact cfhit (E52 (n := 1) (by decide) _))) | exact opA); (· rfl)) | refine pN ?_ | fail)
  rename_i H9 hF9 hn9
  exact ⟨fun id q => (by cases q), _, resK_obj rfl (hF9.obj _ (.head _)) rfl, rfl⟩
theorem E32 {n : Nat} (hn : n < 4611686018427387905) (H : AHeap) : KE 32 [nA n] H = some (qN n, H) := by
  obtain ⟨v, H', h, rfl⟩ := whole_walk hn
  have hc := (xfunc_sound mixed (xcallK_sound mixed KE_ok F_ok 3000 0) 3000 (F_ok 32 L32 rfl) h).pure (H := H) rfl (Fz.froz (qN_froz _))
  obtain ⟨v', q1, q2⟩ := KE_hit hc (fun n' e => by
    simp only [List.cons.injEq, and_true] at e
    rw [nA_inj e])
  rw [q1, q2 n rfl]
theorem over_walk {m n : Nat} : ∃ v H', xfunc (xcallK KE F 3000 0) 3000 L74 [zN m, zN n] ⟨.e, 0⟩ = some (v, H') ∧ v = fN m n := by
  refine xfunc_ofK rfl (by show 2 ≤ 14; omega) ?_
  have hF := HF.start ⟨.e, 0⟩
  generalize (⟨.e, 0⟩ : AHeap) = H at hF ⊢
  unfold L74
  dsimp only
  repeat' (first | refine WK.seq ?_ | refine WK.skip ?_ | refine WK.ret ?_ | (apply WK.reg; (· exact lnn)) | (apply WKO.boxO; (· rfl); (· assumption); (· rfl); (· exact nxx); (· exact nxx); (· exact nxx); intro _ _ _) | (apply WKO.alO; (· assumption); (· rfl); (· exact nxx); (· exact nxx); (· exact nxx); intro _ _ _) | (apply WKO.stO0; (· rfl); (· rfl); (· assumption); (· rfl); (· exact nxx); (· first | exact .inr nxx); (· rfl); (· rfl); (· first | decide); intro _ _ _) | refine WKO.nil ?_ | ((first | apply WKO.op); (· first | (apply k_ldO; (· rfl); (· assumption); (· rfl); (· exact mmb); (· rfl)) | (apply k_ldA; (· rfl); (· assumption); (· rfl); (· exact mmb); (· first | rfl)) | exact k_faddr rfl | exact opA); (· rfl)) | refine pN ?_ | (apply WK.condF; (· rfl); (· exact dcd)) | fail)
  rename_i H9 hF9 hn9
  exact ⟨fun id q => (by cases q), _, resK_obj rfl (hF9.obj _ (.head _)) rfl, rfl⟩
theorem E74 (m n : Nat) (H : AHeap) : KE 74 [zN m, zN n] H = some (fN m n, H) := by
  obtain ⟨v, H', h, rfl⟩ := over_walk (m := m) (n := n)
  have hc := (xfunc_sound mixed (xcallK_sound mixed KE_ok F_ok 3000 0) 3000 (F_ok 74 L74 rfl) h).pure (H := H) (by simp only [AV.frozL, zN_froz, Bool.and_self]) (Fz.froz (fN_froz _ _))
  obtain ⟨v', q1, q2⟩ := KE_hit hc (fun m' n' e => by
    simp only [List.cons.injEq, and_true] at e
    rw [zN_inj e.1, zN_inj e.2])
  rw [q1, q2 m n rfl]
theorem make_walk {m n : Nat} (hm : m < 4611686018427387905) (hn : n < 4611686018427387905) (h0 : 0 < n) : ∃ v H', xfunc (xcallK KE F 3000 0) 3000 L34 [nA m, nA n] ⟨.e, 0⟩ = some (v, H') ∧ v = fN (m / Nat.gcd m n) (n / Nat.gcd m n) := by
  refine xfunc_ofK rfl (by show 2 ≤ 11; omega) ?_
  have hF := HF.start ⟨.e, 0⟩
  generalize (⟨.e, 0⟩ : AHeap) = H at hF ⊢
  have l1 : (dz m).length < 200 := by have := dz_len 5 m (by show m < 10000 ^ 5; omega); omega
  have l2 : (dz n).length < 200 := by have := dz_len 5 n (by show n < 10000 ^ 5; omega); omega
  unfold L34
  dsimp only
  repeat' (first | refine WK.seq ?_ | refine WK.ret ?_ | (apply WK.reg; (· exact lnn)) | (apply WKO.alO; (· assumption); (· rfl); (· exact nxx); (· exact nxx); (· exact nxx); intro _ _ _) | (apply WKO.stO0; (· rfl); (· rfl); (· assumption); (· rfl); (· exact nxx); (· first | exact .inr nxx); (· rfl); (· rfl); (· first | decide); intro _ _ _) | refine WKO.nil ?_ | ((first | apply WKO.op); (· first | exact k_mv rfl | (apply k_call; (· rfl); (· rfl); (· first | exact cfhit (E52 hm _) | exact cfhit (E52 hn _) | exact cfhit (E74 m n _) | exact cfhit (E33 l1 l2 h0 _)))); (· rfl)) | refine pN ?_ | fail)
  rename_i H9 hF9 hn9
  exact ⟨fun id q => (by cases q), _, resK_obj rfl (hF9.obj _ (.head _)) rfl, rfl⟩
theorem E34 {m n : Nat} (hm : m < 4611686018427387905) (hn : n < 4611686018427387905) (h0 : 0 < n) (H : AHeap) : KE 34 [nA m, nA n] H = some (fN (m / Nat.gcd m n) (n / Nat.gcd m n), H) := by
  obtain ⟨v, H', h, rfl⟩ := make_walk hm hn h0
  have hc := (xfunc_sound mixed (xcallK_sound mixed KE_ok F_ok 3000 0) 3000 (F_ok 34 L34 rfl) h).pure (H := H) rfl (Fz.froz (fN_froz _ _))
  obtain ⟨v', q1, q2⟩ := KE_hit hc (fun m' n' e => by
    simp only [List.cons.injEq, and_true] at e
    rw [nA_inj e.1, nA_inj e.2])
  rw [q1, q2 m n rfl]
end Go.Proofs.YtfcgofffalmdfaaGreatDoor.PA
namespace Go.Proofs.YtfcgofffalmdfaaGreatDoor.PA
def padF : Nat → Nat → List Nat
  | 0, _ => []
  | k + 1, v => (48 + v / 10 ^ k) :: padF k (v % 10 ^ k)
theorem padF_len : ∀ k v, (padF k v).length = k
  | 0, _ => rfl
  | k + 1, v => by rw [padF, List.length_cons, padF_len k]
theorem padF_app : ∀ (a x b y : Nat), y < 10 ^ b → padF a x ++ padF b y = padF (a + b) (x % 10 ^ a * 10 ^ b + y) ∨ ¬ x < 10 ^ a
  | a, x, b, y, hy => by
    by_cases hx : x < 10 ^ a
    · left
      rw [Nat.mod_eq_of_lt hx]
      induction a generalizing x with
      | zero =>
        rw [Nat.pow_zero] at hx
        rw [show x = 0 by omega, Nat.zero_mul, Nat.zero_add, Nat.zero_add]
        rfl
      | succ a ih =>
        rw [show a + 1 + b = (a + b) + 1 by omega, padF, padF, List.cons_append, ih (x % 10 ^ a) (Nat.mod_lt _ (Nat.pow_pos (by decide)))]
        have hp : 0 < 10 ^ a := Nat.pow_pos (by decide)
        have hq : 0 < 10 ^ b := Nat.pow_pos (by decide)
        have e1 : (x * 10 ^ b + y) / 10 ^ (a + b) = x / 10 ^ a := by
          rw [Nat.pow_add, Nat.mul_comm (10 ^ a), ← Nat.div_div_eq_div_mul, Nat.mul_comm x, Nat.mul_add_div hq, Nat.div_eq_of_lt hy, Nat.add_zero]
        have e2 : (x * 10 ^ b + y) % 10 ^ (a + b) = x % 10 ^ a * 10 ^ b + y := by
          have h1 := Nat.div_add_mod x (10 ^ a)
          have h2 : x % 10 ^ a * 10 ^ b + y < 10 ^ (a + b) := by
            rw [Nat.pow_add]
            have h3 : x % 10 ^ a + 1 ≤ 10 ^ a := Nat.mod_lt _ hp
            have h4 := Nat.mul_le_mul_right (10 ^ b) h3
            rw [Nat.add_mul, Nat.one_mul] at h4
            omega
          have h5 : x * 10 ^ b + y = 10 ^ (a + b) * (x / 10 ^ a) + (x % 10 ^ a * 10 ^ b + y) := by
            conv => lhs; rw [← h1]
            rw [Nat.add_mul, Nat.pow_add, Nat.add_assoc, Nat.mul_assoc, Nat.mul_comm (x / 10 ^ a) (10 ^ b), ← Nat.mul_assoc]
          rw [h5, Nat.mul_add_mod, Nat.mod_eq_of_lt h2]
        rw [e1, e2]
    · exact .inr hx
theorem padF_join {a x b y : Nat} (hx : x < 10 ^ a) (hy : y < 10 ^ b) : padF a x ++ padF b y = padF (a + b) (x * 10 ^ b + y) := by
  rcases padF_app a x b y hy with h | h
  · rwa [Nat.mod_eq_of_lt hx] at h
  · exact absurd hx h
theorem padF_four {d : Nat} (hd : d < 10000) : padF 4 d = [48 + d / 1000, 48 + d / 100 % 10, 48 + d / 10 % 10, 48 + d % 10] := by
  show [48 + d / 1000, 48 + d % 1000 / 100, 48 + d % 1000 % 100 / 10, 48 + d % 1000 % 100 % 10 / 1] = _
  simp only [List.cons.injEq, and_true]
  refine ⟨trivial, by omega, by omega, by omega⟩
theorem padF_dig : ∀ {k v : Nat}, v < 10 ^ k → ∀ c ∈ padF k v, 48 ≤ c ∧ c < 58
  | 0, _, _, c, h => by cases h
  | k + 1, v, hv, c, h => by
    rw [padF] at h
    rcases List.mem_cons.1 h with rfl | h
    · have : v / 10 ^ k < 10 := by
        rw [Nat.div_lt_iff_lt_mul (Nat.pow_pos (by decide)), Nat.mul_comm]
        rwa [Nat.pow_succ] at hv
      generalize v / 10 ^ k = q at this ⊢
      omega
    · exact padF_dig (Nat.mod_lt _ (Nat.pow_pos (by decide))) c h
theorem padF_of : ∀ {L : List Nat}, (∀ c ∈ L, 48 ≤ c ∧ c < 58) → padF L.length (decV L) = L
  | [], _ => rfl
  | c :: L, h => by
    have hL : ∀ x ∈ L, 48 ≤ x ∧ x < 58 := fun x hx => h x (by simp [hx])
    have hc := h c (by simp)
    have hv : decV (c :: L) = (c - 48) * 10 ^ L.length + decV L := by
      have : decV (c :: L) = L.foldl (fun v c => 10 * v + (c - 48)) (c - 48) := by
        unfold decV
        rw [List.foldl_cons, Nat.mul_zero, Nat.zero_add]
      rw [this, decV_acc]
    have hlt := decV_lt hL
    have hp : 0 < 10 ^ L.length := Nat.pow_pos (by decide)
    rw [List.length_cons, padF, hv, Nat.mul_comm, Nat.mul_add_div hp, Nat.div_eq_of_lt hlt, Nat.mul_add_mod, Nat.mod_eq_of_lt hlt, padF_of hL]
    congr 1
    omega
theorem padF_dec {k n : Nat} (h0 : n ≠ 0) (hn : n < 10 ^ k) (hh : (padF k n).getD 0 0 ≠ 48) : padF k n = decL n := by
  have hL := decL_dig n
  have e := padF_of hL
  rw [decV_L] at e
  have hm := decV_lt hL
  rw [decV_L] at hm
  have h1 := decL_head h0
  rw [← e] at h1
  have low : ∀ {k : Nat}, n < 10 ^ k → (padF k n).getD 0 0 ≠ 48 → ∃ j, k = j + 1 ∧ 10 ^ j ≤ n := fun {k} hk hd => by
    cases k with
    | zero => rw [Nat.pow_zero] at hk; omega
    | succ j =>
      refine ⟨j, rfl, ?_⟩
      rw [padF, List.getD_cons_zero] at hd
      by_cases q : 10 ^ j ≤ n
      · exact q
      · rw [Nat.div_eq_of_lt (by omega)] at hd
        exact absurd rfl hd
  obtain ⟨j, rfl, hj⟩ := low hn hh
  obtain ⟨i, hi, hi2⟩ := low hm h1
  have : j = i := by
    rcases Nat.lt_trichotomy j i with q | q | q
    · have := Nat.pow_le_pow_right (show 0 < 10 by decide) (show j + 1 ≤ i by omega)
      omega
    · exact q
    · rw [hi] at hm
      have := Nat.pow_le_pow_right (show 0 < 10 by decide) (show i + 1 ≤ j by omega)
      omega
  subst this
  rw [← hi] 
  exact e
theorem padF_zero {k n : Nat} (hn : n < 10 ^ (k + 1)) (h : (padF (k + 1) n).getD 0 0 = 48) : n < 10 ^ k ∧ padF (k + 1) n = 48 :: padF k n := by
  rw [padF, List.getD_cons_zero] at h
  have hp : 0 < 10 ^ k := Nat.pow_pos (by decide)
  have h1 : n / 10 ^ k = 0 := by omega
  have h2 : n < 10 ^ k := by
    rcases Nat.div_eq_zero_iff.1 h1 with q | q
    · omega
    · exact q
  refine ⟨h2, ?_⟩
  rw [padF, h1, Nat.mod_eq_of_lt h2]
theorem valZ_lt10 {l : List Nat} (h : digZ l) : valZ l < 10 ^ (4 * l.length) := by
  have := valZ_lt h
  rwa [show BZ = 10 ^ 4 from rfl, ← Nat.pow_mul] at this
end Go.Proofs.YtfcgofffalmdfaaGreatDoor.PA
namespace Go.Proofs.YtfcgofffalmdfaaGreatDoor.PA
open Go Go.Eng Go.Proofs
def padS (k v : Nat) : List UInt8 := (padF k v).map UInt8.ofNat
theorem padS_len (k v : Nat) : (padS k v).length = k := by rw [padS, List.length_map, padF_len]
theorem padS_get {k v : Nat} (hv : v < 10 ^ k) (h : 0 < k) : ((padS k v).getD 0 97).toNat = (padF k v).getD 0 0 := by
  obtain ⟨j, rfl⟩ : ∃ j, k = j + 1 := ⟨k - 1, by omega⟩
  have hd := padF_dig hv
  rw [padF] at hd
  have h1 := hd _ (List.mem_cons_self ..)
  rw [padS, padF, List.map_cons, List.getD_cons_zero, List.getD_cons_zero, UInt8.toNat_ofNat']
  omega
theorem k_btsZ {cf : CF} {n i m : Nat} {H : AHeap} {l : KL0} {x : XO} {N : List Nat} {opn : Option Nat} (hx : evK l x = some (.sl i 0 m m)) (hg : H.get i = some (.cells (N.map bA) opn)) (hm : m = N.length) (hd : ∀ z ∈ N, z < 256) : XV cf l H n (.bts x) = some (.str (N.map UInt8.ofNat), H) := by
  refine k_any ?_
  have hb : bytesA (N.map bA) = some (N.map UInt8.ofNat) := by
    clear hg hm
    induction N with
    | nil => rfl
    | cons z N ih =>
      have h1 := hd z (by simp)
      simp only [List.map_cons, bytesA, bA, ih (fun q hq => hd q (by simp [hq]))]
      simp
      try omega
  have hs : srcA H 1 m (.sl i 0 m m) = some (N.map bA) := by
    simp only [srcA, hg, Nat.zero_add, List.drop_zero, List.length_map]
    rw [if_pos (by omega), List.take_of_length_le (by simp; omega)]
  have hl : Go.Eng.lenA (.sl i 0 m m) = some m := rfl
  simp only [xval, xop, hx, hl, hs, Option.bind_some, hb, Option.map_some, AR.ofV]
section
variable {cf : CF} {n a : Nat} {H : AHeap} {l : KL0} {x : XO}
theorem k_ad48 (hx : evK l x = some (nA a)) (h : a < 1000) : XV cf l H n (.bin .add (.k (.int .i64 (.ofNat 48))) x) = some (nA (48 + a), H) := k_addN (a := 48) rfl hx (by omega)
theorem k_qn (b : Nat) (hx : evK l x = some (nA a)) (hb : 0 < b) (h : a < 1000000) : XV cf l H n (.bin .quo x (.k (.int .i64 (.ofNat b)))) = some (nA (a / b), H) := k_quoN (b := b) hx rfl hb (by omega)
theorem k_rn (b : Nat) (hx : evK l x = some (nA a)) (hb : 0 < b) : XV cf l H n (.bin .rem x (.k (.int .i64 (.ofNat b)))) = some (nA (a % b), H) := k_remN (b := b) hx rfl hb
end
set_option maxHeartbeats 4000000 in
theorem figures_walk {n : Nat} (hn : (dz n).length < 200) : ∃ v H', xfunc (xcallK KE F 3000 0) 3000 L87 [zN n] ⟨.e, 0⟩ = some (v, H') ∧ v = .str (decS n) := by
  refine xfunc_ofK rfl (by show 1 ≤ 53; omega) ?_
  have hF := HF.start ⟨.e, 0⟩
  generalize (⟨.e, 0⟩ : AHeap) = H at hF ⊢
  have hd := digZ_dz n
  have hv := valZ_dz n
  have hnil := @dz_nil n
  unfold L87
  dsimp only
  repeat' (first | refine WK.seq ?_ | refine WK.skip ?_ | refine WK.ret ?_ | refine WK.block ?_ | (apply WK.reg; (· exact lnn)) | (apply WKO.boxO; (· rfl); (· assumption); (· rfl); (· exact nxx); (· exact nxx); (· exact nxx); intro _ _ _) | refine WKO.nil ?_ | ((first | apply WKO.op); (· first | exact k_mv rfl | exact k_subM rfl (by omega) | exact k_lenZ rfl | (apply k_ldO; (· rfl); (· assumption); (· rfl); (· exact mmb); (· rfl)) | exact k_faddr rfl | exact opA); (· rfl)) | refine pN ?_ | refine pR ?_ | (apply WK.condD; (· rfl); all_goals intro _) | fail)
  · have : n = 0 := by omega
    subst this
    exact ⟨fun id q => (by cases q), _, rfl, rfl⟩
  rename_i H1 hF1 hn1 hne
  refine WK.loop (α := Nat) (fun i => [(1, .ptr H.next 0), (2, .str []), (3, .str (padS (4 * ((dz n).length - i)) (valZ ((dz n).drop i)))), (4, zA ((i : Int) - 1))])
    (fun i H' => (∃ T, HF H [] T [(H.next, .cells [.bool false, rowZ (dz n)] none)] H') ∧ i ≤ (dz n).length) (fun i => i) (dz n).length ?_ ⟨⟨_, hF1.up rfl (by simp only [next_bump]; omega)⟩, Nat.le_refl _⟩ (by show (dz n).length < 3000; omega) ?_
  · refine .cons rfl <| .cons rfl <| .cons ?_ <| .cons rfl <| .nil _
    rw [Nat.sub_self, Nat.mul_zero]
    rfl
  rintro i H3 ⟨⟨T3, hF3⟩, hi⟩
  have hb3 := hF3.base
  have hl3 := hF3.le
  clear hF hF1
  cases i with
  | zero =>
    repeat' (first | refine WK.seq ?_ | refine WK.exit ?_ | refine WK.block ?_ | (apply WK.reg; (· exact lnn)) | refine WKO.nil ?_ | ((first | apply WKO.op); (· first | exact k_mv rfl | exact k_geqM rfl); (· rfl)) | refine pN ?_ | refine pX ?_ | refine bX ?_ | (apply WK.condF; (· rfl); (· exact dcd)) | fail)
    have hn0 : n ≠ 0 := by omega
    have hlt := valZ_lt10 hd
    rw [hv] at hlt
    refine WK.loop (α := Nat) (fun k => [(3, .str (padS k n))]) (fun k H' => n < 10 ^ k ∧ k ≤ 800) (fun k => k) (4 * (dz n).length) ?_ ⟨hlt, by omega⟩ (by show 4 * (dz n).length < 3000; omega) ?_
    · refine .cons ?_ <| .nil _
      rw [Nat.sub_zero, List.drop_zero, hv]
      rfl
    rintro k H4 ⟨hk, hk8⟩
    have hk0 : 0 < k := by
      rcases Nat.eq_zero_or_pos k with q | q
      · rw [q, Nat.pow_zero] at hk; omega
      · exact q
    have hpl := padS_len k n
    have hg := padS_get hk hk0
    repeat' (first | refine WK.seq ?_ | refine WK.skip ?_ | refine WK.ret ?_ | refine WK.exit ?_ | refine WK.block ?_ | (apply WK.reg; (· exact lnn)) | refine WKO.nil ?_ | ((first | apply WKO.op); (· first | exact k_mv rfl | (apply k_sidx (a := 0); (· rfl); (· rfl); (· omega)) | exact k_eq8 rfl | exact k_scF (a := 1) rfl rfl (by omega)); (· rfl)) | refine pN ?_ | refine pX ?_ | refine bN ?_ | refine bX ?_ | (apply WK.condD; (· rfl); all_goals intro _) | fail)
    · obtain ⟨j, rfl⟩ : ∃ j, k = j + 1 := ⟨k - 1, by omega⟩
      obtain ⟨z1, z2⟩ := padF_zero hk (by rw [← hg]; assumption)
      refine ⟨j, .cons ?_ <| .nil _, ⟨z1, by omega⟩, Nat.lt_succ_self _⟩
      have e : (padS (j + 1) n).drop 1 = padS j n := by
        unfold padS
        rw [z2]
        rfl
      rw [← e]
      rfl
    · have z := padF_dec hn0 hk (by rw [← hg]; assumption)
      exact ⟨fun id q => (by cases q), _, rfl, by unfold padS; rw [z]; rfl⟩
  | succ i =>
    have hdi := digZ_get hd i
    rw [show BZ = 10000 from rfl] at hdi
    rw [zA_nat]
    have hx : valZ ((dz n).drop (i + 1)) < 10 ^ (4 * ((dz n).length - (i + 1))) := by
      have := valZ_lt10 (l := (dz n).drop (i + 1)) (fun x hx => hd x (List.mem_of_mem_drop hx))
      rwa [List.length_drop] at this
    have e : padS (4 * ((dz n).length - (i + 1))) (valZ ((dz n).drop (i + 1))) ++ [48 + (dz n).getD i 0 / 1000, 48 + (dz n).getD i 0 / 100 % 10, 48 + (dz n).getD i 0 / 10 % 10, 48 + (dz n).getD i 0 % 10].map UInt8.ofNat = padS (4 * ((dz n).length - i)) (valZ ((dz n).drop i)) := by
      rw [← padF_four hdi]
      unfold padS
      have e3 : valZ ((dz n).drop (i + 1)) * 10 ^ 4 + (dz n).getD i 0 = (dz n).getD i 0 + BZ * valZ ((dz n).drop (i + 1)) := by rw [show BZ = 10 ^ 4 from rfl, Nat.mul_comm, Nat.add_comm]
      rw [← List.map_append, padF_join hx (by exact hdi), valZ_drop (dz n) i, show 4 * ((dz n).length - (i + 1)) + 4 = 4 * ((dz n).length - i) by omega, e3]
    have hpl := padS_len (4 * ((dz n).length - (i + 1))) (valZ ((dz n).drop (i + 1)))
    generalize padS (4 * ((dz n).length - (i + 1))) (valZ ((dz n).drop (i + 1))) = P at e hpl ⊢
    repeat' (first | refine WK.seq ?_ | refine WK.skip ?_ | refine WK.block ?_ | (apply WK.reg; (· exact lnn)) | (apply WKO.bsO; (· rfl); (· rfl); (· assumption); (· rfl); (· exact nxx); (· exact nxx); (· exact nxx); intro _ _ _) | refine WKO.nil ?_ | ((first | apply WKO.op); (· first | exact k_mv rfl | exact k_geqT rfl | exact k_iaZ rfl rfl (by omega) | exact k_ldZ rfl (by omega) | exact k_qn _ rfl (by decide) (by omega) | exact k_rn _ rfl (by decide) | exact k_ad48 rfl (by omega) | exact k_to8 rfl (by omega) | (apply k_ldO; (· rfl); (· assumption); (· rfl); (· exact mmb); (· rfl)) | exact k_faddr rfl); (· rfl)) | refine pN ?_ | (apply WK.condT; (· rfl); (· exact dcd)) | fail)
    rename_i H5 hF5 hn5
    refine WKO.op (k_btsZ (N := [48 + (dz n).getD i 0 / 1000, 48 + (dz n).getD i 0 / 100 % 10, 48 + (dz n).getD i 0 / 10 % 10, 48 + (dz n).getD i 0 % 10]) rfl (hF5.obj (_, _) (.head _)) rfl (fun z hz => by simp only [List.mem_cons, List.not_mem_nil, or_false] at hz; omega)) rfl ?_
    repeat' (first | (apply WK.reg; (· exact lnn)) | refine WKO.nil ?_ | ((first | apply WKO.op); (· first | exact k_mv rfl | exact k_catS rfl rfl (by simp only [List.length_map, List.length_cons, List.length_nil]; omega) | exact k_subM rfl (by omega)); (· rfl)) | refine pN ?_ | refine bN ?_ | fail)
    refine ⟨i, .cons rfl <| .cons rfl <| .cons (by rw [← e]; rfl) <| .cons rfl <| .nil _, ⟨⟨_, (hF5.sub (gs := [(H.next, .cells [.bool false, rowZ (dz n)] none)]) (.cons _ (.refl _)) (Nat.le_refl _) hF5.le).up rfl (by simp only [next_bump]; omega)⟩, by omega⟩, Nat.lt_succ_self _⟩
theorem E87 {n : Nat} (hn : (dz n).length < 200) (H : AHeap) : KE 87 [zN n] H = some (.str (decS n), H) := by
  obtain ⟨v, H', h, rfl⟩ := figures_walk hn
  have hc := (xfunc_sound mixed (xcallK_sound mixed KE_ok F_ok 3000 0) 3000 (F_ok 87 L87 rfl) h).pure (H := H) (by simp only [AV.frozL, zN_froz, Bool.and_self]) (.str _)
  obtain ⟨v', q1, q2⟩ := KE_hit hc (fun n' e => by
    simp only [List.cons.injEq, and_true] at e
    rw [zN_inj e])
  rw [q1, q2 n rfl]
theorem k_neS1 {cf : CF} {n : Nat} {H : AHeap} {l : KL0} {x : XO} {s t : List UInt8} (hx : evK l x = some (.str s)) (h : s = t) : XV cf l H n (.bin .neq x (.k (.str t))) = some (.bool false, H) :=
  k_bin hx rfl (by subst h; simp [binA, strA])
set_option maxHeartbeats 2000000 in
theorem num_walk {n : Nat} (hn : (dz n).length < 200) (hl : (decL n).length ≤ 1000) : ∃ v H', xfunc (xcallK KE F 3000 0) 3000 L46 [qN n] ⟨.e, 0⟩ = some (v, H') ∧ v = .tup [.str (decS n), .bool true] := by
  refine xfunc_ofK rfl (by show 1 ≤ 35; omega) ?_
  have hF := HF.start ⟨.e, 0⟩
  generalize (⟨.e, 0⟩ : AHeap) = H at hF ⊢
  have c1 : ∀ {H' : AHeap} {k : Nat}, xcallK KE F 3000 k 33 [qN n] H' = some (qN n, H') := fun {H' k} => cfhit (E33q hn H')
  have c2 : ∀ {H' : AHeap} {k : Nat}, xcallK KE F 3000 k 88 [zN n] H' = some (zN n, H') := fun {H' k} => cfhit (E88 n H')
  have c3 : ∀ {H' : AHeap} {k : Nat}, xcallK KE F 3000 k 87 [zN n] H' = some (.str (decS n), H') := fun {H' k} => cfhit (E87 hn H')
  have c4 : ∀ {H' : AHeap} {k : Nat}, xcallK KE F 3000 k 87 [zN 1] H' = some (.str (decS 1), H') := fun {H' k} => cfhit (E87 (by rw [dz_one]; decide) H')
  have s1 : decS 1 = [UInt8.ofNat 49] := by
    rw [decS, decL, if_neg (by decide), decR_pos (by decide), show 1 / 10 = 0 from rfl, decR_zero]
    rfl
  have hsl := decS_length n
  have hs1 : (decS 1).length = 1 := by rw [s1]; rfl
  unfold L46
  dsimp only
  repeat' (first | refine WK.seq ?_ | (apply WK.reg; (· exact lnn)) | (apply WKO.boxO; (· rfl); (· assumption); (· rfl); (· exact nxx); (· exact nxx); (· exact nxx); intro _ _ _) | refine WKO.nil ?_ | ((first | apply WKO.op); (· first | exact k_mv rfl | (apply k_call; (· rfl); (· rfl); (· exact c1)) | (apply k_ldA; (· rfl); (· assumption); (· rfl); (· exact mmb); (· first | rfl))); (· rfl)) | refine pN ?_ | fail)
  rename_i H1 hF1 hn1
  refine WKO.stO0 (m := 4) rfl rfl hF1 rfl nxx (.inr nxx) rfl rfl (Nat.le_of_ble_eq_true rfl) ?_
  intro H2 hF2 hn2
  have hF3 : HF H [] _ [(H.next, .cells [.bool false, rowZ (dz n), .bool false, rowZ (dz 1)] none)] H2 := hF2
  clear hF2 hF1
  repeat' (first | refine WK.seq ?_ | refine WK.skip ?_ | refine WK.ret ?_ | (apply WK.reg; (· exact lnn)) | (apply WK.regC; (· rfl); (· exact lnn); (· decide)) | refine WKC.nil ?_ | refine WKO.nil ?_ | ((first | apply WKC.op | apply WKO.op | ((first | apply WKO.gop); (· rfl); (· exact dcd))); (· first | exact k_mv rfl | (apply k_ldC; (· rfl); (· assumption); (· rfl); (· exact mmb); (· exact Nat.le_of_ble_eq_true rfl); (· rfl)) | (apply k_call; (· rfl); (· rfl); (· first | exact c2 | exact c3 | exact c4)) | exact k_slen rfl | exact k_neS1 rfl s1 | (apply k_ldO; (· rfl); (· assumption); (· rfl); (· exact mmb); (· rfl)) | exact k_faddr rfl | exact opA); (· rfl)) | refine pN ?_ | (apply WK.condF; (· rfl); (· exact dcd)) | fail)
  exact ⟨fun id q => (by cases q), _, rfl, rfl⟩
theorem E46 {n : Nat} (hn : (dz n).length < 200) (hl : (decL n).length ≤ 1000) (H : AHeap) : KE 46 [qN n] H = some (.tup [.str (decS n), .bool true], H) := by
  obtain ⟨v, H', h, rfl⟩ := num_walk hn hl
  have hc := (xfunc_sound mixed (xcallK_sound mixed KE_ok F_ok 3000 0) 3000 (F_ok 46 L46 rfl) h).pure (H := H) (by simp only [AV.frozL, qN_froz, Bool.and_self]) (Fz.froz rfl)
  obtain ⟨v', q1, q2⟩ := KE_hit hc (fun n' e => by
    simp only [List.cons.injEq, and_true] at e
    rw [qN_inj e])
  rw [q1, q2 n rfl]
theorem k_eqSS {cf : CF} {n : Nat} {H : AHeap} {l : KL0} {x y : XO} {s t : List UInt8} (hx : evK l x = some (.str s)) (hy : evK l y = some (.str t)) : XV cf l H n (.bin .eql x y) = some (.bool (decide (s = t)), H) :=
  k_bin hx hy (by
    show some (AV.bool (s == t)) = _
    congr 2
    rw [Bool.eq_iff_iff]
    simp)
theorem is_walk {n : Nat} {s : List UInt8} (hn : (dz n).length < 200) (hl : (decL n).length ≤ 1000) : ∃ v H', xfunc (xcallK KE F 3000 0) 3000 L21 [.str s, qN n] ⟨.e, 0⟩ = some (v, H') ∧ v = .bool (decide (s = decS n)) := by
  refine xfunc_ofK rfl (by show 2 ≤ 18; omega) ?_
  have hF := HF.start ⟨.e, 0⟩
  generalize (⟨.e, 0⟩ : AHeap) = H at hF ⊢
  unfold L21
  dsimp only
  repeat' (first | refine WK.seq ?_ | refine WK.ret ?_ | (apply WK.reg; (· exact lnn)) | (apply WKO.boxO; (· rfl); (· assumption); (· rfl); (· exact nxx); (· exact nxx); (· exact nxx); intro _ _ _) | refine WKO.nil ?_ | ((first | apply WKO.op | ((first | apply WKO.gop); (· rfl); (· exact dcd))); (· first | exact k_mv rfl | (apply k_call; (· rfl); (· rfl); (· exact cfhit (E46 hn hl _))) | exact k_eqSS rfl rfl | (apply k_ldA; (· rfl); (· assumption); (· rfl); (· exact mmb); (· first | rfl)) | exact opA); (· rfl)) | refine pN ?_ | fail)
  exact ⟨fun id q => (by cases q), _, rfl, rfl⟩
theorem E21 {n : Nat} (s : List UInt8) (hn : (dz n).length < 200) (hl : (decL n).length ≤ 1000) (H : AHeap) : KE 21 [.str s, qN n] H = some (.bool (decide (s = decS n)), H) := by
  obtain ⟨v, H', h, rfl⟩ := is_walk (s := s) hn hl
  have hc := (xfunc_sound mixed (xcallK_sound mixed KE_ok F_ok 3000 0) 3000 (F_ok 21 L21 rfl) h).pure (H := H) (by simp only [AV.frozL, AV.froz, rowZ_froz, Bool.and_self]) (.bool _)
  obtain ⟨v', q1, q2⟩ := KE_hit hc (fun s' n' e => by
    simp only [List.cons.injEq, AV.str.injEq, and_true] at e
    rw [qN_inj e.2, e.1])
  rw [q1, q2 s n rfl]
theorem k_lenSI {cf : CF} {n : Nat} {H : AHeap} {K : KL0} {x : XO} {l : List Nat} (hx : evK K x = some (strI l)) : XV cf K H n (.len x) = some (nA l.length, H) := k_lenL hx rfl
theorem strC_at {l : List Nat} {i : Nat} (h : i < l.length) : (strC l)[i * 1]? = some (.str (decS (l.getD i 0))) := by
  rw [Nat.mul_one, strC, List.getElem?_map, List.getElem?_eq_getElem h, List.getD_eq_getElem?_getD, List.getElem?_eq_getElem h]
  rfl
theorem nums_walk {l : List Nat} (hl : l.length < 400) (hd : ∀ n ∈ l, (decL n).length ≤ 1000) : ∃ v H', xfunc (xcallK KE F 3000 0) 3000 L39 [strI l] ⟨.e, 0⟩ = some (v, H') ∧ v = .int .i64 0 := by
  refine xfunc_ofK rfl (by show 1 ≤ 16; omega) ?_
  generalize (⟨.e, 0⟩ : AHeap) = H
  unfold L39
  dsimp only
  repeat' (first | refine WK.seq ?_ | refine WK.block ?_ | (apply WK.reg; (· exact lnn)) | refine WKO.nil ?_ | ((first | apply WKO.op); (· first | exact k_mv rfl); (· rfl)) | refine pN ?_ | fail)
  refine WK.loop (α := Nat) (fun i => [(0, strI l), (3, nA i)]) (fun i H' => i ≤ l.length) (fun i => l.length - i) 0 (.cons rfl <| .cons rfl <| .nil _) (Nat.zero_le _) (by show l.length - 0 < 3000; omega) ?_
  intro i H3 hi
  have hdi : i < l.length → (decL (l.getD i 0)).length ≤ 1000 := fun h => hd _ (by rw [List.getD_eq_getElem?_getD, List.getElem?_eq_getElem h]; exact List.getElem_mem h)
  repeat' (first | refine WK.seq ?_ | refine WK.skip ?_ | refine WK.ret ?_ | refine WK.exit ?_ | refine WK.block ?_ | (apply WK.reg; (· exact lnn)) | refine WKO.nil ?_ | ((first | apply WKO.op); (· first | exact k_mv rfl | exact k_lenSI rfl | exact k_iaM rfl rfl (by omega) | exact k_ldP rfl (strC_at (by omega)) | (apply k_call; (· rfl); (· rfl); (· exact cfhit (E27 (hdi (by omega)) _))) | exact opA); (· rfl)) | refine pN ?_ | refine pX ?_ | refine bN ?_ | refine bX ?_ | (apply WK.condF; (· rfl); (· exact dcd)) | (apply WK.condD; (· rfl); all_goals intro _) | fail)
  · exact ⟨i + 1, (.cons rfl <| .cons rfl <| .nil _), by omega, by show l.length - (i + 1) < l.length - i; omega⟩
  · exact ⟨fun id q => (by cases q), _, rfl, rfl⟩
theorem E39 {l : List Nat} (hl : l.length < 400) (hd : ∀ n ∈ l, (decL n).length ≤ 1000) (H : AHeap) : KE 39 [strI l] H = some (.int .i64 0, H) := by
  obtain ⟨v, H', h, rfl⟩ := nums_walk hl hd
  have hc := (xfunc_sound mixed (xcallK_sound mixed KE_ok F_ok 3000 0) 3000 (F_ok 39 L39 rfl) h).pure (H := H) (by simp only [AV.frozL, strI_froz, Bool.and_self]) (Fz.froz rfl)
  obtain ⟨v', q1, q2⟩ := KE_hit hc (fun l' e => rfl)
  rw [q1, q2 l rfl]
end Go.Proofs.YtfcgofffalmdfaaGreatDoor.PA
namespace Go.Proofs.YtfcgofffalmdfaaGreatDoor.PA
open Go Go.Eng Go.Proofs
theorem sizes_zero (may : Nat → Nat → Bool) : ∀ n i, (sizesN may n i).getD 0 0 = 1 := by
  intro n
  induction n using Nat.strongRecOn with
  | _ n ih =>
    intro i
    by_cases h : n < 2
    · rw [sizesN_lt may h]; rfl
    · rw [sizesN_ge may (by omega)]
      have key : ∀ k, (sizesP may n i k).getD 0 0 = 1 := by
        intro k
        induction k with
        | zero => rw [sizesP_zero]; exact ih _ (by omega) _
        | succ k ihk =>
          rw [sizesP_succ]
          split
          · rw [plusF_get, ihk, if_neg (by omega)]
          · exact ihk
      exact key _
theorem szF_len (s : List UInt8) (rl : List Bool) (gap : Int) (i j : Nat) : (szF s rl gap i j).length = mostF s rl gap i j + 1 := by
  have := lenN_pos (mayF s rl gap) (j - i) i
  unfold mostF lenN szF at *
  omega
theorem take_sum (l : List Nat) {i : Nat} (h : i < l.length) : (l.take (i + 1)).sum = (l.take i).sum + l.getD i 0 := by
  rw [List.take_add_one, List.getElem?_eq_getElem h, List.sum_append, List.getD_eq_getElem?_getD, List.getElem?_eq_getElem h]
  simp
theorem take_sum_le (l : List Nat) (i : Nat) : (l.take i).sum ≤ l.sum := by
  conv => rhs; rw [← List.take_append_drop i l, List.sum_append]
  omega
theorem decS_zero : decS 0 = [UInt8.ofNat 48] := rfl
theorem decS_one : decS 1 = [UInt8.ofNat 49] := by
  rw [decS, decL, if_neg (by decide), decR_pos (by decide), show 1 / 10 = 0 from rfl, decR_zero]
  rfl
theorem best_walk (s : List UInt8) (l : List (Int × Int)) (gap : Int) : ∃ v H', xfunc (xcallK KT F 3000 0) 3000 L35 [.str s, pairsI l, .int .i64 gap] ⟨.e, 0⟩ = some (v, H') ∧ v = .tup [.str (BestV s l gap).1, .int .i64 (BestV s l gap).2] := by
  refine xfunc_ofK rfl (by show 3 ≤ 26; omega) ?_
  generalize (⟨.e, 0⟩ : AHeap) = H
  unfold L35
  dsimp only
  by_cases hE : readE s l gap = 0
  · have c1 : ∀ {H' : AHeap} {k : Nat}, xcallK KT F 3000 k 31 [.str s, pairsI l, .int .i64 gap] H' = some (.tup [strI (szF s (rulesOf l) gap 0 s.length), .int .i64 0], H') := fun {H' k} => cfhit (KT_R (KH_none (by decide) (by decide)) (KR_19 s H' hE))
    have hb : BestV s l gap = (decS ((szF s (rulesOf l) gap 0 s.length).getD (mostF s (rulesOf l) gap 0 s.length) 0), 0) := by unfold BestV; rw [if_pos hE]
    rw [hb]
    have hlen := szF_len s (rulesOf l) gap 0 s.length
    have hll := (szF_le s (rulesOf l) gap (readE_zero hE).1).1
    generalize mostF s (rulesOf l) gap 0 s.length = M at *
    generalize szF s (rulesOf l) gap 0 s.length = z at *
    have hsub : ∀ {n : Nat} {Hq : AHeap} {K : KL0} {x : XO}, evK K x = some (nA z.length) → XV (xcallK KT F 3000 0) K Hq n (.bin .sub x (.k (.int .i64 (.ofNat 1)))) = some (nA M, Hq) := fun {n Hq K x} hx => by
      have := k_subN (cf := xcallK KT F 3000 0) (n := n) (H := Hq) (b := 1) (y := .k (.int .i64 (.ofNat 1))) hx rfl (by omega) (by omega)
      rwa [hlen, Nat.add_sub_cancel] at this
    repeat' (first | refine WK.seq ?_ | refine WK.skip ?_ | refine WK.ret ?_ | (apply WK.reg; (· exact lnn)) | refine WKO.nil ?_ | ((first | apply WKO.op); (· first | exact k_mv rfl | (apply k_call; (· rfl); (· rfl); (· exact c1)) | exact k_lenSI rfl | exact hsub rfl | exact k_iaM rfl rfl (by omega) | exact k_ldP rfl (strC_at (by omega)) | exact opA); (· rfl)) | refine pN ?_ | (apply WK.condF; (· rfl); (· exact dcd)) | fail)
    exact ⟨fun id q => (by cases q), _, rfl, rfl⟩
  · have c1 : ∀ {H' : AHeap} {k : Nat}, xcallK KT F 3000 k 31 [.str s, pairsI l, .int .i64 gap] H' = some (.tup [strI (SizesV s l gap).1, .int .i64 (SizesV s l gap).2], H') := fun {H' k} => cfhit (KT_R (KH_none (by decide) (by decide)) (by
      show (unP (pairsI l)).map _ = _
      rw [unP_V, Option.map_some]))
    have hb : BestV s l gap = ([], readE s l gap) := by unfold BestV; rw [if_neg hE]
    have hz : SizesV s l gap = ([], readE s l gap) := by unfold SizesV; rw [if_neg hE]
    rw [hz] at c1
    rw [hb]
    repeat' (first | refine WK.seq ?_ | refine WK.ret ?_ | (apply WK.reg; (· exact lnn)) | refine WKO.nil ?_ | ((first | apply WKO.op); (· first | exact k_mv rfl | (apply k_call; (· rfl); (· rfl); (· exact c1)) | exact k_neE rfl | exact opA); (· rfl)) | refine pN ?_ | refine pR ?_ | (apply WK.condT; (· rfl); (· exact dcd)) | fail)
    exact ⟨fun id q => (by cases q), _, rfl, rfl⟩
theorem E35 (s : List UInt8) (l : List (Int × Int)) (gap : Int) (H : AHeap) : KE 35 [.str s, pairsI l, .int .i64 gap] H = some (.tup [.str (BestV s l gap).1, .int .i64 (BestV s l gap).2], H) := by
  obtain ⟨v, H', h, rfl⟩ := best_walk s l gap
  have hc := (xfunc_sound mixed (xcallK_sound mixed KT_ok F_ok 3000 0) 3000 (F_ok 35 L35 rfl) h).pure (H := H) (by simp only [AV.frozL, pairs_froz, AV.froz, Bool.and_self]) (Fz.froz rfl)
  obtain ⟨v', q1, q2⟩ := KE_hit hc (fun s' l' g' e => by
    simp only [List.cons.injEq, AV.str.injEq, AV.int.injEq, and_true, true_and] at e
    obtain ⟨e1, e2, e3⟩ := e
    rw [e1, pairsI_inj e2, e3])
  rw [q1, q2 s l gap rfl]
theorem k_neqSe {cf : CF} {n : Nat} {H : AHeap} {l : KL0} {x y : XO} {s : List UInt8} (hx : evK l x = some (.str s)) (hy : evK l y = some (.str s)) : XV cf l H n (.bin .neq x y) = some (.bool false, H) :=
  k_bin hx hy (by simp [binA, strA])
theorem k_eqS0 {cf : CF} {n : Nat} {H : AHeap} {l : KL0} {x : XO} {s t : List UInt8} (hx : evK l x = some (.str s)) (h : s ≠ t) : XV cf l H n (.bin .eql x (.k (.str t))) = some (.bool false, H) := by
  have := k_eqSS (cf := cf) (n := n) (H := H) (t := t) hx (y := .k (.str t)) rfl
  rwa [decide_eq_false h] at this
theorem KT_F {f : Nat} {args : List AV} {H : AHeap} {r : AV × AHeap} (h : KE f args H = some r) (h15 : f ≠ 24 := by decide) (h9 : f ≠ 16 := by decide) (h16 : f ≠ 25 := by decide) (h19 : f ≠ 31 := by decide) (h22 : f ≠ 26 := by decide) : KT f args H = some r := KT_E h h15 h9 h16 h19 h22
set_option maxHeartbeats 8000000 in
theorem x9 {P : Int} {g : Nat} {bs : List Nat} (hg : g < 256) (hbs : ∀ b ∈ bs, b < 256) :
    ∃ v H', xfunc (xcallK KT F 3000 0) 3000 L9 [.agg (cordA P g bs)] ⟨.e, 0⟩ = some (v, H') ∧ v = .bool true := by
  refine xfunc_ofK rfl (by show 1 ≤ 116; omega) ?_
  have hF := HF.start ⟨.e, 0⟩
  generalize (⟨.e, 0⟩ : AHeap) = H at hF ⊢
  unfold L9
  dsimp only
  repeat' (first | refine WK.seq ?_ | (apply WK.reg; (· exact lnn)) | (apply WKO.boxO; (· rfl); (· assumption); (· rfl); (· exact nxx); (· exact nxx); (· exact nxx); intro _ _ _) | refine WKO.nil ?_ | ((first | apply WKO.op); (· first | exact k_mv rfl | (apply k_ldA; (· rfl); (· assumption); (· rfl); (· exact mmb); (· first | rfl))); (· rfl)) | refine pN ?_ | fail)
  rename_i H1 hF1 hn1
  refine WKO.callV rfl rfl rfl (show ∃ v H', xcallK KT F 3000 0 24 [.agg (cordA P g bs), nA 40] (H1.bump 9) = some (v, H') ∧ ∃ (s : List UInt8) (l : List (Int × Int)) (gap : Int), v = .tup [.str s, pairsI l, .int .i64 gap] ∧ H' = (H1.bump 9) ∧ readE s l gap = 0 from by
    obtain ⟨s, l, gap, q1, q2, q3, q4, _⟩ := KR_15 (P := P) hg hbs (m := 40) (by omega) (H1.bump 9)
    exact ⟨_, _, cfhit (KT_R (KH_none (by decide) (by decide)) q1), s, l, gap, rfl, rfl, q2⟩) ?_
  rintro v2 H2 ⟨s, l, gap, rfl, rfl, hE⟩
  have hT1 := hF1.le
  have hB1 := hF1.base
  have hb : BestV s l gap = (decS ((szF s (rulesOf l) gap 0 s.length).getD (mostF s (rulesOf l) gap 0 s.length) 0), 0) := by unfold BestV; rw [if_pos hE]
  have c1 : ∀ {H' : AHeap} {k : Nat}, xcallK KT F 3000 k 31 [.str s, pairsI l, .int .i64 gap] H' = some (.tup [strI (szF s (rulesOf l) gap 0 s.length), .int .i64 0], H') := fun {H' k} => cfhit (KT_R (KH_none (by decide) (by decide)) (KR_19 s H' hE))
  have c2 : ∀ {H' : AHeap} {k : Nat}, xcallK KT F 3000 k 26 [.str s, pairsI l, .int .i64 gap] H' = some (.tup [.str (decS (szF s (rulesOf l) gap 0 s.length).sum), .int .i64 0], H') := fun {H' k} => cfhit (KT_all hE)
  have c3 : ∀ {H' : AHeap} {k : Nat}, xcallK KT F 3000 k 35 [.str s, pairsI l, .int .i64 gap] H' = some (.tup [.str (decS ((szF s (rulesOf l) gap 0 s.length).getD (mostF s (rulesOf l) gap 0 s.length) 0)), .int .i64 0], H') := fun {H' k} => by
    have := E35 s l gap H'
    rw [hb] at this
    exact cfhit (KT_F this)
  have c4 : ∀ {H' : AHeap} {k : Nat}, xcallK KT F 3000 k 25 [.str s, pairsI l, .int .i64 gap] H' = some (.tup [nA (mostF s (rulesOf l) gap 0 s.length), .int .i64 0], H') := fun {H' k} => cfhit (KT_most hE)
  have c9 : ∀ {H' : AHeap} {k : Nat}, xcallK KT F 3000 k 16 [] H' = some (.bool true, H') := fun {H' k} => cfhit KT_lives
  have hlen := szF_len s (rulesOf l) gap 0 s.length
  have hll := (szF_le s (rulesOf l) gap (readE_zero hE).1).1
  have hbig := szF_big hE
  have hz0 : (szF s (rulesOf l) gap 0 s.length).getD 0 0 = 1 := sizes_zero _ _ _
  have hpos : 0 < (szF s (rulesOf l) gap 0 s.length).getD (mostF s (rulesOf l) gap 0 s.length) 0 := sizes_allP _ _ _ _ (by
    show _ < (szF s (rulesOf l) gap 0 s.length).length
    omega)
  generalize mostF s (rulesOf l) gap 0 s.length = M at *
  generalize szF s (rulesOf l) gap 0 s.length = z at *
  have hel : ∀ n ∈ z, n < bigN := fun n hn => Nat.lt_of_le_of_lt (by
    obtain ⟨a, b, rfl⟩ := List.append_of_mem hn
    rw [List.sum_append, List.sum_cons]
    omega) hbig
  have c5 : ∀ {H' : AHeap} {k : Nat}, xcallK KT F 3000 k 39 [strI z] H' = some (.int .i64 0, H') := fun {H' k} => cfhit (KT_F (E39 hll (fun n hn => by have := decL_big (hel n hn); omega) H'))
  have c6 : ∀ {H' : AHeap} {k : Nat}, xcallK KT F 3000 k 32 [nA 0] H' = some (qN 0, H') := fun {H' k} => cfhit (KT_F (E32 (by decide) H'))
  have hne0 : decS (z.getD M 0) ≠ [UInt8.ofNat 48] := fun e => by
    rw [← decS_zero] at e
    have := decS_inj e
    omega
  have hs0 : decS (z.getD 0 0) = [UInt8.ofNat 49] := by rw [hz0, decS_one]
  repeat' (first | refine WK.seq ?_ | refine WK.skip ?_ | refine WK.block ?_ | (apply WK.reg; (· exact lnn)) | (apply WKO.alO; (· assumption); (· rfl); (· exact nxx); (· exact nxx); (· exact nxx); intro _ _ _) | (apply WKO.stO0; (· rfl); (· rfl); (· assumption); (· rfl); (· exact nxx); (· first | exact .inr nxx); (· rfl); (· rfl); (· first | decide); intro _ _ _) | refine WKO.nil ?_ | ((first | apply WKO.op | ((first | apply WKO.gop); (· rfl); (· exact dcd))); (· first | exact k_mv rfl | (apply k_call; (· rfl); (· rfl); (· first | exact c1 | exact c2 | exact c3 | exact c4 | exact c5 | exact c6 | exact c9)) | exact k_lenSI rfl | (apply k_iaM (a := 0); (· rfl); (· rfl); (· omega)) | exact k_iaM rfl rfl (by omega) | exact k_ldP rfl (strC_at (i := 0) (by omega)) | exact k_ldP rfl (strC_at (by omega)) | exact k_neS1 rfl hs0 | exact k_neqSe rfl rfl | exact k_eqS0 rfl hne0 | exact opA); (· rfl)) | refine pN ?_ | (apply WK.condF; (· rfl); (· exact dcd)) | fail)
  rename_i Ha hFa hna Hb hFb hnb
  have hpp : H.next ≤ ((((((H1.bump 9).bump 9).bump 9).bump 9).bump 9).bump 48).next + 1 := by simp only [next_bump]; omega
  generalize ((((((H1.bump 9).bump 9).bump 9).bump 9).bump 9).bump 48).next + 1 = p at hFa hFb hpp ⊢
  have hFc : HF H [] _ [(p, .cells [.bool false, rowZ (dz (z.take 0).sum), .bool false, rowZ (dz 1)] none), (H.next, .cells (cordA P g bs) none)] Hb := hFb
  clear hFa hFb hF1 hF
  refine WK.loop (α := Nat) (fun i => [(6, strI z), (8, .str (decS z.sum)), (14, .ptr p 0), (15, nA i)])
    (fun i H' => (∃ T, HF H [] T [(p, .cells [.bool false, rowZ (dz (z.take i).sum), .bool false, rowZ (dz 1)] none), (H.next, .cells (cordA P g bs) none)] H') ∧ i ≤ z.length) (fun i => z.length - i) 0 (.cons rfl <| .cons rfl <| .cons rfl <| .cons rfl <| .nil _) ⟨⟨_, hFc.up rfl (by simp only [next_bump]; omega)⟩, Nat.zero_le _⟩ (by show z.length - 0 < 3000; omega) ?_
  rintro i H5 ⟨⟨T5, hF5⟩, hi⟩
  have hb5 := hF5.base
  have hl5 := hF5.le
  have hp5 := hF5.nd
  simp only [List.map_cons, List.map_nil, List.nodup_cons, List.mem_cons, List.not_mem_nil, or_false, not_or, not_false_iff, List.nodup_nil, and_true] at hp5
  clear hFc
  have hsm : (z.take i).sum < bigN := Nat.lt_of_le_of_lt (take_sum_le z i) hbig
  have hse : i < z.length → z.getD i 0 < bigN := fun h => hel _ (by rw [List.getD_eq_getElem?_getD, List.getElem?_eq_getElem h]; exact List.getElem_mem h)
  repeat' (first | refine WK.seq ?_ | refine WK.skip ?_ | refine WK.exit ?_ | refine WK.block ?_ | (apply WK.reg; (· exact lnn)) | refine WKO.nil ?_ | ((first | apply WKO.op); (· first | exact k_mv rfl | exact k_lenSI rfl | (apply k_ldA; (· rfl); (· assumption); (· rfl); (· exact mmb); (· first | rfl)) | exact opA); (· rfl)) | refine pN ?_ | refine pX ?_ | refine bX ?_ | (apply WK.condD; (· rfl); all_goals intro _) | fail)
  · rename_i hiz
    have d1 : ∀ {H' : AHeap} {k : Nat}, xcallK KT F 3000 k 29 [.str (decS (z.getD i 0))] H' = some (qN (z.getD i 0), H') := fun {H' k} => cfhit (KT_of (hse hiz))
    have d2 : ∀ {H' : AHeap} {k : Nat}, xcallK KT F 3000 k 40 [qN (z.take i).sum, qN (z.getD i 0)] H' = some (qN ((z.take i).sum + z.getD i 0), H') := fun {H' k} => cfhit (KT_F (E40 (by have := dz_big hsm; omega) (by have := dz_big (hse hiz); omega) H'))
    refine WK.regC1 7 rfl rfl rfl ?_
    dsimp only [List.take_succ_cons, List.take_zero]
    repeat' (first | (apply WK.reg; (· exact lnn)) | (apply WKO.stO0; (· rfl); (· rfl); (· assumption); (· rfl); (· exact nxx); (· first | exact .inr nxx); (· rfl); (· rfl); (· first | (simp; done)); intro _ _ _) | refine WKC.nil ?_ | refine WKO.nil ?_ | ((first | apply WKC.op | apply WKO.op); (· first | exact k_mv rfl | exact k_iaM rfl rfl (by omega) | exact k_ldP rfl (strC_at (by omega)) | (apply k_call; (· rfl); (· rfl); (· first | exact d1 | exact d2)) | (apply k_ldA; (· rfl); (· assumption); (· rfl); (· exact mmb); (· first | rfl)) | exact opA); (· rfl)) | refine pN ?_ | refine bN ?_ | fail)
    rename_i H6 hF6 hn6
    refine ⟨i + 1, (.cons rfl <| .cons rfl <| .cons rfl <| .cons rfl <| .nil _), ⟨⟨T5, ?_⟩, by omega⟩, by omega⟩
    rw [take_sum z hiz]
    exact hF6.up rfl (by simp only [next_bump]; omega)
  · have hiz : i = z.length := by omega
    subst hiz
    rw [List.take_length] at hsm ⊢
    have e1 : ∀ {H' : AHeap} {k : Nat}, xcallK KT F 3000 k 33 [qN z.sum] H' = some (qN z.sum, H') := fun {H' k} => cfhit (KT_F (E33q (by have := dz_big hsm; omega) H'))
    have e2 : ∀ {H' : AHeap} {k : Nat}, xcallK KT F 3000 k 21 [.str (decS z.sum), qN z.sum] H' = some (.bool (decide (decS z.sum = decS z.sum)), H') := fun {H' k} => cfhit (KT_F (E21 _ (by have := dz_big hsm; omega) (by have := decL_big hsm; omega) H'))
    repeat' (first | refine WK.ret ?_ | refine WKO.nil ?_ | ((first | apply WKO.op); (· first | exact k_mv rfl | (apply k_call; (· rfl); (· rfl); (· first | exact e1 | exact e2))); (· rfl)) | refine pN ?_ | fail)
    exact ⟨fun id q => (by cases q), [.bool (decide (decS z.sum = decS z.sum))], rfl, by rw [decide_eq_true rfl]; rfl⟩
end Go.Proofs.YtfcgofffalmdfaaGreatDoor.PA
namespace Go.Proofs.YtfcgofffalmdfaaGreatDoor.PA
open Go Go.Eng Go.Proofs Go.RowKit Go.ChangeShapes Go.Deep
theorem u8_nat {n : Int} (h : (Lit.int .u8 n).wf = true) : ∃ m : Nat, n = (m : Int) ∧ m < 256 := by
  simp [Lit.wf, IntKind.min, IntKind.max, IntKind.signed, IntKind.bits] at h
  exact ⟨n.toNat, by omega, by omega⟩
theorem relL_bytes {E : Env} {w : World} : ∀ x : List Nat, AVRelL E w (x.map bA) (x.map fun p : Nat => Value.int .u8 (p : Int))
  | [] => by simp [AVRelL]
  | p :: x => by
    have := relL_bytes (E := E) (w := w) x
    simp only [List.map_cons, AVRelL, bA, AVRel] at this ⊢
    exact ⟨_, _, rfl, rfl, this⟩
section
variable {H : Type} {enc : TypeId × Value → H} {P : Program} {w : World} {base : Nat} {held : Bool}
theorem read_bytes {t e : TypeId} {v : Value} {d : DataW H} {ps : List MemPlace} (ht : P.underlying t = some (.slice e)) (he : P.underlying e = some (.int .u8)) (ce : P.cellsOf e = 1)
    {a0 : Option Addr} {len cap : Nat} (hv : v = .slice a0 len cap) (h : DataW.Trod enc P w base (fun _ => true) held t v d ps) :
    ∃ x : List Nat, (∀ p ∈ x, p < 256) ∧ AVRel (E0 w) w (.imm (x.map bA) x.length false) v := by
  subst hv
  obtain ⟨fuel, hf⟩ := h
  have hf' : DataW.trod enc P w base (fun _ => true) held fuel t [.slice a0 len cap] = some (d, ps) := hf
  rcases open_slice ht hf' with ⟨h0, _⟩ | ⟨a, len', cap', m, n, D, Pl, h0, hb, hl, hm, hmm, _, hx⟩
  · cases h0
    refine ⟨[], by simp, ?_⟩
    simp only [AVRel]
    exact .inl ⟨rfl, rfl, none, 0, rfl, by simp⟩
  · cases h0
    by_cases hz : len = 0
    · subst hz
      refine ⟨[], by simp, ?_⟩
      simp only [AVRel]
      exact .inl ⟨rfl, rfl, some a, cap, rfl, by simp⟩
    · have hmc : m = cap := by simpa using hmm
      obtain ⟨f, hfn⟩ := choose_lt (n := len) (p := fun i p => w.cell? (a.add i) = some (.int .u8 ((p : Nat) : Int)) ∧ p < 256) (fun i hi => by
        obtain ⟨cs', h1, h2⟩ := hx i (by omega)
        rw [ce] at h1
        obtain ⟨_, hlen, hcell⟩ := World.cells?_some h1
        have e0 := hcell 0 (by omega)
        obtain ⟨n0, e1, _, w0⟩ := DataW.trod_int he h2
        subst e1
        obtain ⟨p, rfl, q⟩ := u8_nat w0
        rw [add_add] at e0
        exact ⟨p, by simpa using e0, q⟩)
      have hs : a.spot = none := by
        have h0 := (hfn 0 (by omega)).1
        have h0' : w.cell? a = some (.int .u8 ((f 0 : Nat) : Int)) := by simpa [Addr.add] using h0
        unfold World.cell? at h0'
        split at h0'
        · split at h0'
          · cases h0'
          · rename_i q
            simpa using q
        · cases h0'
      obtain ⟨b, s, sp⟩ := a
      simp only at hs
      subst hs
      have hadd : ∀ j, (⟨b, s, none⟩ : Addr).add j = ⟨b, s + j, none⟩ := fun j => by
        unfold Addr.add
        split
        · rename_i q; subst q; rfl
        · rfl
      refine ⟨(List.range len).map f, fun p hp => ?_, ?_⟩
      · simp only [List.mem_map, List.mem_range] at hp
        obtain ⟨i, hi, rfl⟩ := hp
        exact (hfn i hi).2
      · simp only [AVRel, List.length_map, List.length_range]
        refine .inr ⟨b, s, cap, _, rfl, ?_, fun j u hu => ?_, relL_bytes _, by omega, by simp⟩
        · have h0 := (hfn 0 (by omega)).1
          rw [hadd] at h0
          exact World.block_lt_of_cell? _ _ h0
        · rw [List.getElem?_map, Option.map_eq_some_iff] at hu
          obtain ⟨p, h1, rfl⟩ := hu
          rw [List.getElem?_map, Option.map_eq_some_iff] at h1
          obtain ⟨i', h1, rfl⟩ := h1
          have hi' : j < len := by
            rcases Nat.lt_or_ge j len with q | q
            · exact q
            · rw [List.getElem?_eq_none (by simpa using q)] at h1; cases h1
          rw [List.getElem?_range hi'] at h1
          cases h1
          rw [← hadd]
          exact (hfn _ hi').1
end
end Go.Proofs.YtfcgofffalmdfaaGreatDoor.PA
namespace Go.Proofs.YtfcgofffalmdfaaGreatDoor.ropeSizes
open Go Go.ChangeShapes Go.WideShapes Go.ChangeAt Go.RowKit Go.Deep Go.Joins Go.Eng
theorem own : ownKnob Tryz.prog.godebug = none := by kernel_rfl
theorem laidOut : laidOutB Tryz.prog = true := by kernel_rfl
theorem call (w : World) {P : Int} {g : Nat} {bs : List Nat} (hg : g < 256) (hbs : ∀ b ∈ bs, b < 256) {v0 : Value} (h0 : AVRel (E0 w) w (.agg (PA.cordA P g bs)) v0) :
    Calls Tryz.prog 9 #[v0] w fun e w' => e = .returned (.bool true) ∧ Below w.heap.size w w' := by
  obtain ⟨v, H', q1, rfl⟩ := PA.x9 (P := P) hg hbs
  have h3 := (xfunc_sound PA.mixed (xcallK_sound PA.mixed PA.KT_ok PA.F_ok 3000 0) 3000 (PA.F_ok 9 PA.L9 rfl) q1).2 (E0 w) w [v0] (rel0 w) (by
    simp only [AVRelL]
    exact ⟨_, _, rfl, h0, rfl⟩)
  refine h3.mono fun e w' ⟨u, E', he, hs, hr⟩ => ?_
  simp only [AVRel] at hr
  subst hr
  exact ⟨he, below0 hs⟩
set_option maxRecDepth 100000 in
theorem lifted (os : Os) (started : os.Started) (H : Type) (enc : TypeId × Value → H) :
    ReturnsInHanded {} Tryz.checked os 9 .any (fun w args => (Rows.ropeSizesSpec.pre enc Tryz.prog Tryz.f9 Rows.ropeSizesRow.domain false w args ∧ laidMetH Tryz.prog Rows.ropeSizesRow.laid w) ∧ sizedMet enc Tryz.prog Tryz.f9 (OpenSpec.ofChange Rows.ropeSizesSpec) false w args)
      (Rows.ropeSizesSpec.post enc Tryz.prog Tryz.f9 false true false false) := by
  refine returnsInHanded_of_change_and (C := Tryz.checked) (X := fun w _ => laidMetH Tryz.prog Rows.ropeSizesRow.laid w) (fun _ _ _ hh h => h.of_heap hh) own started (by kernel_rfl) Tryz.func9
    (ChangeSpec.witness_shaped (enc := enc) (C := Tryz.checked) (os := os) (X := fun w _ => laidMetH Tryz.prog Rows.ropeSizesRow.laid w) false (World.laidAll Tryz.prog os Rows.ropeSizesRow.laid) #[.agg #[.int .u16 0, .int .u8 0, .slice none 0 0]] 8 (World.laidAll_os _ _ _)
      (World.shaped_of_ZipB (by kernel_rfl) (by kernel_rfl)) (by kernel_rfl) (by kernel_rfl) (by kernel_rfl)
      (by rw [MakeChecks.laidMetH_plain _ _ _ (by kernel_rfl)]; exact laidMet_laidAll _ (by kernel_rfl) (by kernel_rfl))) ?_
  intro W base args ds gs before hval0 hW hcnd _ _ _
  have hval : ∀ (j : Nat) t v, Tryz.f9.params[j]? = some t → args[j]? = some v → Value.okWide Tryz.prog W .any base t v := hval0
  have hW' := hW
  obtain ⟨p, q, hA0, hV, rfl, hfz, hnd⟩ := hW
  have hA : DataW.TrodAll enc Tryz.prog W 0 (fun _ => true) true Tryz.f9.params.toList args.toList ds p := hA0
  rw [Tryz.params9] at hA hval
  obtain ⟨v0, vs0, d0, ds0, p0, q0, hargs, rfl, rfl, h0, r0⟩ := trodAll_cons hA
  obtain ⟨rfl, rfl, rfl⟩ := trodAll_nil r0
  obtain rfl : args = #[v0] := by cases args; simp_all
  obtain ⟨rfl, rfl⟩ := trodVars_none hV
  have k0 := h0
  have lt0 : ∀ x ∈ p0, x.block < W.heap.size := by obtain ⟨m, hm⟩ := k0; exact DataW.trod_lt m _ _ _ hm
  obtain ⟨c0, c1, c2, y0, y1, y2, n, rfl, hd0, hp0, t0, t1, t2⟩ := open_agg3 Tryz.underlying54 (by kernel_rfl) (by kernel_rfl) (hval 0 54 v0 rfl rfl) h0
  obtain ⟨z0, e0, _⟩ := DataW.trod_int Tryz.underlying51 t0
  obtain ⟨z1, e1, _, w1⟩ := DataW.trod_int Tryz.underlying5 t1
  simp only [List.cons.injEq, and_true] at e0 e1
  subst e0 e1
  obtain ⟨g, rfl, hg⟩ := PA.u8_nat w1
  obtain ⟨a2, l2, cc2, hs2⟩ := slice_form Tryz.underlying52 t2
  simp only [List.cons.injEq, and_true] at hs2
  obtain ⟨bs, hbs, r2⟩ := PA.read_bytes (v := c2) Tryz.underlying52 Tryz.underlying5 (by kernel_rfl) hs2 ⟨n, by subst hs2; exact t2⟩
  clear hA0 hval0
  refine (call W hg hbs (by
    unfold PA.cordA PA.bA
    simp only [AVRel, AVRelL]
    exact ⟨_, rfl, _, _, rfl, rfl, _, _, rfl, rfl, _, _, rfl, r2, rfl⟩)).mono fun e W' ⟨he, bel⟩ => ?_
  subst he
  exact ⟨_, rfl, _, _, _, [], _, [], hW', trodAll_mk1 (shut_bool Tryz.underlying4 _), (trodAll_cons_mk (Below.trod laidOut (by kernel_rfl) (of_decide_eq_true (by kernel_rfl)) k0 bel lt0) trodAll_mk0), rfl, bel.frame _, fun h => by cases h⟩
theorem over : Rows.RopeSizesSaid :=
  OpenClaim.holds_of_wide 9 Tryz.f9 rfl rfl rfl rfl rfl rfl rfl ⟨rfl, rfl, rfl, rfl, rfl⟩ rfl rfl rfl rfl rfl (by kernel_rfl) Tryz.func9 (by kernel_rfl)
    (of_decide_eq_true (by kernel_rfl)) (by unfold Func.isWrapper; first | (rw [if_pos (by decide +kernel)]; kernel_rfl) | (rw [if_neg (by decide +kernel)]; exact ⟨rfl, rfl⟩))
    (fun os started H enc _ => lifted os started H enc)
end Go.Proofs.YtfcgofffalmdfaaGreatDoor.ropeSizes
namespace Go.Proofs.YtfcgofffalmdfaaGreatDoor
open Go
theorem ropeSizes_card : Rows.RopeSizesCardSaid :=
  Claim7.holds_tied_plain_at .later [] [.data, .pinned] true (true, "5e7abd25e6fdffa6dc8dfc12cd5002f17c6143cad05b03ef55e8e1654f75baf7") false ropeSizes.over (fun _ h => by cases h) (by kernel_rfl) (fun _ h => by cases h) ropeSizes_row_tie rfl ⟨rfl, rfl⟩ (by kernel_rfl) rfl
    (fun f fn hf hfn => by
      obtain rfl : f = 9 := Option.some.inj ((show Tryz.prog.funcNamed "woggle/wogglelaw03.RopeSizes" = some 9 by kernel_rfl).symm.trans hf) |>.symm
      obtain rfl : fn = Tryz.f9 := (Option.some.inj (Tryz.func9.symm.trans hfn)).symm
      exact ⟨by kernel_rfl, fun j t ht => by
        rw [Tryz.params9] at ht
        have hm : t ∈ [54] := by simpa using Array.mem_of_getElem? ht
        have hall : ([54].all fun u => !Tryz.prog.wantsStandIn u) = true := by kernel_rfl
        exact (show Tryz.prog.wantsStandIn t = false by simpa using List.all_eq_true.1 hall t hm)⟩)
    (by kernel_rfl)
#print axioms ropeSizes_card
end Go.Proofs.YtfcgofffalmdfaaGreatDoor
namespace Go.Proofs.YtfcgofffalmdfaaGreatDoor.PA
open Go Go.Eng Go.Proofs
def XB : Nat := 2 ^ 128
def eT : Nat → List Nat
  | 0 => [1]
  | n + 1 => eT n ++ [(eT n).getD n 0 + XB * sg (fun k => (eT n).getD k 0 * (eT n).getD (n - 1 - k) 0) n]
theorem eT_len : ∀ n, (eT n).length = n + 1
  | 0 => rfl
  | n + 1 => by rw [eT, List.length_append, eT_len n]; rfl
theorem eT_up (n m : Nat) (h : m ≤ n) : (eT (n + 1)).getD m 0 = (eT n).getD m 0 := by
  rw [eT, List.getD_eq_getElem?_getD, List.getElem?_append_left (by rw [eT_len]; omega), List.getD_eq_getElem?_getD]
abbrev allM : Nat → Nat → Bool := fun _ _ => true
theorem eT_eq : ∀ n m i, m ≤ n → (eT n).getD m 0 = evS allM XB m i := by
  intro n
  induction n with
  | zero =>
    intro m i h
    rw [show m = 0 by omega, evS_zero]
    rfl
  | succ n ih =>
    intro m i h
    by_cases e : m ≤ n
    · rw [eT_up n m e, ih m i e]
    · have hm : m = n + 1 := by omega
      subst hm
      rw [evS_first, eT, List.getD_eq_getElem?_getD, List.getElem?_append_right (by rw [eT_len]; exact Nat.le_refl _), eT_len, Nat.sub_self]
      show (eT n).getD n 0 + _ = _
      rw [ih n (i + 1) (Nat.le_refl _), ← sg_mul]
      congr 1
      refine sg_congr fun k hk => ?_
      rw [ih k (i + 1) (by omega), ih (n - 1 - k) (i + 2 + k) (by omega)]
      show _ = 1 * _
      rw [Nat.one_mul]
def wN (n : Nat) : Nat → Nat
  | 0 => 1
  | k + 1 => wN n k * ((n - 2 * k) * (n - 2 * k - 1)) / ((k + 1) * (k + 2))
def wL (n : Nat) : List Nat := (List.range (n / 2 + 1)).map (wN n)
def goodW (n : Nat) : Bool := (ev XB (wL n) == (eT 40).getD n 0) && (wL n).all (fun x => decide (x < XB)) && (List.range (n / 2 + 1)).all fun k => wN n k * ((n - 2 * k) * (n - 2 * k - 1)) == wN n (k + 1) * ((k + 1) * (k + 2))
set_option maxRecDepth 100000 in
theorem goodW_all : (List.range 41).all goodW = true := by decide +kernel
theorem goodW_at {n : Nat} (h : n ≤ 40) : goodW n = true := List.all_eq_true.1 goodW_all n (List.mem_range.2 (by omega))
theorem ev_digits {x : Nat} (hx : 0 < x) : ∀ {a b : List Nat}, (∀ y ∈ a, y < x) → (∀ y ∈ b, y < x) → ev x a = ev x b → ∀ j, a.getD j 0 = b.getD j 0
  | [], [], _, _, _, _ => rfl
  | [], d :: b, ha, hb, h, j => by
    rw [ev_cons] at h
    have h0 : ev x ([] : List Nat) = 0 := rfl
    rw [h0] at h
    have hd : d = 0 := by omega
    have hr : ev x b = 0 := by
      rcases Nat.mul_eq_zero.1 (show x * ev x b = 0 by omega) with q | q
      · omega
      · exact q
    cases j with
    | zero => rw [hd]; rfl
    | succ j =>
      have := ev_digits hx (a := []) (b := b) ha (fun y hy => hb y (by simp [hy])) (by rw [hr]; rfl) j
      simpa using this
  | c :: a, [], ha, hb, h, j => by
    rw [ev_cons] at h
    have h0 : ev x ([] : List Nat) = 0 := rfl
    rw [h0] at h
    have hd : c = 0 := by omega
    have hr : ev x a = 0 := by
      rcases Nat.mul_eq_zero.1 (show x * ev x a = 0 by omega) with q | q
      · omega
      · exact q
    cases j with
    | zero => rw [hd]; rfl
    | succ j =>
      have := ev_digits hx (a := a) (b := []) (fun y hy => ha y (by simp [hy])) hb (by rw [hr]; rfl) j
      simpa using this
  | c :: a, d :: b, ha, hb, h, j => by
    rw [ev_cons, ev_cons] at h
    have h1 : c = d := by
      have := congrArg (· % x) h
      simp only [Nat.add_mul_mod_self_left] at this
      rwa [Nat.mod_eq_of_lt (ha c (by simp)), Nat.mod_eq_of_lt (hb d (by simp))] at this
    have h2 : ev x a = ev x b := by
      subst h1
      exact Nat.eq_of_mul_eq_mul_left hx (by omega)
    cases j with
    | zero => exact h1
    | succ j =>
      have := ev_digits hx (fun y hy => ha y (by simp [hy])) (fun y hy => hb y (by simp [hy])) h2 j
      simpa using this
theorem sum_ge {l : List Nat} {y : Nat} (h : y ∈ l) : y ≤ l.sum := by
  obtain ⟨a, b, rfl⟩ := List.append_of_mem h
  rw [List.sum_append, List.sum_cons]
  omega
theorem wL_len (n : Nat) : (wL n).length = n / 2 + 1 := by simp [wL]
theorem wL_get {n k : Nat} (h : k ≤ n / 2) : (wL n).getD k 0 = wN n k := by
  rw [wL, List.getD_eq_getElem?_getD, List.getElem?_map, List.getElem?_range (by omega)]
  rfl
theorem len_bound (may : Nat → Nat → Bool) : ∀ n i, lenN may n i ≤ n / 2 + 1 := by
  intro n
  induction n using Nat.strongRecOn with
  | _ n ih =>
    intro i
    by_cases h2 : n < 2
    · rw [lenN_lt may h2]; omega
    · rcases lenN_cases may (i := i) (show 2 ≤ n by omega) with e | ⟨j, hj, hm, e⟩
      · have := ih (n - 1) (by omega) (i + 1)
        omega
      · have := ih j (by omega) (i + 1)
        have := ih (n - 2 - j) (by omega) (i + 2 + j)
        omega
theorem len_all : ∀ n i, n / 2 + 1 ≤ lenN allM n i := by
  intro n
  induction n using Nat.strongRecOn with
  | _ n ih =>
    intro i
    by_cases h2 : n < 2
    · rw [lenN_lt allM h2]; omega
    · have h1 := lenN_ge2 allM (i := i) (j := 0) (show 2 ≤ n by omega) (by omega) rfl
      have h3 := ih (n - 2) (by omega) (i + 2)
      rw [lenN_lt allM (show 0 < 2 by decide)] at h1
      simp only [Nat.sub_zero, Nat.add_zero] at h1
      omega
theorem sizes_all {n : Nat} (h : n ≤ 40) : sizesN allM n 0 = wL n := by
  have hg := goodW_at h
  unfold goodW at hg
  rw [Bool.and_eq_true, Bool.and_eq_true, beq_iff_eq] at hg
  obtain ⟨⟨g1, g2⟩, _⟩ := hg
  rw [eT_eq 40 n 0 h] at g1
  have hlt : ∀ y ∈ sizesN allM n 0, y < XB := fun y hy => by
    have h1 := sum_ge hy
    have h2 := sizesN_sum allM n 0 (by omega)
    have h3 : 8 ^ n ≤ 8 ^ 40 := Nat.pow_le_pow_right (by decide) h
    have h4 : 8 ^ 40 < XB := by decide
    omega
  have hd := ev_digits (show 0 < XB by decide) hlt (fun y hy => of_decide_eq_true (List.all_eq_true.1 g2 y hy)) g1.symm
  have hl : (sizesN allM n 0).length = n / 2 + 1 := Nat.le_antisymm (len_bound allM n 0) (len_all n 0)
  apply List.ext_getElem
  · rw [hl, wL_len]
  · intro j h1 h2
    have := hd j
    rw [List.getD_eq_getElem?_getD, List.getD_eq_getElem?_getD, List.getElem?_eq_getElem h1, List.getElem?_eq_getElem h2] at this
    exact this
theorem wN_step {n k : Nat} (h : n ≤ 40) (hk : k ≤ n / 2) : wN n k * ((n - 2 * k) * (n - 2 * k - 1)) = wN n (k + 1) * ((k + 1) * (k + 2)) := by
  have hg := goodW_at h
  unfold goodW at hg
  rw [Bool.and_eq_true, Bool.and_eq_true] at hg
  have := List.all_eq_true.1 hg.2 k (List.mem_range.2 (by omega))
  exact beq_iff_eq.1 this
theorem motzkin {s : List UInt8} {l : List (Int × Int)} (hE : readE s l 0 = 0) (hall : ∀ a b : Nat, a < 4 → b ≤ a → ((a : Int), (b : Int)) ∈ l) : szF s (rulesOf l) 0 0 s.length = wL s.length := by
  obtain ⟨h1, h2, h3, _⟩ := readE_zero hE
  unfold szF
  rw [Nat.sub_zero, ← sizes_all h1]
  have := sizesN_shift allM (may' := mayF s (rulesOf l) 0) (N := s.length) (c := 0) (fun i j hij hj => by
    have hx : ∀ i, i < s.length → 97 ≤ (s.getD i 97).toNat ∧ (s.getD i 97).toNat ≤ 100 := fun i hi => by
      have := List.all_eq_true.1 h2 (s.getD i 97) (by rw [List.getD_eq_getElem?_getD, List.getElem?_eq_getElem hi]; exact List.getElem_mem hi)
      simpa [inS'] using this
    rw [may_iff h3 h2 (by omega) hj]
    have ha := hx i (by omega)
    have hb := hx j hj
    have hx4 : (s.getD i 97).toNat - 97 < 4 := by omega
    have hy4 : (s.getD j 97).toNat - 97 < 4 := by omega
    generalize (s.getD i 97).toNat - 97 = x at hx4 ⊢
    generalize (s.getD j 97).toNat - 97 = y at hy4 ⊢
    rw [decide_eq_true (by omega), Bool.true_and]
    show l.any (hit x y) = true
    rw [List.any_eq_true]
    rcases Nat.le_total y x with q | q
    · exact ⟨_, hall x y hx4 q, by simp [hit]⟩
    · exact ⟨_, hall y x hy4 q, by simp [hit]⟩) s.length 0 (by omega)
  rwa [Nat.zero_add] at this
end Go.Proofs.YtfcgofffalmdfaaGreatDoor.PA
namespace Go.Proofs.YtfcgofffalmdfaaGreatDoor.PA
open Go Go.Eng Go.Proofs
theorem k_mulM {cf : CF} {n a : Nat} {H : AHeap} {l : KL0} {x y : XO} (hx : evK l x = some (nA a)) (hy : evK l y = some (zA ((a : Int) - 1))) (h : a < 1000) : XV cf l H n (.bin .mul x y) = some (nA (a * (a - 1)), H) :=
  k_bin hx hy (by
    show some (AV.int .i64 (wrapA .i64 ((a : Int) * ((a : Int) - 1)))) = _
    have e : (a : Int) * ((a : Int) - 1) = ((a * (a - 1) : Nat) : Int) := by
      cases a with
      | zero => rfl
      | succ a => rw [Int.natCast_mul, Nat.add_sub_cancel]; congr 1; omega
    have hb : a * (a - 1) ≤ 1000 * 1000 := Nat.mul_le_mul (by omega) (by omega)
    rw [e, wrapI _ (by omega) (by omega)]
    rfl)
theorem k_mul2 {cf : CF} {n a : Nat} {H : AHeap} {l : KL0} {x : XO} (hx : evK l x = some (nA a)) (h : a < 1000000) : XV cf l H n (.bin .mul (.k (.int .i64 (.ofNat 2))) x) = some (nA (2 * a), H) := k_mulN (a := 2) rfl hx (by omega)
theorem k_add2 {cf : CF} {n a : Nat} {H : AHeap} {l : KL0} {x : XO} (hx : evK l x = some (nA a)) (h : a < 1000000) : XV cf l H n (.bin .add x (.k (.int .i64 (.ofNat 2)))) = some (nA (a + 2), H) := k_addN (b := 2) hx rfl (by omega)
theorem low_int {w w' A B : Nat} (hB : 0 < B) (h : w * A = w' * B) : 0 < 1 * (B / Nat.gcd A B) ∧ (w * (A / Nat.gcd A B)) / Nat.gcd (w * (A / Nat.gcd A B)) (1 * (B / Nat.gcd A B)) = w' ∧ (1 * (B / Nat.gcd A B)) / Nat.gcd (w * (A / Nat.gcd A B)) (1 * (B / Nat.gcd A B)) = 1 := by
  have hg : 0 < Nat.gcd A B := Nat.gcd_pos_of_pos_right A hB
  have h1 : A / Nat.gcd A B * Nat.gcd A B = A := Nat.div_mul_cancel (Nat.gcd_dvd_left A B)
  have h2 : B / Nat.gcd A B * Nat.gcd A B = B := Nat.div_mul_cancel (Nat.gcd_dvd_right A B)
  generalize Nat.gcd A B = g at hg h1 h2 ⊢
  generalize A / g = a at h1 ⊢
  generalize B / g = b at h2 ⊢
  have hb : 0 < b := by
    rcases Nat.eq_zero_or_pos b with q | q
    · rw [q, Nat.zero_mul] at h2; omega
    · exact q
  have e : w * a = w' * b := by
    rw [← h1, ← h2, ← Nat.mul_assoc, ← Nat.mul_assoc] at h
    exact Nat.eq_of_mul_eq_mul_right hg h
  rw [Nat.one_mul, e]
  have eg : Nat.gcd (w' * b) b = b := by rw [Nat.mul_comm]; exact Nat.gcd_mul_right_left ..
  rw [eg]
  exact ⟨hb, Nat.mul_div_cancel _ hb, Nat.div_self hb⟩
set_option maxHeartbeats 8000000 in
theorem x7 {P : Int} {g : Nat} {bs : List Nat} (hg : g < 256) (hbs : ∀ b ∈ bs, b < 256) :
    ∃ v H', xfunc (xcallK KT F 3000 0) 3000 L7 [.agg (cordA P g bs)] ⟨.e, 0⟩ = some (v, H') ∧ v = .bool true := by
  refine xfunc_ofK rfl (by show 1 ≤ 76; omega) ?_
  have hF := HF.start ⟨.e, 0⟩
  generalize (⟨.e, 0⟩ : AHeap) = H at hF ⊢
  unfold L7
  dsimp only
  repeat' (first | refine WK.seq ?_ | (apply WK.reg; (· exact lnn)) | (apply WKO.boxO; (· rfl); (· assumption); (· rfl); (· exact nxx); (· exact nxx); (· exact nxx); intro _ _ _) | refine WKO.nil ?_ | ((first | apply WKO.op); (· first | exact k_mv rfl | exact k_faddr rfl); (· rfl)) | refine pN ?_ | fail)
  rename_i H1 hF1 hn1
  refine WKO.stO0 (m := 1) rfl rfl hF1 rfl nxx (.inr nxx) rfl rfl (Nat.le_of_ble_eq_true rfl) ?_
  intro H2 hF2 hn2
  repeat' (first | ((first | apply WKO.op); (· first | exact k_faddr rfl); (· rfl)) | fail)
  refine WKO.stO0 (m := 1) rfl rfl hF2 rfl nxx (.inr nxx) rfl rfl (Nat.le_of_ble_eq_true rfl) ?_
  intro H3 hF3 hn3
  have hF4 : HF H [] _ [(H.next, .cells (cordA 1023 0 bs) none)] H3 := hF3
  clear hF hF1 hF2 hF3
  repeat' (first | refine WK.seq ?_ | (apply WK.reg; (· exact lnn)) | refine WKO.nil ?_ | ((first | apply WKO.op); (· first | (apply k_ldA; (· rfl); (· assumption); (· rfl); (· exact mmb); (· first | rfl))); (· rfl)) | refine pN ?_ | fail)
  refine WKO.callV rfl rfl rfl (show ∃ v H', xcallK KT F 3000 0 24 [.agg (cordA 1023 0 bs), nA 40] (H3.bump 9) = some (v, H') ∧ ∃ (s : List UInt8) (l : List (Int × Int)), v = .tup [.str s, pairsI l, .int .i64 0] ∧ H' = (H3.bump 9) ∧ readE s l 0 = 0 ∧ ∀ a b : Nat, a < 4 → b ≤ a → ((a : Int), (b : Int)) ∈ l from by
    obtain ⟨s, l, gap, q1, q2, q3, q4, q5, q6⟩ := KR_15 (P := 1023) (g := 0) (by decide) hbs (m := 40) (by omega) (H3.bump 9)
    have e : gap = 0 := q6
    subst e
    exact ⟨_, _, cfhit (KT_R (KH_none (by decide) (by decide)) q1), s, l, rfl, rfl, q2, q5 rfl⟩) ?_
  rintro v2 H2 ⟨s, l, rfl, rfl, hE, hall⟩
  have hz := motzkin hE hall
  have hs40 := (readE_zero hE).1
  have hT4 := hF4.le
  have hB4 := hF4.base
  have hwl := wL_len s.length
  have c1 : ∀ {H' : AHeap} {k : Nat}, xcallK KT F 3000 k 31 [.str s, pairsI l, .int .i64 0] H' = some (.tup [strI (wL s.length), .int .i64 0], H') := fun {H' k} => cfhit (KT_R (KH_none (by decide) (by decide)) (by rw [← hz]; exact KR_19 s H' hE))
  have c9 : ∀ {H' : AHeap} {k : Nat}, xcallK KT F 3000 k 16 [] H' = some (.bool true, H') := fun {H' k} => cfhit KT_lives
  have c6 : ∀ {H' : AHeap} {k : Nat}, xcallK KT F 3000 k 32 [nA 1] H' = some (qN 1, H') := fun {H' k} => cfhit (KT_F (E32 (by decide) H'))
  have hw : ∀ k, k ≤ s.length / 2 → wN s.length k < bigN := fun k hk => by
    have hgo := goodW_at hs40
    unfold goodW at hgo
    rw [Bool.and_eq_true, Bool.and_eq_true] at hgo
    have := of_decide_eq_true (List.all_eq_true.1 hgo.1.2 (wN s.length k) (List.mem_map.2 ⟨k, List.mem_range.2 (by omega), rfl⟩))
    rw [bigN_def]
    exact Nat.lt_trans this (by show 2 ^ 128 < 4294967296 ^ 20; decide)
  generalize hn : s.length = n at *
  repeat' (first | refine WK.seq ?_ | refine WK.skip ?_ | refine WK.block ?_ | (apply WK.reg; (· exact lnn)) | (apply WKO.alO; (· assumption); (· rfl); (· exact nxx); (· exact nxx); (· exact nxx); intro _ _ _) | (apply WKO.stO0; (· rfl); (· rfl); (· assumption); (· rfl); (· exact nxx); (· first | exact .inr nxx); (· rfl); (· rfl); (· first | decide); intro _ _ _) | refine WKO.nil ?_ | ((first | apply WKO.op | ((first | apply WKO.gop); (· rfl); (· exact dcd))); (· first | exact k_mv rfl | (apply k_call; (· rfl); (· rfl); (· first | exact c1 | exact c6 | exact c9)) | exact k_lenSI rfl | exact k_slen rfl | exact opA); (· rfl)) | refine pN ?_ | (apply WK.condF; (· rfl); (· exact dcd)) | fail)
  rename_i Ha hFa hna Hb hFb hnb
  have hpp : H.next ≤ (((H3.bump 9).bump 9).bump 15).next + 1 := by simp only [next_bump]; omega
  generalize (((H3.bump 9).bump 9).bump 15).next + 1 = p at hFa hFb hpp ⊢
  have hFc : HF H [] _ [(p, .cells [.bool false, rowZ (dz (wN n 0)), .bool false, rowZ (dz 1)] none), (H.next, .cells (cordA 1023 0 bs) none)] Hb := hFb
  clear hFa hFb hF4
  refine WK.loop (α := Nat) (fun k => [(3, .str s), (6, strI (wL n)), (8, .ptr p 0), (9, nA k)])
    (fun k H' => (∃ T, HF H [] T [(p, .cells [.bool false, rowZ (dz (wN n k)), .bool false, rowZ (dz 1)] none), (H.next, .cells (cordA 1023 0 bs) none)] H') ∧ k ≤ (wL n).length) (fun k => (wL n).length - k) 0 (.cons rfl <| .cons rfl <| .cons rfl <| .cons rfl <| .nil _) ⟨⟨_, hFc.up rfl (by simp only [next_bump]; omega)⟩, Nat.zero_le _⟩ (by show (wL n).length - 0 < 3000; omega) ?_
  rintro k H5 ⟨⟨T5, hF5⟩, hk⟩
  have hb5 := hF5.base
  have hl5 := hF5.le
  have hp5 := hF5.nd
  simp only [List.map_cons, List.map_nil, List.nodup_cons, List.mem_cons, List.not_mem_nil, or_false, not_or, not_false_iff, List.nodup_nil, and_true] at hp5
  clear hFc
  by_cases hkl : k < (wL n).length
  · have hk2 : k ≤ n / 2 := by omega
    have hwk := hw k hk2
    have hget := wL_get hk2
    have hst := wN_step hs40 hk2
    have hB0 : 0 < (k + 1) * (k + 2) := Nat.mul_pos (by omega) (by omega)
    have hBl : (k + 1) * (k + 2) ≤ 50 * 50 := Nat.mul_le_mul (by omega) (by omega)
    have hAl : (n - 2 * k) * (n - 2 * k - 1) ≤ 50 * 50 := Nat.mul_le_mul (by omega) (by omega)
    obtain ⟨i1, i2, i3⟩ := low_int hB0 hst
    have hal : (n - 2 * k) * (n - 2 * k - 1) / Nat.gcd ((n - 2 * k) * (n - 2 * k - 1)) ((k + 1) * (k + 2)) ≤ 2500 := Nat.le_trans (Nat.div_le_self _ _) hAl
    have hbl : (k + 1) * (k + 2) / Nat.gcd ((n - 2 * k) * (n - 2 * k - 1)) ((k + 1) * (k + 2)) ≤ 2500 := Nat.le_trans (Nat.div_le_self _ _) hBl
    have d1 : ∀ {H' : AHeap} {j : Nat}, xcallK KT F 3000 j 33 [qN (wN n k)] H' = some (qN (wN n k), H') := fun {H' j} => cfhit (KT_F (E33q (by have := dz_big hwk; omega) H'))
    have d2 : ∀ {H' : AHeap} {j : Nat}, xcallK KT F 3000 j 21 [.str (decS ((wL n).getD k 0)), qN (wN n k)] H' = some (.bool true, H') := fun {H' j} => by
      have := E21 (decS ((wL n).getD k 0)) (n := wN n k) (by have := dz_big hwk; omega) (by have := decL_big hwk; omega) H'
      rw [decide_eq_true (by rw [hget])] at this
      exact cfhit (KT_F this)
    have d3 : ∀ {H' : AHeap} {j : Nat}, xcallK KT F 3000 j 34 [nA ((n - 2 * k) * (n - 2 * k - 1)), nA ((k + 1) * (k + 2))] H' = _ := fun {H' j} => cfhit (KT_F (E34 (by omega) (by omega) hB0 H'))
    generalize hA : (n - 2 * k) * (n - 2 * k - 1) = A at *
    generalize hB : (k + 1) * (k + 2) = B at *
    have dzl : ∀ {q : Nat}, q ≤ 2500 → (dz q).length < 3 := fun {q} hq => by have := dz_len 2 q (by show q < 10000 ^ 2; omega); omega
    have l1 := dzl hal
    have l2 := dzl hbl
    generalize A / Nat.gcd A B = a at *
    generalize B / Nat.gcd A B = b at *
    have d4 : ∀ {H' : AHeap} {j : Nat}, xcallK KT F 3000 j 30 [qN (wN n k), fN a b] H' = some (fN (wN n k * a) (1 * b), H') := fun {H' j} => cfhit (KT_F (E30f (by have := dz_big hwk; omega) (by rw [dz_one]; decide) (by omega) (by omega) H'))
    have hla : (dz (wN n k * a)).length < 200 := by
      have h1 := valZ_lt (digZ_dz (wN n k))
      have h2 := valZ_lt (digZ_dz a)
      rw [valZ_dz] at h1 h2
      have := dz_len ((dz (wN n k)).length + (dz a).length) (wN n k * a) (by
        rw [Nat.pow_add]
        exact Nat.mul_lt_mul_of_lt_of_le h1 (Nat.le_of_lt h2) (Nat.pow_pos (by decide)))
      have := dz_big hwk
      omega
    have d5 : ∀ {H' : AHeap} {j : Nat}, xcallK KT F 3000 j 33 [fN (wN n k * a) (1 * b)] H' = some (qN (wN n (k + 1)), H') := fun {H' j} => by
      have := E33 (m := wN n k * a) (n := 1 * b) hla (by rw [Nat.one_mul]; omega) i1 H'
      rw [i2, i3] at this
      exact cfhit (KT_F this)
    repeat' (first | refine WK.seq ?_ | refine WK.skip ?_ | refine WK.block ?_ | (apply WK.reg; (· exact lnn)) | (apply WK.regC; (· rfl); (· exact lnn); (· decide)) | refine WKC.nil ?_ | refine WKO.nil ?_ | ((first | apply WKC.op | apply WKO.op); (· first | exact k_mv rfl | exact k_lenSI rfl | exact k_iaM rfl rfl (by omega) | exact k_ldP rfl (strC_at (by omega)) | (apply k_call; (· rfl); (· rfl); (· first | exact d1 | exact d2)) | (apply k_ldA; (· rfl); (· assumption); (· rfl); (· exact mmb); (· first | rfl)) | exact opA); (· rfl)) | refine pN ?_ | (apply WK.condT; (· rfl); (· exact dcd)) | (apply WK.condF; (· rfl); (· exact dcd)) | fail)
    refine WK.regC1 21 rfl rfl rfl ?_
    dsimp only [List.take_succ_cons, List.take_zero]
    have hsl : ∀ {q : Nat} {Hq : AHeap} {K : KL0} {x : XO}, evK K x = some (.str s) → XV (xcallK KT F 3000 0) K Hq q (.slen x) = some (nA n, Hq) := fun {q Hq K x} hx => by
      have := k_slen (cf := xcallK KT F 3000 0) (n := q) (H := Hq) hx
      rwa [hn] at this
    have hmA : ∀ {q : Nat} {Hq : AHeap} {K : KL0} {x y : XO}, evK K x = some (nA (n - 2 * k)) → evK K y = some (zA (((n - 2 * k : Nat) : Int) - 1)) → XV (xcallK KT F 3000 0) K Hq q (.bin .mul x y) = some (nA A, Hq) := fun {q Hq K x y} hx hy => by
      rw [← hA]
      exact k_mulM hx hy (by omega)
    have hmB : ∀ {q : Nat} {Hq : AHeap} {K : KL0} {x y : XO}, evK K x = some (nA (k + 1)) → evK K y = some (nA (k + 2)) → XV (xcallK KT F 3000 0) K Hq q (.bin .mul x y) = some (nA B, Hq) := fun {q Hq K x y} hx hy => by
      rw [← hB]
      exact k_mulN hx hy (by rw [hB]; omega)
    repeat' (first | (apply WK.reg; (· exact lnn)) | (apply WKO.stO0; (· rfl); (· rfl); (· assumption); (· rfl); (· exact nxx); (· first | exact .inr nxx); (· rfl); (· rfl); (· first | (simp; done)); intro _ _ _) | refine WKC.nil ?_ | refine WKO.nil ?_ | ((first | apply WKC.op | apply WKO.op); (· first | exact k_mv rfl | exact hsl rfl | exact hmA rfl rfl | exact hmB rfl rfl | exact k_mul2 rfl (by omega) | exact k_add2 rfl (by omega) | exact k_subN rfl rfl (by omega) (by omega) | exact k_subM rfl (by omega) | (apply k_call; (· rfl); (· rfl); (· first | exact d3 | exact d4 | exact d5)) | (apply k_ldA; (· rfl); (· assumption); (· rfl); (· exact mmb); (· first | rfl)) | exact opA); (· rfl)) | refine pN ?_ | refine bN ?_ | fail)
    rename_i H6 hF6 hn6
    exact ⟨k + 1, (.cons rfl <| .cons rfl <| .cons rfl <| .cons rfl <| .nil _), ⟨⟨T5, hF6.up rfl (by simp only [next_bump]; omega)⟩, by omega⟩, by omega⟩
  · repeat' (first | refine WK.seq ?_ | refine WK.ret ?_ | refine WK.exit ?_ | (apply WK.reg; (· exact lnn)) | refine WKO.nil ?_ | ((first | apply WKO.op); (· first | exact k_mv rfl | exact k_lenSI rfl | exact opA); (· rfl)) | refine pN ?_ | refine pX ?_ | refine bX ?_ | (apply WK.condF; (· rfl); (· exact dcd)) | fail)
    exact ⟨fun id q => (by cases q), _, rfl, rfl⟩
end Go.Proofs.YtfcgofffalmdfaaGreatDoor.PA
namespace Go.Proofs.YtfcgofffalmdfaaGreatDoor.ropeMotzkin
open Go Go.ChangeShapes Go.WideShapes Go.ChangeAt Go.RowKit Go.Deep Go.Joins Go.Eng
theorem own : ownKnob Tryz.prog.godebug = none := by kernel_rfl
theorem laidOut : laidOutB Tryz.prog = true := by kernel_rfl
theorem call (w : World) {P : Int} {g : Nat} {bs : List Nat} (hg : g < 256) (hbs : ∀ b ∈ bs, b < 256) {v0 : Value} (h0 : AVRel (E0 w) w (.agg (PA.cordA P g bs)) v0) :
    Calls Tryz.prog 7 #[v0] w fun e w' => e = .returned (.bool true) ∧ Below w.heap.size w w' := by
  obtain ⟨v, H', q1, rfl⟩ := PA.x7 (P := P) hg hbs
  have h3 := (xfunc_sound PA.mixed (xcallK_sound PA.mixed PA.KT_ok PA.F_ok 3000 0) 3000 (PA.F_ok 7 PA.L7 rfl) q1).2 (E0 w) w [v0] (rel0 w) (by
    simp only [AVRelL]
    exact ⟨_, _, rfl, h0, rfl⟩)
  refine h3.mono fun e w' ⟨u, E', he, hs, hr⟩ => ?_
  simp only [AVRel] at hr
  subst hr
  exact ⟨he, below0 hs⟩
set_option maxRecDepth 100000 in
theorem lifted (os : Os) (started : os.Started) (H : Type) (enc : TypeId × Value → H) :
    ReturnsInHanded {} Tryz.checked os 7 .any (fun w args => (Rows.ropeMotzkinSpec.pre enc Tryz.prog Tryz.f7 Rows.ropeMotzkinRow.domain false w args ∧ laidMetH Tryz.prog Rows.ropeMotzkinRow.laid w) ∧ sizedMet enc Tryz.prog Tryz.f7 (OpenSpec.ofChange Rows.ropeMotzkinSpec) false w args)
      (Rows.ropeMotzkinSpec.post enc Tryz.prog Tryz.f7 false true false false) := by
  refine returnsInHanded_of_change_and (C := Tryz.checked) (X := fun w _ => laidMetH Tryz.prog Rows.ropeMotzkinRow.laid w) (fun _ _ _ hh h => h.of_heap hh) own started (by kernel_rfl) Tryz.func7
    (ChangeSpec.witness_shaped (enc := enc) (C := Tryz.checked) (os := os) (X := fun w _ => laidMetH Tryz.prog Rows.ropeMotzkinRow.laid w) false (World.laidAll Tryz.prog os Rows.ropeMotzkinRow.laid) #[.agg #[.int .u16 0, .int .u8 0, .slice none 0 0]] 8 (World.laidAll_os _ _ _)
      (World.shaped_of_ZipB (by kernel_rfl) (by kernel_rfl)) (by kernel_rfl) (by kernel_rfl) (by kernel_rfl)
      (by rw [MakeChecks.laidMetH_plain _ _ _ (by kernel_rfl)]; exact laidMet_laidAll _ (by kernel_rfl) (by kernel_rfl))) ?_
  intro W base args ds gs before hval0 hW hcnd _ _ _
  have hval : ∀ (j : Nat) t v, Tryz.f7.params[j]? = some t → args[j]? = some v → Value.okWide Tryz.prog W .any base t v := hval0
  have hW' := hW
  obtain ⟨p, q, hA0, hV, rfl, hfz, hnd⟩ := hW
  have hA : DataW.TrodAll enc Tryz.prog W 0 (fun _ => true) true Tryz.f7.params.toList args.toList ds p := hA0
  rw [Tryz.params7] at hA hval
  obtain ⟨v0, vs0, d0, ds0, p0, q0, hargs, rfl, rfl, h0, r0⟩ := trodAll_cons hA
  obtain ⟨rfl, rfl, rfl⟩ := trodAll_nil r0
  obtain rfl : args = #[v0] := by cases args; simp_all
  obtain ⟨rfl, rfl⟩ := trodVars_none hV
  have k0 := h0
  have lt0 : ∀ x ∈ p0, x.block < W.heap.size := by obtain ⟨m, hm⟩ := k0; exact DataW.trod_lt m _ _ _ hm
  obtain ⟨c0, c1, c2, y0, y1, y2, n, rfl, hd0, hp0, t0, t1, t2⟩ := open_agg3 Tryz.underlying54 (by kernel_rfl) (by kernel_rfl) (hval 0 54 v0 rfl rfl) h0
  obtain ⟨z0, e0, _⟩ := DataW.trod_int Tryz.underlying51 t0
  obtain ⟨z1, e1, _, w1⟩ := DataW.trod_int Tryz.underlying5 t1
  simp only [List.cons.injEq, and_true] at e0 e1
  subst e0 e1
  obtain ⟨g, rfl, hg⟩ := PA.u8_nat w1
  obtain ⟨a2, l2, cc2, hs2⟩ := slice_form Tryz.underlying52 t2
  simp only [List.cons.injEq, and_true] at hs2
  obtain ⟨bs, hbs, r2⟩ := PA.read_bytes (v := c2) Tryz.underlying52 Tryz.underlying5 (by kernel_rfl) hs2 ⟨n, by subst hs2; exact t2⟩
  clear hA0 hval0
  refine (call W hg hbs (by
    unfold PA.cordA PA.bA
    simp only [AVRel, AVRelL]
    exact ⟨_, rfl, _, _, rfl, rfl, _, _, rfl, rfl, _, _, rfl, r2, rfl⟩)).mono fun e W' ⟨he, bel⟩ => ?_
  subst he
  exact ⟨_, rfl, _, _, _, [], _, [], hW', trodAll_mk1 (shut_bool Tryz.underlying4 _), (trodAll_cons_mk (Below.trod laidOut (by kernel_rfl) (of_decide_eq_true (by kernel_rfl)) k0 bel lt0) trodAll_mk0), rfl, bel.frame _, fun h => by cases h⟩
theorem over : Rows.RopeMotzkinSaid :=
  OpenClaim.holds_of_wide 7 Tryz.f7 rfl rfl rfl rfl rfl rfl rfl ⟨rfl, rfl, rfl, rfl, rfl⟩ rfl rfl rfl rfl rfl (by kernel_rfl) Tryz.func7 (by kernel_rfl)
    (of_decide_eq_true (by kernel_rfl)) (by unfold Func.isWrapper; first | (rw [if_pos (by decide +kernel)]; kernel_rfl) | (rw [if_neg (by decide +kernel)]; exact ⟨rfl, rfl⟩))
    (fun os started H enc _ => lifted os started H enc)
end Go.Proofs.YtfcgofffalmdfaaGreatDoor.ropeMotzkin
namespace Go.Proofs.YtfcgofffalmdfaaGreatDoor
open Go
theorem ropeMotzkin_card : Rows.RopeMotzkinCardSaid :=
  Claim7.holds_tied_plain_at .later [] [.data, .pinned] true (true, "5e7abd25e6fdffa6dc8dfc12cd5002f17c6143cad05b03ef55e8e1654f75baf7") false ropeMotzkin.over (fun _ h => by cases h) (by kernel_rfl) (fun _ h => by cases h) ropeMotzkin_row_tie rfl ⟨rfl, rfl⟩ (by kernel_rfl) rfl
    (fun f fn hf hfn => by
      obtain rfl : f = 7 := Option.some.inj ((show Tryz.prog.funcNamed "woggle/wogglelaw03.RopeMotzkin" = some 7 by kernel_rfl).symm.trans hf) |>.symm
      obtain rfl : fn = Tryz.f7 := (Option.some.inj (Tryz.func7.symm.trans hfn)).symm
      exact ⟨by kernel_rfl, fun j t ht => by
        rw [Tryz.params7] at ht
        have hm : t ∈ [54] := by simpa using Array.mem_of_getElem? ht
        have hall : ([54].all fun u => !Tryz.prog.wantsStandIn u) = true := by kernel_rfl
        exact (show Tryz.prog.wantsStandIn t = false by simpa using List.all_eq_true.1 hall t hm)⟩)
    (by kernel_rfl)
#print axioms ropeMotzkin_card
end Go.Proofs.YtfcgofffalmdfaaGreatDoor
namespace Go.Proofs.YtfcgofffalmdfaaGreatDoor
open Go
theorem y_two : Rows.RopeSizesCardSaid ∧ Rows.RopeMotzkinCardSaid := ⟨ropeSizes_card, ropeMotzkin_card⟩
end Go.Proofs.YtfcgofffalmdfaaGreatDoor
