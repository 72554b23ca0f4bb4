/- RopeRules and RopeJoined: with a further pair of letters, or a smaller gap, Most and All are never less; Most and All of two ropes written one after the other are at least the sum and the product of both. No condition. -/
import Derived.Test.YtfcgofffalmdfaaGreatDoorJF
import Derived.Test.YtfcgofffalmdfaaGreatDoorJC
import Derived.ProofKit
import Derived.OpenShut
import Derived.Deep.Slices
import Derived.Deep.SlicePairs
import Derived.Deep.Fields
import Derived.Test.YtfcgofffalmdfaaGreatDoorRows
import Derived.Test.YtfcgofffalmdfaaGreatDoorCards
import Derived.Test.YtfcgofffalmdfaaGreatDoorTie
import Derived.LaidMore
import Derived.Lay
import Derived.SevenTiedAt
import Derived.Stop.Joined
import Derived.SizedLaws
import Derived.Carry
import Derived.Lib.SmallJoins
import Derived.ChangeSame
set_option linter.unusedSectionVars false
set_option linter.unusedVariables false
set_option linter.unusedSimpArgs false
namespace Go.Proofs.YtfcgofffalmdfaaGreatDoor.PA
open Go Go.Eng Go.Proofs
theorem lean_call {d : List Nat} (hd : digZ d) (hl : d.length < 2000) (H : AHeap) : CallOK Tryz.prog 83 [.agg [.bool false, rowZ d]] H (zN (valZ d)) H := by
  obtain ⟨v, H', h, u, rfl, hR, _⟩ := lean_ok (cf := xcallK Kno F 3000 0) (fuel := 3000) (H := ⟨.e, 0⟩) (X := rowZ d) (.inl rfl) hd (by omega) (by omega)
  have h2 := xcallK_sound mixed Kno_ok F_ok 3000 1 83 _ _ _ _ ((cfstep rfl rfl).trans h)
  refine h2.pure (by simp only [AV.frozL, AV.froz, rowZ_froz, Bool.and_self]) (.agg rfl (fun j x y hx hy => ?_))
  match j, hx, hy with
  | 0, hx, hy => cases hx; cases hy; exact .bool _
  | 1, hx, hy => cases hx; cases hy; exact rowZ_fz hR (fun i _ => get_e0 i)
section
variable {cf : CF} {n a b : Nat} {z : Int} {H : AHeap} {l : KL0} {x y : XO}
theorem k_subI (hx : evK l x = some (nA a)) (hy : evK l y = some (nA b)) (ha : a < 1000000000) (hb : b < 1000000000) : XV cf l H n (.bin .sub x y) = some (zA ((a : Int) - (b : Int)), H) :=
  k_bin hx hy (by
    show some (AV.int .i64 (wrapA .i64 ((a : Int) - (b : Int)))) = _
    rw [wrapI _ (by omega) (by omega)]
    rfl)
theorem k_subJ (hx : evK l x = some (zA z)) (hy : evK l y = some (nA b)) (hz : -1000000000 < z ∧ z < 1000000000) (hb : b < 1000000000) : XV cf l H n (.bin .sub x y) = some (zA (z - (b : Int)), H) :=
  k_bin hx hy (by
    show some (AV.int .i64 (wrapA .i64 (z - (b : Int)))) = _
    rw [wrapI _ (by omega) (by omega)]
    rfl)
theorem k_lssI (hx : evK l x = some (zA z)) (hy : evK l y = some (nA b)) : XV cf l H n (.bin .lss x y) = some (.bool (decide (z < (b : Int))), H) := k_bin hx hy rfl
theorem k_addI (hx : evK l x = some (zA z)) (h : z < 0) (h2 : -10001 < z) : XV cf l H n (.bin .add x (.k (.int .i64 (.ofNat 10000)))) = some (nA (z + 10000).toNat, H) :=
  k_bin hx rfl (by
    show some (AV.int .i64 (wrapA .i64 (z + ((10000 : Nat) : Int)))) = _
    rw [wrapI _ (by omega) (by omega)]
    unfold nA
    congr 2
    omega)
end
set_option maxHeartbeats 4000000 in
theorem plusZ_ok {cf : CF} {fuel : Nat} {H : AHeap} {a b : List Nat} (ha : digZ a) (hb : digZ b) (hla : a.length < 1000) (hlb : b.length < 1000) (hf : 1100 < fuel) :
    ∃ v H', xfunc cf fuel L103 [rowZ a, rowZ b] H = some (v, H') ∧ ∃ o, RowE 1 H' v o.length (o.map nA) ∧ digZ o ∧ valZ o = valZ a + valZ b ∧ o.length < 2000 := by
  refine xfunc_ofK rfl (by show 2 ≤ 55; omega) ?_
  unfold L103
  dsimp only
  repeat' (first | refine WK.seq ?_ | (apply WK.reg; (· exact lnn)) | refine WKO.nil ?_ | ((first | apply WKO.op); (· first | exact k_mv rfl); (· rfl)) | refine pN ?_ | fail)
  refine WKO.bsZ (z' := 1) nxx ?_
  intro H1 hR1 hn1 _
  repeat' (first | refine WK.seq ?_ | refine WK.block ?_ | (apply WK.reg; (· exact lnn)) | refine WKO.nil ?_ | ((first | apply WKO.op); (· first | exact k_mv rfl); (· rfl)) | refine pN ?_ | fail)
  refine WK.loop (α := Nat × Nat × List Nat × AV) (fun s => [(0, rowZ a), (1, rowZ b), (5, s.2.2.2), (6, nA s.2.1), (7, nA s.1)]) (fun s H' => RowE 1 H' s.2.2.2 s.1 (s.2.2.1.map nA) ∧ AddZ a b s.1 s.2.1 s.2.2.1) (fun s => max a.length b.length + 1 - s.1) (0, 0, [], .sl (H.bump 1).next 0 0 0) ?_ ⟨hR1.frame (by simp only [next_bump]; omega) (fun _ _ => rfl), AddZ.zero a b⟩ (by show max a.length b.length + 1 - 0 < fuel; omega) ?_
  · exact .cons rfl <| .cons rfl <| .cons rfl <| .cons rfl <| .cons rfl <| .nil _
  · rintro ⟨i, c, o, u⟩ H3 ⟨hR, hA⟩
    simp only at hR hA ⊢
    have h1 := digZ_get ha i
    have h2 := digZ_get hb i
    have hB : BZ = 10000 := rfl
    rw [hB] at h1 h2
    have hm := hA.m
    have hc := hA.c1
    have he := hA.e
    repeat' (first | refine WK.seq ?_ | refine WK.skip ?_ | refine WK.exit ?_ | refine WK.block ?_ | (apply WK.reg; (· exact lnn)) | refine WKO.nil ?_ | ((first | apply WKO.op | ((first | apply WKO.gop); (· rfl); (· exact dcd))); (· first | exact k_mv rfl | exact k_lenZ rfl | exact k_iaZ rfl rfl (by omega) | exact k_ldZ rfl (by omega) | exact k_remN rfl rfl (by decide) | exact opA); (· rfl)) | ((first | apply WKO.gnoF); (· rfl); (· exact dcd)) | ((first | apply WKO.gsp); (· rfl); all_goals ((fail_if_success (refine known ?_ ?_; (· assumption))); intro _)) | refine pN ?_ | refine pX ?_ | refine bX ?_ | (apply WK.condT; (· rfl); (· exact dcd)) | (apply WK.condF; (· rfl); (· exact dcd)) | (apply WK.condD; (· rfl); all_goals intro _) | fail)
    rotate_left 4
    · refine ⟨fun _ => ?_, fun q => absurd rfl q⟩
      repeat' (first | refine WK.seq ?_ | refine WK.ret ?_ | (apply WK.reg; (· exact lnn)) | refine WKO.nil ?_ | ((first | apply WKO.op); (· first | exact k_mv rfl); (· rfl)) | refine pN ?_ | fail)
      exact ⟨fun id q => (by cases q), _, rfl, o, by rw [hA.l]; exact hR.frame (by simp only [next_bump]; omega) (fun _ _ => rfl), hA.d, hA.done (by assumption) (by assumption) (by omega), by rw [hA.l]; omega⟩
    all_goals
      refine WKO.ap1b (H := H3) (v := u) (m := i) (cs := o.map nA) hR (by decide) rfl (by simp only [next_bump]; omega) (by simp only [next_bump]; omega) (by omega) rfl rfl rfl rfl ?_
      intro u4 H4 hR4 hn4
      repeat' (first | (apply WK.reg; (· exact lnn)) | refine WKO.nil ?_ | ((first | apply WKO.op); (· first | exact k_mv rfl | exact k_quoN rfl rfl (by decide) (by omega) | exact opA); (· rfl)) | refine pN ?_ | refine bN ?_ | fail)
      refine ⟨(i + 1, _, o ++ [_], u4), (.cons rfl <| .cons rfl <| .cons rfl <| .cons rfl <| .cons rfl <| .nil _), ⟨by simpa using hR4.frame (H' := (H4.bump 3)) (by simp only [next_bump]; omega) (fun _ _ => rfl), hA.next ha hb (by omega) (by first | rfl | (have q1 := getZ_none (l := a) (i := i) (by assumption); have q2 := getZ_none (l := b) (i := i) (by assumption); omega) | (have q1 := getZ_none (l := a) (i := i) (by assumption); omega) | (have q2 := getZ_none (l := b) (i := i) (by assumption); omega))⟩, by show max a.length b.length + 1 - (i + 1) < max a.length b.length + 1 - i; omega⟩
set_option maxHeartbeats 4000000 in
theorem lessZ_ok {cf : CF} {fuel : Nat} {H : AHeap} {a b : List Nat} (ha : digZ a) (hb : digZ b) (hla : a.length < 1000) (hlb : b.length ≤ a.length) (hv : valZ b ≤ valZ a) (hf : 1100 < fuel) :
    ∃ v H', xfunc cf fuel L85 [rowZ a, rowZ b] H = some (v, H') ∧ ∃ o, RowE 1 H' v o.length (o.map nA) ∧ digZ o ∧ valZ o = valZ a - valZ b ∧ o.length < 2000 := by
  refine xfunc_ofK rfl (by show 2 ≤ 41; omega) ?_
  unfold L85
  dsimp only
  repeat' (first | refine WK.seq ?_ | (apply WK.reg; (· exact lnn)) | refine WKO.nil ?_ | ((first | apply WKO.op); (· first | exact k_mv rfl); (· rfl)) | refine pN ?_ | fail)
  refine WKO.bsZ (z' := 1) nxx ?_
  intro H1 hR1 hn1 _
  repeat' (first | refine WK.seq ?_ | refine WK.block ?_ | (apply WK.reg; (· exact lnn)) | refine WKO.nil ?_ | ((first | apply WKO.op); (· first | exact k_mv rfl); (· rfl)) | refine pN ?_ | fail)
  refine WK.loop (α := Nat × Nat × List Nat × AV) (fun s => [(0, rowZ a), (1, rowZ b), (5, s.2.2.2), (6, nA s.2.1), (7, nA s.1)]) (fun s H' => RowE 1 H' s.2.2.2 s.1 (s.2.2.1.map nA) ∧ SubZ a b s.1 s.2.1 s.2.2.1 ∧ s.1 ≤ a.length) (fun s => a.length - s.1) (0, 0, [], .sl (H.bump 1).next 0 0 0) ?_ ⟨hR1.frame (by simp only [next_bump]; omega) (fun _ _ => rfl), SubZ.zero a b, Nat.zero_le _⟩ (by show a.length - 0 < fuel; omega) ?_
  · exact .cons rfl <| .cons rfl <| .cons rfl <| .cons rfl <| .cons rfl <| .nil _
  · rintro ⟨i, w, o, u⟩ H3 ⟨hR, hA, hi⟩
    simp only at hR hA hi ⊢
    have h1 := digZ_get ha i
    have h2 := digZ_get hb i
    have hB : BZ = 10000 := rfl
    rw [hB] at h1 h2
    have hw := hA.w1
    have fin : ∀ (H4 : AHeap) (u4 val : AV) (x w' : Nat), val = nA x → RowE 1 H4 u4 (i + 1) (o.map nA ++ [val]) → x < 10000 → w' ≤ 1 → a.getD i 0 + w' * 10000 = x + w + b.getD i 0 → RowE 1 H4 u4 (i + 1) ((o ++ [x]).map nA) ∧ SubZ a b (i + 1) w' (o ++ [x]) := fun H4 u4 val x w' e hr hx hw' hs => by
      subst e
      exact ⟨by simpa using hr, hA.next (by rw [hB]; exact hx) hw' (by rw [hB]; exact hs)⟩
    repeat' (first | refine WK.seq ?_ | refine WK.skip ?_ | refine WK.exit ?_ | refine WK.block ?_ | (apply WK.reg; (· exact lnn)) | refine WKO.nil ?_ | ((first | apply WKO.op); (· first | exact k_mv rfl | exact k_lenZ rfl | exact k_iaZ rfl rfl (by omega) | exact k_ldZ rfl (by omega) | exact k_subI rfl rfl (by omega) (by omega) | exact k_subJ rfl rfl (by omega) (by omega) | exact k_lssI rfl rfl | exact k_addI rfl (by omega) (by omega)); (· rfl)) | refine pN ?_ | refine pX ?_ | refine bX ?_ | (apply WK.condD; (· rfl); all_goals intro _) | fail)
    rotate_left 4
    · refine ⟨fun _ => ?_, fun q => absurd rfl q⟩
      repeat' (first | refine WK.seq ?_ | refine WK.ret ?_ | (apply WK.reg; (· exact lnn)) | refine WKO.nil ?_ | ((first | apply WKO.op); (· first | exact k_mv rfl); (· rfl)) | refine pN ?_ | fail)
      exact ⟨fun id q => (by cases q), _, rfl, o, by rw [hA.l]; exact hR.frame (by simp only [next_bump]; omega) (fun _ _ => rfl), hA.d, hA.done (by omega) hlb hv, by rw [hA.l]; omega⟩
    · refine WKO.ap1b (H := H3) (v := u) (m := i) (cs := o.map nA) hR (by decide) rfl (by simp only [next_bump]; omega) (by simp only [next_bump]; omega) (by omega) rfl rfl rfl rfl ?_
      intro u4 H4 hR4 hn4
      repeat' (first | (apply WK.reg; (· exact lnn)) | refine WKO.nil ?_ | ((first | apply WKO.op); (· first | exact k_mv rfl | exact opA); (· rfl)) | refine pN ?_ | refine bN ?_ | fail)
      obtain ⟨f1, f2⟩ := fin H4 u4 _ (((a.getD i 0 : Nat) : Int) - (w : Int) - ((b.getD i 0 : Nat) : Int) + 10000).toNat 1 rfl hR4 (by omega) (by omega) (by omega)
      exact ⟨(i + 1, 1, o ++ [_], u4), (.cons rfl <| .cons rfl <| .cons rfl <| .cons rfl <| .cons rfl <| .nil _), ⟨f1.frame (H' := H4.bump 3) (by simp only [next_bump]; omega) (fun _ _ => rfl), f2, by show i + 1 ≤ a.length; omega⟩, by show a.length - (i + 1) < a.length - i; omega⟩
    · refine WKO.ap1b (H := H3) (v := u) (m := i) (cs := o.map nA) hR (by decide) rfl (by simp only [next_bump]; omega) (by simp only [next_bump]; omega) (by omega) rfl rfl rfl rfl ?_
      intro u4 H4 hR4 hn4
      repeat' (first | (apply WK.reg; (· exact lnn)) | refine WKO.nil ?_ | ((first | apply WKO.op); (· first | exact k_mv rfl | exact opA); (· rfl)) | refine pN ?_ | refine bN ?_ | fail)
      obtain ⟨f1, f2⟩ := fin H4 u4 _ (((a.getD i 0 : Nat) : Int) - (w : Int) - ((b.getD i 0 : Nat) : Int)).toNat 0 (by unfold zA nA; congr 1; omega) hR4 (by omega) (by omega) (by omega)
      exact ⟨(i + 1, 0, o ++ [_], u4), (.cons rfl <| .cons rfl <| .cons rfl <| .cons rfl <| .cons rfl <| .nil _), ⟨f1.frame (H' := H4.bump 3) (by simp only [next_bump]; omega) (fun _ _ => rfl), f2, by show i + 1 ≤ a.length; omega⟩, by show a.length - (i + 1) < a.length - i; omega⟩
    · refine WKO.ap1b (H := H3) (v := u) (m := i) (cs := o.map nA) hR (by decide) rfl (by simp only [next_bump]; omega) (by simp only [next_bump]; omega) (by omega) rfl rfl rfl rfl ?_
      intro u4 H4 hR4 hn4
      repeat' (first | (apply WK.reg; (· exact lnn)) | refine WKO.nil ?_ | ((first | apply WKO.op); (· first | exact k_mv rfl | exact opA); (· rfl)) | refine pN ?_ | refine bN ?_ | fail)
      have qb := getZ_none (l := b) (i := i) (by omega)
      obtain ⟨f1, f2⟩ := fin H4 u4 _ (((a.getD i 0 : Nat) : Int) - (w : Int) + 10000).toNat 1 rfl hR4 (by omega) (by omega) (by omega)
      exact ⟨(i + 1, 1, o ++ [_], u4), (.cons rfl <| .cons rfl <| .cons rfl <| .cons rfl <| .cons rfl <| .nil _), ⟨f1.frame (H' := H4.bump 3) (by simp only [next_bump]; omega) (fun _ _ => rfl), f2, by show i + 1 ≤ a.length; omega⟩, by show a.length - (i + 1) < a.length - i; omega⟩
    · refine WKO.ap1b (H := H3) (v := u) (m := i) (cs := o.map nA) hR (by decide) rfl (by simp only [next_bump]; omega) (by simp only [next_bump]; omega) (by omega) rfl rfl rfl rfl ?_
      intro u4 H4 hR4 hn4
      repeat' (first | (apply WK.reg; (· exact lnn)) | refine WKO.nil ?_ | ((first | apply WKO.op); (· first | exact k_mv rfl | exact opA); (· rfl)) | refine pN ?_ | refine bN ?_ | fail)
      have qb := getZ_none (l := b) (i := i) (by omega)
      obtain ⟨f1, f2⟩ := fin H4 u4 _ (((a.getD i 0 : Nat) : Int) - (w : Int)).toNat 0 (by unfold zA nA; congr 1; omega) hR4 (by omega) (by omega) (by omega)
      exact ⟨(i + 1, 0, o ++ [_], u4), (.cons rfl <| .cons rfl <| .cons rfl <| .cons rfl <| .cons rfl <| .nil _), ⟨f1.frame (H' := H4.bump 3) (by simp only [next_bump]; omega) (fun _ _ => rfl), f2, by show i + 1 ≤ a.length; omega⟩, by show a.length - (i + 1) < a.length - i; omega⟩
end Go.Proofs.YtfcgofffalmdfaaGreatDoor.PA
namespace Go.Proofs.YtfcgofffalmdfaaGreatDoor.PA
open Go Go.Eng Go.Proofs
def cmpI (m n : Nat) : Int := if m < n then -1 else if m = n then 0 else 1
abbrev negZ (n : Nat) : AV := .agg [.bool (decide ((dz n).length > 0)), rowZ (dz n)]
abbrev qN (n : Nat) : AV := .agg [.bool false, rowZ (dz n), .bool false, rowZ (dz 1)]
abbrev fN (n d : Nat) : AV := .agg [.bool false, rowZ (dz n), .bool false, rowZ (dz d)]
def qC (l : List Nat) : List AV := (l.map fun n => [AV.bool false, rowZ (dz n), .bool false, rowZ (dz 1)]).flatten
def rowQ (l : List Nat) : AV := .imm (qC l) l.length false
def SZ (f : Nat) (args : List AV) (v : AV) : Prop := match f with
  | 83 => ∀ d, args = [.agg [.bool false, rowZ d]] → v = zN (valZ d)
  | 103 => ∀ a b, args = [rowZ a, rowZ b] → ∃ o, v = rowZ o ∧ digZ o ∧ valZ o = valZ a + valZ b ∧ o.length < 2000
  | 85 => ∀ a b, args = [rowZ a, rowZ b] → ∃ o, v = rowZ o ∧ digZ o ∧ valZ o = valZ a - valZ b ∧ o.length < 2000
  | 82 => ∀ m n, args = [rowZ (dz m), rowZ (dz n)] → v = zA (cmpI m n)
  | 108 => ∀ n, args = [zN n] → v = negZ n
  | 66 => (∀ m n, args = [zN m, zN n] → v = zN (m + n)) ∧ (∀ m n, 0 < n → args = [zN m, negZ n] → v = zN (m - n))
  | 86 => ∀ m n, args = [zN m, zN n] → v = zN (m - n)
  | 72 => ∀ m n, args = [zN m, zN n] → v = zN (m * n)
  | 52 => ∀ n, args = [nA n] → v = zN n
  | 109 => ∀ n, args = [zN n] → v = nA (min n 1)
  | 71 => ∀ m n, args = [zN m, zN n] → v = nA (min (m - n) 1)
  | 107 => ∀ n, args = [.str (decS n)] → v = .tup [zN n, .bool true]
  | 70 => ∀ n, args = [.str (decS n)] → v = .tup [qN n, .bool true]
  | 28 => ∀ m n, args = [qN m, qN n] → v = nA (min (m - n) 1)
  | 30 => ∀ m n p q, args = [fN m n, fN p q] → v = fN (m * p) (n * q)
  | 84 => ∀ m n, args = [rowZ (dz m), nA n] → v = rowZ (dz (m * n))
  | 45 => ∀ m n, args = [zN m, zN n] → v = .tup [zN (m / n), zN (m % n)]
  | 88 => ∀ n, args = [zN n] → v = zN n
  | 73 => ∀ m n, args = [zN m, zN n] → v = zN (Nat.gcd m n)
  | 33 => ∀ m n, args = [fN m n] → v = fN (m / Nat.gcd m n) (n / Nat.gcd m n)
  | 40 => ∀ m n, args = [qN m, qN n] → v = qN (m + n)
  | 32 => ∀ n, args = [nA n] → v = qN n
  | 22 => ∀ n, args = [zN n] → v = qN n
  | 74 => ∀ m n, args = [zN m, zN n] → v = fN m n
  | 34 => ∀ m n, args = [nA m, nA n] → v = fN (m / Nat.gcd m n) (n / Nat.gcd m n)
  | 87 => ∀ n, args = [zN n] → v = .str (decS n)
  | 46 => ∀ n, args = [qN n] → v = .tup [.str (decS n), .bool true]
  | 21 => ∀ s n, args = [.str s, qN n] → v = .bool (decide (s = decS n))
  | 39 => ∀ l, args = [strI l] → v = .int .i64 0
  | 38 => ∀ l m, args = [strI l, rowQ m] → v = .bool (decide (l = m))
  | 27 => ∀ n, args = [.str (decS n)] → v = .bool true
  | 29 => ∀ n, args = [.str (decS n)] → v = qN n
  | _ => False
open Classical in
noncomputable def KE : CF := fun f args H => if h : ∃ v, CallOK Tryz.prog f args H v H ∧ SZ f args v then some (h.choose, H) else none
theorem KE_ok : CFok Tryz.prog KE := by
  intro f args H v H' h
  unfold KE at h
  split at h
  · rename_i q
    cases h
    exact q.choose_spec.1
  · cases h
theorem KE_hit {f : Nat} {args : List AV} {H : AHeap} {v : AV} (h : CallOK Tryz.prog f args H v H) (hs : SZ f args v) : ∃ v', KE f args H = some (v', H) ∧ SZ f args v' := by
  have q : ∃ v, CallOK Tryz.prog f args H v H ∧ SZ f args v := ⟨v, h, hs⟩
  exact ⟨_, (by unfold KE; rw [dif_pos q]), q.choose_spec.2⟩
attribute [irreducible] KE
theorem zN_inj {m n : Nat} (h : zN m = zN n) : m = n := by
  simp only [zN, AV.agg.injEq, List.cons.injEq, true_and, and_true] at h
  exact dz_inj (rowZ_inj h)
theorem E83 {d : List Nat} (hd : digZ d) (hl : d.length < 2000) (H : AHeap) : KE 83 [.agg [.bool false, rowZ d]] H = some (zN (valZ d), H) := by
  obtain ⟨v, h1, h2⟩ := KE_hit (lean_call hd hl H) (fun d' e => by
    simp only [List.cons.injEq, AV.agg.injEq, true_and, and_true] at e
    rw [rowZ_inj e])
  rw [h1, h2 d rfl]
theorem frozZ2 (a b : List Nat) : AV.frozL [rowZ a, rowZ b] = true := by simp only [AV.frozL, rowZ_froz, Bool.and_self]
theorem E103 {a b : List Nat} (ha : digZ a) (hb : digZ b) (hla : a.length < 900) (hlb : b.length < 900) (H : AHeap) : ∃ o, KE 103 [rowZ a, rowZ b] H = some (rowZ o, H) ∧ digZ o ∧ valZ o = valZ a + valZ b ∧ o.length < 2000 := by
  obtain ⟨v, H', h, o, h1, h2, h3, h4⟩ := plusZ_ok (cf := xcallK Kno F 2000 0) (fuel := 2000) (H := ⟨.e, 0⟩) ha hb (by omega) (by omega) (by omega)
  have hc := (xcallK_sound mixed Kno_ok F_ok 2000 1 103 _ _ _ _ ((cfstep rfl rfl).trans h)).pure (H := H) (frozZ2 a b) (rowZ_fz h1 (fun i _ => get_e0 i))
  obtain ⟨v', q1, q2⟩ := KE_hit hc (fun a' b' e => by
    simp only [List.cons.injEq, and_true] at e
    rw [← rowZ_inj e.1, ← rowZ_inj e.2]
    exact ⟨o, rfl, h2, h3, h4⟩)
  obtain ⟨o', rfl, r1, r2, r3⟩ := q2 a b rfl
  exact ⟨o', q1, r1, r2, r3⟩
theorem E85 {a b : List Nat} (ha : digZ a) (hb : digZ b) (hla : a.length < 900) (hlb : b.length ≤ a.length) (hv : valZ b ≤ valZ a) (H : AHeap) : ∃ o, KE 85 [rowZ a, rowZ b] H = some (rowZ o, H) ∧ digZ o ∧ valZ o = valZ a - valZ b ∧ o.length < 2000 := by
  obtain ⟨v, H', h, o, h1, h2, h3, h4⟩ := lessZ_ok (cf := xcallK Kno F 2000 0) (fuel := 2000) (H := ⟨.e, 0⟩) ha hb (by omega) hlb hv (by omega)
  have hc := (xcallK_sound mixed Kno_ok F_ok 2000 1 85 _ _ _ _ ((cfstep rfl rfl).trans h)).pure (H := H) (frozZ2 a b) (rowZ_fz h1 (fun i _ => get_e0 i))
  obtain ⟨v', q1, q2⟩ := KE_hit hc (fun a' b' e => by
    simp only [List.cons.injEq, and_true] at e
    rw [← rowZ_inj e.1, ← rowZ_inj e.2]
    exact ⟨o, rfl, h2, h3, h4⟩)
  obtain ⟨o', rfl, r1, r2, r3⟩ := q2 a b rfl
  exact ⟨o', q1, r1, r2, r3⟩
end Go.Proofs.YtfcgofffalmdfaaGreatDoor.PA
namespace Go.Proofs.YtfcgofffalmdfaaGreatDoor.PA
open Go Go.Eng Go.Proofs
set_option maxHeartbeats 2000000 in
theorem sizesZ_ok {cf : CF} {fuel : Nat} {H : AHeap} {m n : Nat} (hm : (dz m).length < 1000) (hn : (dz n).length < 1000) (hf : 1100 < fuel) : ∃ v H', xfunc cf fuel L82 [rowZ (dz m), rowZ (dz n)] H = some (v, H') ∧ v = zA (cmpI m n) := by
  refine xfunc_ofK rfl (by show 2 ≤ 41; omega) ?_
  unfold L82
  dsimp only
  have hd1 := digZ_dz m
  have hd2 := digZ_dz n
  have hlt : (dz m).length < (dz n).length → cmpI m n = -1 := fun h => by unfold cmpI; rw [if_pos (dz_len_lt h)]
  have hgt : (dz n).length < (dz m).length → cmpI m n = 1 := fun h => by
    have := dz_len_lt h
    unfold cmpI
    rw [if_neg (by omega), if_neg (by omega)]
  repeat' (first | refine WK.seq ?_ | refine WK.skip ?_ | refine WK.ret ?_ | refine WK.block ?_ | (apply WK.reg; (· exact lnn)) | refine WKO.nil ?_ | ((first | apply WKO.op); (· first | exact k_mv rfl | exact k_lenZ rfl | exact k_subM rfl (by omega) | exact opA); (· rfl)) | refine pN ?_ | refine pR ?_ | (apply WK.condD; (· rfl); all_goals intro _) | fail)
  · exact ⟨fun id q => (by cases q), _, rfl, by rw [hlt (by omega)]; rfl⟩
  · exact ⟨fun id q => (by cases q), _, rfl, by rw [hgt (by omega)]; rfl⟩
  · have hl : (dz m).length = (dz n).length := by omega
    refine WK.loop (α := Nat) (fun i => [(0, rowZ (dz m)), (1, rowZ (dz n)), (5, zA ((i : Int) - 1))]) (fun i H' => i ≤ (dz m).length ∧ (dz m).drop i = (dz n).drop i) (fun i => i) (dz m).length (.cons rfl <| .cons rfl <| .cons rfl <| .nil _) ⟨Nat.le_refl _, by rw [List.drop_eq_nil_of_le (by omega), List.drop_eq_nil_of_le (by omega)]⟩ (by show (dz m).length < fuel; omega) ?_
    rintro i H3 ⟨hi, hdr⟩
    cases i with
    | zero =>
      repeat' (first | refine WK.seq ?_ | refine WK.ret ?_ | refine WK.exit ?_ | (apply WK.reg; (· exact lnn)) | refine WKO.nil ?_ | ((first | apply WKO.op); (· first | exact k_mv rfl | exact k_geqM rfl); (· rfl)) | refine pN ?_ | refine pX ?_ | refine bX ?_ | (apply WK.condF; (· rfl); (· exact dcd)) | fail)
      rw [List.drop_zero, List.drop_zero] at hdr
      exact ⟨fun id q => (by cases q), _, rfl, by rw [dz_inj hdr]; unfold cmpI; rw [if_neg (by omega), if_pos rfl]; rfl⟩
    | succ k =>
      rw [zA_nat]
      repeat' (first | refine WK.seq ?_ | refine WK.skip ?_ | refine WK.ret ?_ | refine WK.block ?_ | (apply WK.reg; (· exact lnn)) | (apply WK.regC; (· rfl); (· exact lnn); (· decide)) | refine WKC.nil ?_ | refine WKO.nil ?_ | ((first | apply WKC.op | apply WKO.op); (· first | exact k_mv rfl | exact k_geqT rfl | exact k_iaZ rfl rfl (by omega) | exact k_ldZ rfl (by omega) | exact k_subM rfl (by omega) | exact opA); (· rfl)) | refine pN ?_ | refine pR ?_ | refine bN ?_ | refine bR ?_ | (apply WK.condT; (· rfl); (· exact dcd)) | (apply WK.condD; (· rfl); all_goals intro _) | fail)
      · have := cmpZ_lt hd1 (by omega) hl hdr (by assumption)
        rw [valZ_dz, valZ_dz] at this
        exact ⟨fun id q => (by cases q), _, rfl, by unfold cmpI; rw [if_pos this]; rfl⟩
      · have := cmpZ_lt hd2 (by omega) hl.symm hdr.symm (by assumption)
        rw [valZ_dz, valZ_dz] at this
        exact ⟨fun id q => (by cases q), _, rfl, by unfold cmpI; rw [if_neg (by omega), if_neg (by omega)]; rfl⟩
      · exact ⟨k, (.cons rfl <| .cons rfl <| .cons rfl <| .nil _), ⟨by omega, drop_eq_of (by omega) hl hdr (by omega)⟩, by omega⟩
theorem E82 {m n : Nat} (hm : (dz m).length < 900) (hn : (dz n).length < 900) (H : AHeap) : KE 82 [rowZ (dz m), rowZ (dz n)] H = some (zA (cmpI m n), H) := by
  obtain ⟨v, H', h, rfl⟩ := sizesZ_ok (cf := xcallK Kno F 2000 0) (fuel := 2000) (H := ⟨.e, 0⟩) (m := m) (n := n) (by omega) (by omega) (by omega)
  have hc := (xcallK_sound mixed Kno_ok F_ok 2000 1 82 _ _ _ _ ((cfstep rfl rfl).trans h)).pure (H := H) (frozZ2 _ _) (Fz.froz rfl)
  obtain ⟨v', q1, q2⟩ := KE_hit hc (fun m' n' e => by
    simp only [List.cons.injEq, and_true] at e
    rw [dz_inj (rowZ_inj e.1), dz_inj (rowZ_inj e.2)])
  rw [q1, q2 m n rfl]
theorem neg_ok {cf : CF} {fuel : Nat} {n : Nat} : ∃ v H', xfunc cf fuel L108 [zN n] ⟨.e, 0⟩ = some (v, H') ∧ v = negZ n := by
  refine xfunc_ofK rfl (by show 1 ≤ 14; omega) ?_
  have hF := HF.start ⟨.e, 0⟩
  generalize (⟨.e, 0⟩ : AHeap) = H at hF ⊢
  unfold L108
  dsimp only
  repeat' (first | refine WK.seq ?_ | refine WK.ret ?_ | (apply WK.reg; (· exact lnn)) | (apply WKO.c1; (· rfl); (· rfl); (· first | rfl); (· assumption); (· rfl); (· exact nxx); (· first | exact .inr nxx); (· first | (simp [AV.cells]; done)); intro _ _ _) | (apply WKO.p0; (· rfl); (· rfl); (· first | rfl); (· first | rfl); (· assumption); (· rfl); (· exact nxx); (· first | exact .inr nxx); intro _ _ _) | (apply WKO.boxO; (· rfl); (· assumption); (· rfl); (· exact nxx); (· exact nxx); (· exact nxx); intro _ _ _) | (apply WKO.alO; (· assumption); (· rfl); (· exact nxx); (· exact nxx); (· exact nxx); intro _ _ _) | refine WKO.nil ?_ | ((first | apply WKO.op | ((first | apply WKO.gop); (· rfl); (· exact dcd))); (· first | exact k_mv rfl | exact k_un rfl rfl | exact k_lenZ rfl | (apply k_ldO; (· rfl); (· assumption); (· rfl); (· exact mmb); (· rfl)) | (apply k_ldA; (· rfl); (· assumption); (· rfl); (· exact mmb); (· first | rfl)) | exact k_faddr rfl | exact opA); (· rfl)) | refine pN ?_ | fail)
  rename_i H9 hF9 hn9
  exact ⟨fun id q => (by cases q), _, resK_obj rfl (hF9.obj _ (.head _)) rfl, rfl⟩
theorem E108 (n : Nat) (H : AHeap) : KE 108 [zN n] H = some (negZ n, H) := by
  obtain ⟨v, H', h, rfl⟩ := neg_ok (cf := xcallK Kno F 2000 0) (fuel := 2000) (n := n)
  have hc := (xcallK_sound mixed Kno_ok F_ok 2000 1 108 _ _ _ _ ((cfstep rfl rfl).trans h)).pure (H := H) (by simp only [AV.frozL, AV.froz, rowZ_froz, Bool.and_self]) (Fz.froz (by simp only [AV.frozL, AV.froz, rowZ_froz, Bool.and_self]))
  obtain ⟨v', q1, q2⟩ := KE_hit hc (fun n' e => by
    simp only [List.cons.injEq, and_true] at e
    rw [zN_inj e])
  rw [q1, q2 n rfl]
theorem add_walkP {m n : Nat} (hm : (dz m).length < 800) (hn : (dz n).length < 800) : ∃ v H', xfunc (xcallK KE F 2000 0) 2000 L66 [zN m, zN n] ⟨.e, 0⟩ = some (v, H') ∧ v = zN (m + n) := by
  refine xfunc_ofK rfl (by show 2 ≤ 43; omega) ?_
  have hF := HF.start ⟨.e, 0⟩
  generalize (⟨.e, 0⟩ : AHeap) = H at hF ⊢
  unfold L66
  dsimp only
  repeat' (first | refine WK.seq ?_ | (apply WK.reg; (· exact lnn)) | (apply WKO.boxO; (· rfl); (· assumption); (· rfl); (· exact nxx); (· exact nxx); (· exact nxx); intro _ _ _) | (apply WKO.alO; (· assumption); (· rfl); (· exact nxx); (· exact nxx); (· exact nxx); intro _ _ _) | refine WKO.nil ?_ | ((first | apply WKO.op); (· first | exact k_eqB rfl rfl | (apply k_ldO; (· rfl); (· assumption); (· rfl); (· exact mmb); (· rfl)) | exact k_faddr rfl); (· rfl)) | refine pN ?_ | (apply WK.condT; (· rfl); (· exact dcd)) | fail)
  rename_i H1 hF1 hn1 H2 hF2 hn2 H3 hF3 hn3
  obtain ⟨o, e1, e2, e3, e4⟩ := E103 (digZ_dz m) (digZ_dz n) (by omega) (by omega) ((H3.bump 5).bump (9 + 1))
  rw [valZ_dz, valZ_dz] at e3
  refine WK.regC1 9 rfl rfl rfl ?_
  dsimp only [List.take_succ_cons, List.take_zero]
  repeat' (first | refine WK.ret ?_ | (apply WKO.stO0; (· rfl); (· rfl); (· assumption); (· rfl); (· exact nxx); (· first | exact .inr nxx); (· rfl); (· rfl); (· first | decide); intro _ _ _) | refine WKC.nil ?_ | refine WKO.nil ?_ | ((first | apply WKC.op); (· first | (apply k_call; (· rfl); (· rfl); (· exact cfhit e1)) | (apply k_call; (· rfl); (· rfl); (· exact cfhit (E83 e2 e4 _))) | (apply k_ldO; (· rfl); (· assumption); (· rfl); (· exact mmb); (· rfl)) | exact k_faddr rfl | exact opA); (· rfl)) | refine pN ?_ | refine pR ?_ | fail)
  repeat' (first | fail)
  rename_i H9 hF9 hn9
  exact ⟨fun id q => (by cases q), _, resK_obj rfl (hF9.obj _ (.head _)) rfl, by rw [e3]; rfl⟩
theorem k_eqTF {cf : CF} {n : Nat} {H : AHeap} {l : KL0} {x y : XO} (hx : evK l x = some (.bool false)) (hy : evK l y = some (.bool true)) : XV cf l H n (.eqf false (.mk false [.b]) x y) = some (.bool false, H) := by
  refine k_any ?_
  simp only [xval, xop, hx, hy]
  rfl
theorem k_geqI {cf : CF} {n : Nat} {z : Int} {H : AHeap} {l : KL0} {x : XO} (hx : evK l x = some (zA z)) (h : 0 ≤ z) : XV cf l H n (.bin .geq x (.k (.int .i64 (.ofNat 0)))) = some (.bool true, H) :=
  k_bin hx rfl (by
    show some (AV.bool (decide (z ≥ Int.ofNat 0))) = _
    rw [decide_eq_true (by exact h)])
theorem cmpI_ge {m n : Nat} (h : n ≤ m) : 0 ≤ cmpI m n := by
  unfold cmpI
  rw [if_neg (by omega)]
  split <;> omega
theorem negZ_eq {n : Nat} (h : 0 < n) : negZ n = .agg [.bool true, rowZ (dz n)] := by
  unfold negZ
  have := @dz_nil n
  rw [decide_eq_true (by omega)]
theorem add_walkN {m n : Nat} (hm : (dz m).length < 800) (h0 : 0 < n) (hnm : n ≤ m) : ∃ v H', xfunc (xcallK KE F 2000 0) 2000 L66 [zN m, .agg [.bool true, rowZ (dz n)]] ⟨.e, 0⟩ = some (v, H') ∧ v = zN (m - n) := by
  refine xfunc_ofK rfl (by show 2 ≤ 43; omega) ?_
  have hF := HF.start ⟨.e, 0⟩
  generalize (⟨.e, 0⟩ : AHeap) = H at hF ⊢
  have hln := dz_mono hnm
  unfold L66
  dsimp only
  repeat' (first | refine WK.seq ?_ | refine WK.skip ?_ | (apply WK.reg; (· exact lnn)) | (apply WKO.boxO; (· rfl); (· assumption); (· rfl); (· exact nxx); (· exact nxx); (· exact nxx); intro _ _ _) | (apply WKO.alO; (· assumption); (· rfl); (· exact nxx); (· exact nxx); (· exact nxx); intro _ _ _) | refine WKO.nil ?_ | ((first | apply WKO.op); (· first | exact k_eqTF rfl rfl | exact k_call rfl rfl (cfhit (E82 (by omega) (by omega) _)) | exact k_geqI rfl (cmpI_ge hnm) | (apply k_ldO; (· rfl); (· assumption); (· rfl); (· exact mmb); (· rfl)) | exact k_faddr rfl); (· rfl)) | refine pN ?_ | (apply WK.condT; (· rfl); (· exact dcd)) | (apply WK.condF; (· rfl); (· exact dcd)) | fail)
  rename_i H1 hF1 hn1 H2 hF2 hn2 H3 hF3 hn3
  obtain ⟨o, e1, e2, e3, e4⟩ := E85 (digZ_dz m) (digZ_dz n) (by omega) hln (by rw [valZ_dz, valZ_dz]; exact hnm) (((H3.bump 5).bump 6).bump (9 + 1))
  rw [valZ_dz, valZ_dz] at e3
  refine WK.regC1 9 rfl rfl rfl ?_
  dsimp only [List.take_succ_cons, List.take_zero]
  repeat' (first | refine WK.ret ?_ | (apply WKO.stO0; (· rfl); (· rfl); (· assumption); (· rfl); (· exact nxx); (· first | exact .inr nxx); (· rfl); (· rfl); (· first | decide); intro _ _ _) | refine WKC.nil ?_ | refine WKO.nil ?_ | ((first | apply WKC.op); (· first | (apply k_call; (· rfl); (· rfl); (· exact cfhit e1)) | (apply k_call; (· rfl); (· rfl); (· exact cfhit (E83 e2 e4 _))) | (apply k_ldO; (· rfl); (· assumption); (· rfl); (· exact mmb); (· rfl)) | exact k_faddr rfl | exact opA); (· rfl)) | refine pN ?_ | refine pR ?_ | fail)
  repeat' (first | fail)
  rename_i H9 hF9 hn9
  exact ⟨fun id q => (by cases q), _, resK_obj rfl (hF9.obj _ (.head _)) rfl, by rw [e3]; rfl⟩
theorem SZ66P {m n : Nat} : SZ 66 [zN m, zN n] (zN (m + n)) := by
  refine ⟨fun m' n' e => ?_, fun m' n' h0 e => ?_⟩
  · simp only [List.cons.injEq, and_true] at e
    rw [zN_inj e.1, zN_inj e.2]
  · rw [negZ_eq h0] at e
    simp [zN] at e
theorem E66 {m n : Nat} (hm : (dz m).length < 800) (hn : (dz n).length < 800) (H : AHeap) : KE 66 [zN m, zN n] H = some (zN (m + n), H) := by
  obtain ⟨v, H', h, rfl⟩ := add_walkP hm hn
  have hc := (xfunc_sound mixed (xcallK_sound mixed KE_ok F_ok 2000 0) 2000 (F_ok 66 L66 rfl) h).pure (H := H) (by simp only [AV.frozL, zN_froz, Bool.and_self]) (Fz.froz (zN_froz _))
  obtain ⟨v', q1, q2⟩ := KE_hit hc SZ66P
  rw [q1, q2.1 m n rfl]
theorem negZ_zero : negZ 0 = zN 0 := by
  show AV.agg [.bool (decide ((dz 0).length > 0)), rowZ (dz 0)] = .agg [.bool false, rowZ (dz 0)]
  rw [dz_zero]
  rfl
theorem negZ_froz (n : Nat) : (negZ n).froz = true := by simp only [negZ, AV.froz, AV.frozL, rowZ_froz, Bool.and_self]
theorem negZ_inj {m n : Nat} (h : negZ m = negZ n) : m = n := by
  simp only [negZ, AV.agg.injEq, List.cons.injEq, and_true] at h
  exact dz_inj (rowZ_inj h.2)
theorem E66N {m n : Nat} (hm : (dz m).length < 800) (hnm : n ≤ m) (H : AHeap) : KE 66 [zN m, negZ n] H = some (zN (m - n), H) := by
  by_cases h0 : n = 0
  · subst h0
    rw [negZ_zero, E66 hm (by rw [dz_zero]; exact Nat.zero_lt_succ _), Nat.add_zero, Nat.sub_zero]
  · obtain ⟨v, H', h, rfl⟩ := add_walkN hm (show 0 < n by omega) hnm
    rw [← negZ_eq (show 0 < n by omega)] at h
    have hc := (xfunc_sound mixed (xcallK_sound mixed KE_ok F_ok 2000 0) 2000 (F_ok 66 L66 rfl) h).pure (H := H) (by simp only [AV.frozL, zN_froz, negZ_froz, Bool.and_self]) (Fz.froz (zN_froz _))
    have hs : SZ 66 [zN m, negZ n] (zN (m - n)) := by
      refine ⟨fun m' n' e => ?_, fun m' n' h0 e => ?_⟩
      · simp only [List.cons.injEq, and_true] at e
        have := e.2
        rw [negZ_eq (by omega)] at this
        simp [zN] at this
      · simp only [List.cons.injEq, and_true] at e
        rw [zN_inj e.1, negZ_inj e.2]
    obtain ⟨v', q1, q2⟩ := KE_hit hc hs
    rw [q1, q2.2 m n (by omega) rfl]
theorem sub_walk {m n : Nat} (hm : (dz m).length < 800) (hnm : n ≤ m) : ∃ v H', xfunc (xcallK KE F 2000 0) 2000 L86 [zN m, zN n] ⟨.e, 0⟩ = some (v, H') ∧ v = zN (m - n) := by
  refine xfunc_ofK rfl (by show 2 ≤ 9; omega) ?_
  have hF := HF.start ⟨.e, 0⟩
  generalize (⟨.e, 0⟩ : AHeap) = H at hF ⊢
  unfold L86
  dsimp only
  repeat' (first | refine WK.seq ?_ | (apply WK.reg; (· exact lnn)) | (apply WKO.boxO; (· rfl); (· assumption); (· rfl); (· exact nxx); (· exact nxx); (· exact nxx); intro _ _ _) | (apply WKO.alO; (· assumption); (· rfl); (· exact nxx); (· exact nxx); (· exact nxx); intro _ _ _) | refine WKO.nil ?_ | refine pN ?_ | fail)
  refine WK.regC1 4 rfl rfl rfl ?_
  dsimp only [List.take_succ_cons, List.take_zero]
  repeat' (first | refine WK.ret ?_ | (apply WKO.stO0; (· rfl); (· rfl); (· assumption); (· rfl); (· exact nxx); (· first | exact .inr nxx); (· rfl); (· rfl); (· first | decide); intro _ _ _) | refine WKC.nil ?_ | refine WKO.nil ?_ | ((first | apply WKC.op); (· first | (apply k_call; (· rfl); (· rfl); (· exact cfhit (E108 n _))) | (apply k_call; (· rfl); (· rfl); (· exact cfhit (E66N hm hnm _))) | (apply k_ldA; (· rfl); (· assumption); (· rfl); (· exact mmb); (· first | rfl))); (· rfl)) | refine pN ?_ | fail)
  repeat' (first | fail)
  rename_i H9 hF9 hn9
  exact ⟨fun id q => (by cases q), _, resK_obj rfl (hF9.obj _ (.head _)) rfl, rfl⟩
theorem E86 {m n : Nat} (hm : (dz m).length < 800) (hnm : n ≤ m) (H : AHeap) : KE 86 [zN m, zN n] H = some (zN (m - n), H) := by
  obtain ⟨v, H', h, rfl⟩ := sub_walk hm hnm
  have hc := (xfunc_sound mixed (xcallK_sound mixed KE_ok F_ok 2000 0) 2000 (F_ok 86 L86 rfl) h).pure (H := H) (by simp only [AV.frozL, zN_froz, Bool.and_self]) (Fz.froz (zN_froz _))
  obtain ⟨v', q1, q2⟩ := KE_hit hc (fun m' n' e => by
    simp only [List.cons.injEq, and_true] at e
    rw [zN_inj e.1, zN_inj e.2])
  rw [q1, q2 m n rfl]
theorem sign_walk (n : Nat) : ∃ v H', xfunc (xcallK KE F 2000 0) 2000 L109 [zN n] ⟨.e, 0⟩ = some (v, H') ∧ v = nA (min n 1) := by
  refine xfunc_ofK rfl (by show 1 ≤ 9; omega) ?_
  have hF := HF.start ⟨.e, 0⟩
  generalize (⟨.e, 0⟩ : AHeap) = H at hF ⊢
  have hnil := @dz_nil n
  unfold L109
  dsimp only
  repeat' (first | refine WK.seq ?_ | refine WK.skip ?_ | refine WK.ret ?_ | (apply WK.reg; (· exact lnn)) | (apply WKO.boxO; (· rfl); (· assumption); (· rfl); (· exact nxx); (· exact nxx); (· exact nxx); intro _ _ _) | refine WKO.nil ?_ | ((first | apply WKO.op); (· first | exact k_mv rfl | exact k_lenZ rfl | (apply k_ldO; (· rfl); (· assumption); (· rfl); (· exact mmb); (· rfl)) | exact k_faddr rfl | exact opA); (· rfl)) | refine pN ?_ | refine pR ?_ | (apply WK.condF; (· rfl); (· exact dcd)) | (apply WK.condD; (· rfl); all_goals intro _) | fail)
  · exact ⟨fun id q => (by cases q), _, rfl, by rw [show min n 1 = 0 by omega]; rfl⟩
  · exact ⟨fun id q => (by cases q), _, rfl, by rw [show min n 1 = 1 by omega]; rfl⟩
theorem E109 (n : Nat) (H : AHeap) : KE 109 [zN n] H = some (nA (min n 1), H) := by
  obtain ⟨v, H', h, rfl⟩ := sign_walk n
  have hc := (xfunc_sound mixed (xcallK_sound mixed KE_ok F_ok 2000 0) 2000 (F_ok 109 L109 rfl) h).pure (H := H) (by simp only [AV.frozL, zN_froz, Bool.and_self]) (Fz.froz rfl)
  obtain ⟨v', q1, q2⟩ := KE_hit hc (fun n' e => by
    simp only [List.cons.injEq, and_true] at e
    rw [zN_inj e])
  rw [q1, q2 n rfl]
theorem cmp_walk {m n : Nat} (hm : (dz m).length < 800) (hnm : n ≤ m) : ∃ v H', xfunc (xcallK KE F 2000 0) 2000 L71 [zN m, zN n] ⟨.e, 0⟩ = some (v, H') ∧ v = nA (min (m - n) 1) := by
  refine xfunc_ofK rfl (by show 2 ≤ 9; omega) ?_
  have hF := HF.start ⟨.e, 0⟩
  generalize (⟨.e, 0⟩ : AHeap) = H at hF ⊢
  unfold L71
  dsimp only
  repeat' (first | refine WK.seq ?_ | refine WK.ret ?_ | (apply WK.reg; (· exact lnn)) | (apply WKO.boxO; (· rfl); (· assumption); (· rfl); (· exact nxx); (· exact nxx); (· exact nxx); intro _ _ _) | refine WKO.nil ?_ | ((first | apply WKO.op); (· first | exact k_mv rfl | (apply k_call; (· rfl); (· rfl); (· exact cfhit (E86 hm hnm _))) | (apply k_call; (· rfl); (· rfl); (· exact cfhit (E109 _ _))) | (apply k_ldA; (· rfl); (· assumption); (· rfl); (· exact mmb); (· first | rfl))); (· rfl)) | refine pN ?_ | fail)
  exact ⟨fun id q => (by cases q), _, rfl, rfl⟩
theorem E71 {m n : Nat} (hm : (dz m).length < 800) (hnm : n ≤ m) (H : AHeap) : KE 71 [zN m, zN n] H = some (nA (min (m - n) 1), H) := by
  obtain ⟨v, H', h, rfl⟩ := cmp_walk hm hnm
  have hc := (xfunc_sound mixed (xcallK_sound mixed KE_ok F_ok 2000 0) 2000 (F_ok 71 L71 rfl) h).pure (H := H) (by simp only [AV.frozL, zN_froz, Bool.and_self]) (Fz.froz rfl)
  obtain ⟨v', q1, q2⟩ := KE_hit hc (fun m' n' e => by
    simp only [List.cons.injEq, and_true] at e
    rw [zN_inj e.1, zN_inj e.2])
  rw [q1, q2 m n rfl]
end Go.Proofs.YtfcgofffalmdfaaGreatDoor.PA
namespace Go.Proofs.YtfcgofffalmdfaaGreatDoor.PA
theorem getZ_set (N : List Nat) (i w p : Nat) (hi : i < N.length) : (N.set i w).getD p 0 = if p = i then w else N.getD p 0 := by
  rw [List.getD_eq_getElem?_getD, List.getD_eq_getElem?_getD, List.getElem?_set]
  by_cases h : i = p
  · subst h
    simp [hi]
  · rw [if_neg h, if_neg (fun q => h q.symm)]
theorem digZ_set {l : List Nat} (h : digZ l) (p : Nat) {w : Nat} (hw : w < BZ) : digZ (l.set p w) := by
  intro x hx
  rcases List.mem_or_eq_of_mem_set hx with q | q
  · exact h x q
  · rw [q]; exact hw
structure MulO (a b : List Nat) (i : Nat) (N : List Nat) : Prop where
  v : valZ N = valZ (a.take i) * valZ b
  l : N.length = a.length + b.length + 1
  d : digZ N
  z : ∀ j, i + b.length ≤ j → N.getD j 0 = 0
structure MulI (a b : List Nat) (i k c : Nat) (N : List Nat) : Prop where
  v : valZ N + BZ ^ (i + k) * c = valZ (a.take i) * valZ b + BZ ^ i * (a.getD i 0 * valZ (b.take k))
  l : N.length = a.length + b.length + 1
  d : digZ N
  c1 : c < BZ
  k1 : k ≤ b.length + 1
  z : ∀ j, i + max k b.length ≤ j → N.getD j 0 = 0
  e : k = b.length + 1 → c = 0
theorem MulO.zero (a b : List Nat) : MulO a b 0 (List.replicate (a.length + b.length + 1) 0) := by
  refine ⟨by rw [valZ_zeros, List.take_zero, valZ, Nat.zero_mul], by simp, fun x hx => by rw [List.eq_of_mem_replicate hx]; decide, fun j _ => ?_⟩
  rw [List.getD_eq_getElem?_getD, List.getElem?_replicate]
  split <;> rfl
theorem MulO.row {a b : List Nat} {i : Nat} {N : List Nat} (h : MulO a b i N) : MulI a b i 0 0 N :=
  ⟨by rw [h.v, List.take_zero, valZ, Nat.mul_zero, Nat.mul_zero, Nat.mul_zero], h.l, h.d, by decide, by omega, fun j hj => h.z j (by omega), fun _ => rfl⟩
theorem MulI.step {a b : List Nat} {i k c s : Nat} {N : List Nat} (ha : digZ a) (hb : digZ b) (h : MulI a b i k c N) (hk : k < b.length) (hi : i < a.length) (hs : s = N.getD (i + k) 0 + c + a.getD i 0 * b.getD k 0) : MulI a b i (k + 1) (s / 10000) (N.set (i + k) (s % 10000)) ∧ s < 100000000 := by
  have h1 := digZ_get ha i
  have h2 := digZ_get hb k
  have h3 := digZ_get h.d (i + k)
  have h4 := h.c1
  have hB : BZ = 10000 := rfl
  rw [hB] at h1 h2 h3 h4
  have h5 : a.getD i 0 * b.getD k 0 ≤ 9999 * 9999 := Nat.mul_le_mul (by omega) (by omega)
  have hs2 : s < 100000000 := by omega
  refine ⟨⟨?_, by rw [List.length_set]; exact h.l, digZ_set h.d _ (Nat.mod_lt _ (by decide)), by rw [hB]; omega, by omega, fun j hj => ?_, fun q => by omega⟩, hs2⟩
  · have e1 := valZ_set N (i + k) (s % 10000) (by have := h.l; omega)
    have e2 := h.v
    have e3 := Nat.mod_add_div s 10000
    have e4 : BZ ^ (i + (k + 1)) * (s / 10000) = BZ ^ (i + k) * (10000 * (s / 10000)) := by rw [← Nat.add_assoc, Nat.pow_succ, Nat.mul_assoc, hB]
    have e5 : BZ ^ (i + k) * (s % 10000) + BZ ^ (i + k) * (10000 * (s / 10000)) = BZ ^ (i + k) * N.getD (i + k) 0 + BZ ^ (i + k) * c + BZ ^ (i + k) * (a.getD i 0 * b.getD k 0) := by
      rw [← Nat.mul_add, e3, hs, Nat.mul_add, Nat.mul_add]
    have e6 : BZ ^ i * (a.getD i 0 * valZ (b.take (k + 1))) = BZ ^ i * (a.getD i 0 * valZ (b.take k)) + BZ ^ (i + k) * (a.getD i 0 * b.getD k 0) := by
      rw [valZ_take', Nat.mul_add, Nat.mul_add, Nat.pow_add, Nat.mul_assoc (BZ ^ i)]
      congr 2
      rw [Nat.mul_left_comm]
    rw [e4, e6]
    omega
  · rw [getZ_set _ _ _ _ (by have := h.l; omega), if_neg (by omega)]
    exact h.z j (by omega)
theorem MulI.last {a b : List Nat} {i c : Nat} {N : List Nat} (h : MulI a b i b.length c N) (hi : i < a.length) : N.getD (i + b.length) 0 = 0 ∧ MulI a b i (b.length + 1) 0 (N.set (i + b.length) c) := by
  have h0 := h.z (i + b.length) (by omega)
  refine ⟨h0, ?_, by rw [List.length_set]; exact h.l, digZ_set h.d _ h.c1, by decide, by omega, fun j hj => ?_, fun _ => rfl⟩
  · have e1 := valZ_set N (i + b.length) c (by have := h.l; omega)
    have e2 := h.v
    rw [h0, Nat.mul_zero, Nat.add_zero] at e1
    rw [Nat.mul_zero, Nat.add_zero, e1, e2, List.take_of_length_le (Nat.le_succ _), List.take_length]
  · rw [getZ_set _ _ _ _ (by have := h.l; omega), if_neg (by omega)]
    exact h.z j (by omega)
theorem MulI.done {a b : List Nat} {i k c : Nat} {N : List Nat} (h : MulI a b i k c N) (hk : ¬ k < b.length) (hc : ¬ 0 < c) : MulO a b (i + 1) N := by
  refine ⟨?_, h.l, h.d, fun j hj => h.z j (by have := h.k1; omega)⟩
  have e := h.v
  rw [show c = 0 by omega, Nat.mul_zero, Nat.add_zero, List.take_of_length_le (l := b) (i := k) (by omega)] at e
  rw [e, valZ_take', Nat.add_mul, Nat.mul_assoc]
theorem MulO.done {a b : List Nat} {i : Nat} {N : List Nat} (h : MulO a b i N) (hi : ¬ i < a.length) : valZ N = valZ a * valZ b := by
  rw [h.v, List.take_of_length_le (by omega)]
end Go.Proofs.YtfcgofffalmdfaaGreatDoor.PA
namespace Go.Proofs.YtfcgofffalmdfaaGreatDoor.PA
open Go Go.Eng Go.Proofs
theorem nA_cells (n : Nat) : (nA n).cells = [nA n] := rfl
theorem nA_one (n : Nat) : (nA n).oneCell = true := rfl
theorem replicate_nA (m : Nat) : (List.replicate m [AV.int .i64 (.ofNat 0)]).flatten = (List.replicate m 0).map nA := by
  rw [List.map_replicate]
  induction m with
  | zero => rfl
  | succ m ih => rw [List.replicate_succ, List.flatten_cons, ih, List.replicate_succ]; rfl
theorem map_nA' {N : List Nat} {p : Nat} (h : p < N.length) : (N.map nA)[p]? = some (nA (N.getD p 0)) := by
  have := map_nA h
  rwa [Nat.mul_one] at this
set_option maxHeartbeats 4000000 in
theorem mul_walkZ {m n : Nat} (hm : (dz m).length < 400) (hn : (dz n).length < 400) : ∃ v H', xfunc (xcallK Kno F 2000 1) 2000 L72 [zN m, zN n] ⟨.e, 0⟩ = some (v, H') ∧ ∃ u, v = .agg [.bool false, u] ∧ RowE 1 H' u (dz (m * n)).length ((dz (m * n)).map nA) := by
  refine xfunc_ofK rfl (by show 2 ≤ 80; omega) ?_
  have hF := HF.start ⟨.e, 0⟩
  generalize (⟨.e, 0⟩ : AHeap) = H at hF ⊢
  have hd1 := digZ_dz m
  have hd2 := digZ_dz n
  have hv1 := valZ_dz m
  have hv2 := valZ_dz n
  have ez : ∀ k, zN k = .agg [.bool false, rowZ (dz k)] := fun k => rfl
  simp only [ez]
  generalize dz m = a at hm hd1 hv1 ⊢
  generalize dz n = b at hn hd2 hv2 ⊢
  unfold L72
  dsimp only
  repeat' (first | refine WK.seq ?_ | (apply WK.reg; (· exact lnn)) | (apply WKO.boxO; (· rfl); (· assumption); (· rfl); (· exact nxx); (· exact nxx); (· exact nxx); intro _ _ _) | (apply WKO.alO; (· assumption); (· rfl); (· exact nxx); (· exact nxx); (· exact nxx); intro _ _ _) | refine WKO.nil ?_ | ((first | apply WKO.op); (· first | exact k_lenZ rfl | (apply k_ldO; (· rfl); (· assumption); (· rfl); (· exact mmb); (· rfl)) | exact k_faddr rfl | exact opA); (· rfl)) | refine pN ?_ | fail)
  rename_i H1 hF1 hn1 H2 hF2 hn2 H3 hF3 hn3
  refine WKO.mkO (m := a.length + b.length + 1) rfl rfl ⟨by omega, by decide⟩ hF3 rfl (by simp only [next_bump]; omega) ?_
  intro H4 hF4 hn4
  rw [replicate_nA] at hF4
  repeat' (first | refine WK.seq ?_ | refine WK.block ?_ | (apply WK.reg; (· exact lnn)) | refine WKO.nil ?_ | ((first | apply WKO.op); (· first | exact k_mv rfl); (· rfl)) | refine pN ?_ | fail)
  generalize hpo : (H3.bump 10).next = po at hF4 ⊢
  have hb3 := hF3.base
  have hle3 := hF3.le
  have hpo2 : H.next ≤ po := by simp only [next_bump] at hpo; omega
  have hpo3 : H.next + 1 + 1 + 1 ≤ po := by simp only [next_bump] at hpo; omega
  clear hF hF1 hF2 hF3
  refine WK.loop (α := Nat × List Nat) (fun s => [(2, .ptr H.next 0), (3, .ptr (H.next + 1) 0), (4, .ptr (H.next + 1 + 1) 0), (5, .sl po 0 (a.length + b.length + 1) (a.length + b.length + 1)), (6, nA s.1)])
    (fun s H' => (∃ T, HF H [] T [(po, .cells (s.2.map nA) none), (H.next + 1 + 1, .cells [.bool false, .nils] none), (H.next + 1, .cells [.bool false, rowZ b] none), (H.next, .cells [.bool false, rowZ a] none)] H') ∧ MulO a b s.1 s.2 ∧ s.1 ≤ a.length) (fun s => a.length - s.1) (0, List.replicate (a.length + b.length + 1) 0) (.cons rfl <| .cons rfl <| .cons rfl <| .cons rfl <| .cons rfl <| .nil _) ⟨⟨_, hF4.up rfl (by simp only [next_bump]; omega)⟩, MulO.zero a b, Nat.zero_le _⟩ (by show a.length - 0 < 2000; omega) ?_
  rintro ⟨i, N⟩ H5 ⟨⟨T5, hF5⟩, hO, hi⟩
  simp only at hF5 hO hi ⊢
  clear hF4
  repeat' (first | refine WK.seq ?_ | refine WK.skip ?_ | refine WK.exit ?_ | refine WK.block ?_ | (apply WK.reg; (· exact lnn)) | refine WKO.nil ?_ | ((first | apply WKO.op); (· first | exact k_mv rfl | exact k_lenZ rfl | (apply k_ldO; (· rfl); (· assumption); (· rfl); (· exact mmb); (· rfl)) | exact k_faddr rfl | exact opA); (· rfl)) | refine pN ?_ | refine pX ?_ | refine bX ?_ | (apply WK.condD; (· rfl); all_goals intro _) | fail)
  · refine WK.loop (α := Nat × Nat × List Nat) (fun s => [(2, .ptr H.next 0), (3, .ptr (H.next + 1) 0), (4, .ptr (H.next + 1 + 1) 0), (5, .sl po 0 (a.length + b.length + 1) (a.length + b.length + 1)), (6, nA i), (7, nA s.2.1), (8, nA s.1)])
      (fun s H' => (∃ T, HF H [] T [(po, .cells (s.2.2.map nA) none), (H.next + 1 + 1, .cells [.bool false, .nils] none), (H.next + 1, .cells [.bool false, rowZ b] none), (H.next, .cells [.bool false, rowZ a] none)] H') ∧ MulI a b i s.1 s.2.1 s.2.2) (fun s => b.length + 1 - s.1) (0, 0, N) (.cons rfl <| .cons rfl <| .cons rfl <| .cons rfl <| .cons rfl <| .cons rfl <| .cons rfl <| .nil _) ⟨⟨_, hF5.up rfl (by simp only [next_bump]; omega)⟩, hO.row⟩ (by show b.length + 1 - 0 < 2000; omega) ?_
    rintro ⟨k, c, M⟩ H6 ⟨⟨T6, hF6⟩, hI⟩
    simp only at hF6 hI ⊢
    clear hF5
    have hMl := hI.l
    have hc1 := hI.c1
    have hk1 := hI.k1
    have hke := hI.e
    have hB : BZ = 10000 := rfl
    rw [hB] at hc1
    have hdg := digZ_get hI.d (i + k)
    have hda := digZ_get hd1 i
    have hdb := digZ_get hd2 k
    rw [hB] at hda hdb
    have hmul : a.getD i 0 * b.getD k 0 ≤ 9999 * 9999 := Nat.mul_le_mul (by omega) (by omega)
    rw [hB] at hdg
    repeat' (first | refine WK.seq ?_ | refine WK.skip ?_ | refine WK.exit ?_ | refine WK.block ?_ | (apply WK.reg; (· exact lnn)) | (apply WK.regC; (· rfl); (· exact lnn); (· decide)) | refine WKC.nil ?_ | refine WKO.nil ?_ | ((first | apply WKC.op | apply WKO.op | ((first | apply WKO.gop); (· rfl); (· exact dcd))); (· first | exact k_mv rfl | exact k_lenZ rfl | exact k_ia1s rfl rfl (by omega) | (apply k_ldO; (· rfl); (· exact hF6); (· rfl); (· exact .head _); (· exact map_nA' (by omega))) | exact k_iaZ rfl rfl (by omega) | exact k_ldZ rfl (by omega) | exact k_mulN rfl rfl (by omega) | exact k_remN rfl rfl (by decide) | exact k_quoN rfl rfl (by decide) (by omega) | (apply k_ldO; (· rfl); (· assumption); (· rfl); (· exact mmb); (· rfl)) | exact k_faddr rfl | exact opA); (· rfl)) | ((first | apply WKO.gnoF); (· rfl); (· exact dcd)) | ((first | apply WKO.gsp); (· rfl); all_goals ((fail_if_success (refine known ?_ ?_; (· assumption))); intro _)) | refine pN ?_ | refine pX ?_ | refine bN ?_ | refine bX ?_ | (apply WK.condT; (· rfl); (· exact dcd)) | (apply WK.condF; (· rfl); (· exact dcd)) | (apply WK.condD; (· rfl); all_goals intro _) | fail)
    · refine WKO.stN (f := nA) (N := M) (p := i + k) rfl rfl (nA_cells _) (nA_one _) hF6 rfl nxx (.inr hpo2) (by omega) ?_
      intro H7 hF7 hn7
      repeat' (first | (apply WK.reg; (· exact lnn)) | refine WKO.nil ?_ | ((first | apply WKO.op); (· first | exact k_mv rfl | exact opA); (· rfl)) | refine pN ?_ | refine bN ?_ | fail)
      obtain ⟨q1, q2⟩ := hI.step hd1 hd2 (by assumption) (by assumption) rfl
      exact ⟨(k + 1, _, _), (.cons rfl <| .cons rfl <| .cons rfl <| .cons rfl <| .cons rfl <| .cons rfl <| .cons rfl <| .nil _), ⟨⟨T6, hF7.up rfl (by simp only [next_bump]; omega)⟩, q1⟩, by show b.length + 1 - (k + 1) < b.length + 1 - k; omega⟩
    · have hkb : k = b.length := by omega
      subst hkb
      obtain ⟨q0, q1⟩ := hI.last (by assumption)
      refine WKO.stN (f := nA) (N := M) (p := i + b.length) rfl rfl (nA_cells _) (nA_one _) hF6 rfl nxx (.inr hpo2) (by omega) ?_
      intro H7 hF7 hn7
      repeat' (first | (apply WK.reg; (· exact lnn)) | refine WKO.nil ?_ | ((first | apply WKO.op); (· first | exact k_mv rfl | exact opA); (· rfl)) | refine pN ?_ | refine bN ?_ | fail)
      have e1 : (M.getD (i + b.length) 0 + c) / 10000 = 0 := by omega
      have e2 : (M.getD (i + b.length) 0 + c) % 10000 = c := by omega
      rw [e2] at hF7
      rw [e1]
      exact ⟨(b.length + 1, 0, _), (.cons rfl <| .cons rfl <| .cons rfl <| .cons rfl <| .cons rfl <| .cons rfl <| .cons rfl <| .nil _), ⟨⟨T6, hF7.up rfl (by simp only [next_bump]; omega)⟩, q1⟩, by show b.length + 1 - (b.length + 1) < b.length + 1 - b.length; omega⟩
    · refine ⟨fun _ => ?_, fun q => absurd rfl q⟩
      repeat' (first | (apply WK.reg; (· exact lnn)) | refine WKO.nil ?_ | ((first | apply WKO.op); (· first | exact k_mv rfl | exact opA); (· rfl)) | refine pN ?_ | fail)
      exact ⟨(i + 1, M), (.cons rfl <| .cons rfl <| .cons rfl <| .cons rfl <| .cons rfl <| .nil _), ⟨⟨T6, hF6.up rfl (by simp only [next_bump]; omega)⟩, hI.done (by assumption) (by omega), by show i + 1 ≤ a.length; omega⟩, by show a.length - (i + 1) < a.length - i; omega⟩
  · refine ⟨fun _ => ?_, fun q => absurd rfl q⟩
    repeat' (first | refine WK.seq ?_ | (apply WK.reg; (· exact lnn)) | ((first | apply WKO.op); (· first | exact k_mv rfl | exact k_neB rfl rfl | (apply k_ldO; (· rfl); (· assumption); (· rfl); (· exact mmb); (· rfl)) | exact k_faddr rfl | exact opA); (· rfl)) | fail)
    have hvN := hO.done (by assumption)
    have hNl := hO.l
    have hpl := hF5.lt _ (.head _)
    have hle5 := hF5.le
    simp only at hpl
    have hfrt : Frt ((H5.bump 5).bump 9) (.sl po 0 (a.length + b.length + 1) (a.length + b.length + 1)) N := .inr (.inl ⟨po, by rw [hNl], by simp only [next_bump]; omega, hF5.obj _ (.head _), by omega⟩)
    refine WKO.callV rfl rfl rfl (show ∃ v H', xcallK Kno F 2000 1 83 [.agg [.bool false, .sl po 0 (a.length + b.length + 1) (a.length + b.length + 1)]] ((H5.bump 5).bump 9) = some (v, H') ∧ _ from by
      obtain ⟨v, H', q1, q2⟩ := lean_ok (cf := xcallK Kno F 2000 0) (fuel := 2000) hfrt hO.d (by omega) (by omega)
      exact ⟨v, H', (cfstep rfl rfl).trans q1, q2⟩) ?_
    rintro v H7 ⟨u, rfl, hR, hfr, hn7, hown⟩
    have ho := hR.one
    simp only [next_bump] at hfr hn7 hown
    have hF7 : HF H7 [H.next + 1 + 1] H7.next [(H.next + 1 + 1, .cells [.bool false, .nils] none)] H7 := HF.add ⟨fun p hp => (by cases hp), fun p hp => (by cases hp), by simp, Nat.le_refl _, Nat.le_refl _, fun _ _ _ => rfl⟩ ((hfr _ (by omega)).trans (hF5.obj (H.next + 1 + 1, _) (.tail _ (.head _)))) (by omega) (by simp)
    clear hF5
    repeat' (first | refine WK.ret ?_ | (apply WKO.p0; (· rfl); (· rfl); (· first | rfl); (· first | assumption); (· assumption); (· rfl); (· exact nxx); (· first | exact .inl (by simp)); intro _ _ _) | refine WKO.nil ?_ | refine pN ?_ | fail)
    rename_i H9 hF9 hn9
    rw [hvN, hv1, hv2] at hR
    exact ⟨fun id q => (by cases q), _, resK_obj rfl (hF9.obj _ (.head _)) rfl, u, rfl, hR.frame (Nat.le_trans hF9.base hF9.le) (fun q hq => hF9.fr q (hR.own_lt hq) (by have := hown q hq; simp only [List.mem_singleton]; omega))⟩
theorem E72 {m n : Nat} (hm : (dz m).length < 400) (hn : (dz n).length < 400) (H : AHeap) : KE 72 [zN m, zN n] H = some (zN (m * n), H) := by
  obtain ⟨v, H', h, u, rfl, hR⟩ := mul_walkZ hm hn
  have hc := (xfunc_sound mixed (xcallK_sound mixed Kno_ok F_ok 2000 1) 2000 (F_ok 72 L72 rfl) h).pure (H := H) (v' := zN (m * n)) (by simp only [AV.frozL, zN_froz, Bool.and_self]) (.agg rfl (fun j x y hx hy => by
    match j, hx, hy with
    | 0, hx, hy => cases hx; cases hy; exact .bool _
    | 1, hx, hy => cases hx; cases hy; exact rowZ_fz hR (fun i _ => get_e0 i)))
  obtain ⟨v', q1, q2⟩ := KE_hit hc (fun m' n' e => by
    simp only [List.cons.injEq, and_true] at e
    rw [zN_inj e.1, zN_inj e.2])
  rw [q1, q2 m n rfl]
end Go.Proofs.YtfcgofffalmdfaaGreatDoor.PA
namespace Go.Proofs.YtfcgofffalmdfaaGreatDoor.PA
theorem decV_acc : ∀ (l : List Nat) (v : Nat), l.foldl (fun v c => 10 * v + (c - 48)) v = v * 10 ^ l.length + decV l
  | [], v => by simp [decV]
  | c :: l, v => by
    have e : decV (c :: l) = l.foldl (fun v c => 10 * v + (c - 48)) (10 * 0 + (c - 48)) := rfl
    rw [e, List.foldl_cons, decV_acc l, decV_acc l (10 * 0 + (c - 48)), List.length_cons, Nat.pow_succ, Nat.add_mul, Nat.add_mul, Nat.mul_comm 10 v, Nat.mul_assoc v 10, Nat.mul_comm 10 (10 ^ l.length)]
    omega
theorem decV_app (a b : List Nat) : decV (a ++ b) = decV a * 10 ^ b.length + decV b := by
  have : decV (a ++ b) = b.foldl (fun v c => 10 * v + (c - 48)) (decV a) := by unfold decV; rw [List.foldl_append]
  rw [this, decV_acc]
theorem decV_lt : ∀ {l : List Nat}, (∀ c ∈ l, 48 ≤ c ∧ c < 58) → decV l < 10 ^ l.length
  | [], _ => by simp [decV]
  | c :: l, h => by
    have h1 := decV_lt (l := l) (fun x hx => h x (by simp [hx]))
    have h2 := h c (by simp)
    have e : decV (c :: l) = (c - 48) * 10 ^ l.length + decV l := by
      have : decV (c :: l) = l.foldl (fun v c => 10 * v + (c - 48)) (10 * 0 + (c - 48)) := rfl
      rw [this, decV_acc, Nat.mul_zero, Nat.zero_add]
    have h3 : (c - 48) * 10 ^ l.length ≤ 9 * 10 ^ l.length := Nat.mul_le_mul_right _ (by omega)
    rw [e, List.length_cons, Nat.pow_succ]
    omega
def grp (L : List Nat) (i j : Nat) : List Nat := (L.take j).drop i
theorem grp_nil (L : List Nat) (i : Nat) : decV (grp L i i) = 0 := by
  unfold grp
  rw [List.drop_eq_nil_of_le (by rw [List.length_take]; omega)]
  rfl
theorem grp_next {L : List Nat} {i j : Nat} (hij : i ≤ j) (hj : j < L.length) : decV (grp L i (j + 1)) = 10 * decV (grp L i j) + (L.getD j 0 - 48) := by
  unfold grp
  rw [List.take_add_one, List.getElem?_eq_getElem hj, Option.toList_some, List.drop_append_of_le_length (by rw [List.length_take]; omega), decV_snoc, List.getD_eq_getElem?_getD, List.getElem?_eq_getElem hj]
  rfl
theorem grp_lt {L : List Nat} (h : ∀ c ∈ L, 48 ≤ c ∧ c < 58) {i j : Nat} (hij : i ≤ j) (h4 : j ≤ i + 4) : decV (grp L i j) < 10000 := by
  have h1 := decV_lt (l := grp L i j) (fun c hc => h c (List.mem_of_mem_take (List.mem_of_mem_drop hc)))
  have h2 : (grp L i j).length ≤ 4 := by unfold grp; rw [List.length_drop, List.length_take]; omega
  have h3 : 10 ^ (grp L i j).length ≤ 10 ^ 4 := Nat.pow_le_pow_right (by decide) h2
  have h4 : (10 : Nat) ^ 4 = 10000 := rfl
  omega
structure ReadZ (L : List Nat) (n at_ : Nat) (o : List Nat) : Prop where
  v : valZ o + BZ ^ o.length * decV (L.take at_) = n
  d : digZ o
  l : o.length + at_ ≤ L.length
theorem ReadZ.next {L : List Nat} {n at_ : Nat} {o : List Nat} (h : ReadZ L n at_ o) (hL : ∀ c ∈ L, 48 ≤ c ∧ c < 58) (h0 : 0 < at_) : ReadZ L n (at_ - 4) (o ++ [decV (grp L (at_ - 4) at_)]) := by
  have hl := h.l
  refine ⟨?_, digZ_snoc h.d (by rw [BZ_eq]; exact grp_lt hL (by omega) (by omega)), by rw [List.length_append, List.length_singleton]; omega⟩
  rw [valZ_snoc, ← h.v, List.length_append, List.length_singleton, Nat.pow_succ, Nat.mul_assoc, Nat.add_assoc, ← Nat.mul_add]
  congr 2
  have e : L.take at_ = L.take (at_ - 4) ++ grp L (at_ - 4) at_ := by
    unfold grp
    have := List.take_append_drop (at_ - 4) (L.take at_)
    rw [List.take_take, Nat.min_eq_left (by omega)] at this
    exact this.symm
  rw [e, decV_app, BZ_eq]
  by_cases h4 : 4 ≤ at_
  · have : (grp L (at_ - 4) at_).length = 4 := by unfold grp; rw [List.length_drop, List.length_take]; omega
    rw [this]
    omega
  · rw [show at_ - 4 = 0 by omega, List.take_zero]
    simp [decV]
theorem ReadZ.done {L : List Nat} {n : Nat} {o : List Nat} (h : ReadZ L n 0 o) : valZ o = n := by
  have := h.v
  rw [List.take_zero, show decV [] = 0 from rfl, Nat.mul_zero, Nat.add_zero] at this
  exact this
theorem decS_get {n i : Nat} (h : i < (decL n).length) : (decS n)[i]? = some (UInt8.ofNat ((decL n).getD i 0)) ∧ (UInt8.ofNat ((decL n).getD i 0)).toNat = (decL n).getD i 0 ∧ 48 ≤ (decL n).getD i 0 ∧ (decL n).getD i 0 < 58 := by
  have h1 : (decL n)[i]? = some ((decL n).getD i 0) := by rw [List.getD_eq_getElem?_getD, List.getElem?_eq_getElem h]; rfl
  have h2 := decL_dig n _ (List.mem_of_getElem? h1)
  refine ⟨by rw [decS, List.getElem?_map, h1]; rfl, ?_, h2⟩
  rw [UInt8.toNat_ofNat']
  omega
theorem decS_length (n : Nat) : (decS n).length = (decL n).length := by rw [decS, List.length_map]
end Go.Proofs.YtfcgofffalmdfaaGreatDoor.PA
namespace Go.Proofs.YtfcgofffalmdfaaGreatDoor.PA
open Go Go.Eng Go.Proofs
theorem HF.back {H0 Hc H1 : AHeap} {T : Nat} {fs fs' : List (Nat × AObj)} {p : Nat} (h0 : HF H0 [] T fs Hc) (h1 : HF Hc [p] Hc.next fs' H1) (hp : H0.next ≤ p) (he : fs'.map (·.1) = fs.map (·.1)) : HF H0 [] T fs' H1 where
  obj := h1.obj
  lt := fun q hq => by
    have : q.1 ∈ fs.map (·.1) := by rw [← he]; exact List.mem_map_of_mem hq
    obtain ⟨q', hq', e⟩ := List.mem_map.1 this
    have := h0.lt q' hq'
    omega
  nd := h1.nd
  base := h0.base
  le := Nat.le_trans h0.le (Nat.le_trans h1.base h1.le)
  fr := fun k hk hm => (h1.fr k (by have := h0.base; have := h0.le; omega) (by simp only [List.mem_singleton]; omega)).trans (h0.fr k hk hm)
theorem HF.here {H0 H : AHeap} {T : Nat} {fs : List (Nat × AObj)} {mod : List Nat} (m : List Nat) (h : HF H0 mod T fs H) : HF H m H.next fs H :=
  ⟨h.obj, fun p hp => Nat.lt_of_lt_of_le (h.lt p hp) h.le, h.nd, Nat.le_refl _, Nat.le_refl _, fun _ _ _ => rfl⟩
section
variable {cf : CF} {n m : Nat} {H0 H H' : AHeap} {T : Nat} {fs : List (Nat × AObj)} {l : KL0} {R : KL0 → AHeap → Prop} {r : List XOper} {x y : XO}
theorem WKO.apF {d1 d2 d3 bytes p : Nat} {z0 c1 u val : AV} {cs : List AV} {pX : XO} (hF : HF H0 [] T ((p, .cells [c1, u] none) :: fs) H) (hR : RowE 1 H u m cs) (ho : ∀ q, u.own = some q → H0.next ≤ q ∧ q ∉ p :: fs.map (·.1)) (hp0 : H0.next ≤ p) (hb : bytes ≤ 2 ^ 16) (hm : H'.m = H.m) (hn : H.next ≤ n) (hlt : n < H'.next) (hl : m < 1000000)
    (hy : evK l y = some val) (hc : val.cells = [val]) (hov : val.oneCell = true) (hx : evK ((d1, .sl n 0 1 1) :: l) x = some u) (hpx : ∀ v', evK ((d2, v') :: (d1, .sl n 0 1 1) :: l) pX = some (.ptr p 0))
    (hst : ∀ v', evK ((d3, .ptr p (0 + 1)) :: (d2, v') :: (d1, .sl n 0 1 1) :: l) (.t d2) = some v')
    (k : ∀ v' H1, HF H0 [] T ((p, .cells [c1, v'] none) :: fs) H1 → RowE 1 H1 v' (m + 1) (cs ++ [val]) → (∀ q, v'.own = some q → H0.next ≤ q ∧ q ∉ p :: fs.map (·.1)) → H'.next ≤ H1.next → WKO cf r (n + 1 + 1 + 1 + 1) ((d3, .ptr p (0 + 1)) :: (d2, v') :: (d1, .sl n 0 1 1) :: l) H1 R) :
    WKO cf (⟨some d1, .bslice [z0] [(0, 1, y)] 1, none⟩ :: ⟨some d2, .app 1 bytes x (.t d1), none⟩ :: ⟨some d3, .faddr 1 pX, none⟩ :: ⟨none, .store 1 (.t d3) (.t d2), none⟩ :: r) n l H' R := by
  have hR' : RowE 1 H' u m cs := hR.frame (by omega) (fun i _ => bump_get hm i)
  have hb0 := hF.base
  have hle := hF.le
  have hown : ∀ q, u.own = some q → q < H.next := fun q hq => hR.own_lt hq
  refine WKO.append1E (m := m) (v := u) (cs := cs) (new := [val]) hR' hx ?_ (by simp [allSm, XOp.opnds, hy]) (by omega) (by omega) hb rfl (by simp [hov]) hlt (fun e => by have := hown n e; omega) (fun v' H1 q1 q2 q3 q4 => ?_)
  · simp only [evParts, hy, bind, Option.bind_some, fillA, hc]
    simp
  · have hF1 : HF H0 [] T ((p, .cells [c1, u] none) :: fs) H1 := (hF.up hm (by omega)).call (H' := H1) (mod' := n :: ownL u) (fun q h1 h2 => by
        simp only [List.mem_cons, not_or] at h2
        exact q3 q h1 h2.1 (fun e => h2.2 (mem_ownL.2 e))) q2 (fun q hq => .inr (by
        rcases List.mem_cons.1 hq with e | e
        · omega
        · exact (ho q (mem_ownL.1 e)).1)) (fun q hq => by
        have hqT := hF.lt q hq
        intro hmem
        rcases List.mem_cons.1 hmem with e | e
        · omega
        · have := (ho _ (mem_ownL.1 e)).2
          apply this
          rcases List.mem_cons.1 hq with e2 | e2
          · rw [e2]; exact .head _
          · exact .tail _ (List.mem_map_of_mem e2))
    have hv1 : v'.oneCell = true := (show RowE 1 H1 v' (m + 1) (cs ++ [val]) from .inl q1).one
    refine WKO.op (k_faddr (hpx v')) (by simp [allSm, XOp.opnds, hpx v']) ?_
    refine WKO.c0 (c := [c1, u]) (show evK _ (.t d3) = some (.ptr p (0 + 1)) from by simp [evK, Go.Eng.look]) (hst v') hv1 (HF.here [p] hF1) rfl (Nat.le_refl _) (.inl (.head _)) (by simp) ?_
    intro H2 hF2 hn2
    have hpT := hF.lt _ (.head _)
    simp only at hpT
    have hown' : ∀ q, v'.own = some q → H0.next ≤ q ∧ q ∉ p :: fs.map (·.1) := fun q hq => by
      rcases q4 q hq with e | e
      · exact ho q e
      · refine ⟨by omega, fun hmem => ?_⟩
        have : q < T := by
          rcases List.mem_cons.1 hmem with e2 | e2
          · omega
          · obtain ⟨q', hq', e3⟩ := List.mem_map.1 e2
            have := hF.lt q' (.tail _ hq')
            omega
        omega
    refine k v' H2 (HF.back hF1 hF2 hp0 (by simp)) ((show RowE 1 H1 v' (m + 1) (cs ++ [val]) from .inl q1).frame (Nat.le_trans hF2.base hF2.le) (fun q hq => hF2.fr q (by
      have := (show RowE 1 H1 v' (m + 1) (cs ++ [val]) from .inl q1).own_lt hq
      exact this) (by
      have := (hown' q hq).2
      simp only [List.mem_cons, not_or] at this
      simp only [List.mem_singleton]
      exact this.1))) hown' (by omega)
end
end Go.Proofs.YtfcgofffalmdfaaGreatDoor.PA
namespace Go.Proofs.YtfcgofffalmdfaaGreatDoor.PA
open Go Go.Eng Go.Proofs
section
variable {cf : CF} {n a c m : Nat} {z : Int} {H : AHeap} {l : KL0} {x y : XO}
theorem k_sidL (hx : evK l x = some (.str (decS m))) (hy : evK l y = some (nA a)) (h : a < (decL m).length) : XV cf l H n (.sidx x y) = some (bA ((decL m).getD a 0), H) := by
  obtain ⟨h1, h2, _⟩ := decS_get h
  have := k_sidx (cf := cf) (H := H) (n := n) hx hy (by rw [decS_length]; exact h)
  rw [this, List.getD_eq_getElem?_getD, h1]
  simp only [Option.getD_some]
  rw [h2]
theorem k_slenL (hx : evK l x = some (.str (decS m))) : XV cf l H n (.slen x) = some (nA (decL m).length, H) := by
  have := k_slen (cf := cf) (H := H) (n := n) hx
  rw [decS_length] at this
  exact this
theorem k_lt48 (hx : evK l x = some (bA c)) (h : 48 ≤ c) : XV cf l H n (.bin .lss x (.k (.int .u8 (.ofNat 48)))) = some (.bool false, H) :=
  k_bin hx rfl (by
    show some (AV.bool (decide ((c : Int) < ((48 : Nat) : Int)))) = _
    rw [decide_eq_false (by omega)])
theorem k_gt57 (hx : evK l x = some (bA c)) (h : c < 58) : XV cf l H n (.bin .gtr x (.k (.int .u8 (.ofNat 57)))) = some (.bool false, H) :=
  k_bin hx rfl (by
    show some (AV.bool (decide ((c : Int) > ((57 : Nat) : Int)))) = _
    rw [decide_eq_false (by omega)])
theorem k_sub48 (hx : evK l x = some (bA c)) (h : 48 ≤ c) (h2 : c < 256) : XV cf l H n (.bin .sub x (.k (.int .u8 (.ofNat 48)))) = some (bA (c - 48), H) :=
  k_bin hx rfl (by
    show some (AV.int .u8 (wrapA .u8 ((c : Int) - ((48 : Nat) : Int)))) = _
    have : wrapA .u8 ((c : Int) - ((48 : Nat) : Int)) = ((c - 48 : Nat) : Int) := by
      simp only [wrapA, IntKind.wrap, IntKind.bits, IntKind.signed]
      simp
      omega
    rw [this]
    rfl)
theorem k_sub4 (hx : evK l x = some (nA a)) (h : a < 1000000000) : XV cf l H n (.bin .sub x (.k (.int .i64 (.ofNat 4)))) = some (zA ((a : Int) - 4), H) :=
  k_bin hx rfl (by
    show some (AV.int .i64 (wrapA .i64 ((a : Int) - ((4 : Nat) : Int)))) = _
    rw [wrapI _ (by omega) (by omega)]
    rfl)
theorem k_mx4 (hy : evK l y = some (zA ((a : Int) - 4))) : XV cf l H n (.mx [.k (.int .i64 (.ofNat 0)), y]) = some (nA (a - 4), H) := by
  rw [k_mxZ (a := 0) (b := (a : Int) - 4) rfl hy]
  congr 2
  unfold nA
  congr 1
  split <;> omega
theorem k_gtrP (hx : evK l x = some (nA a)) (h : 0 < a) : XV cf l H n (.bin .gtr x (.k (.int .i64 (.ofNat 0)))) = some (.bool true, H) :=
  k_bin hx rfl (by
    show some (AV.bool (decide ((a : Int) > Int.ofNat 0))) = _
    rw [decide_eq_true (by show (0 : Int) < a; omega)])
theorem k_gtrN0 (hx : evK l x = some (zA z)) (h : z ≤ 0) : XV cf l H n (.bin .gtr x (.k (.int .i64 (.ofNat 0)))) = some (.bool false, H) :=
  k_bin hx rfl (by
    show some (AV.bool (decide (z > Int.ofNat 0))) = _
    rw [decide_eq_false (by show ¬ (0 : Int) < z; omega)])
theorem k_mul10 (hx : evK l x = some (nA a)) (h : a < 1000000) : XV cf l H n (.bin .mul (.k (.int .i64 (.ofNat 10))) x) = some (nA (10 * a), H) := k_mulN (a := 10) rfl hx (by omega)
end
theorem resK_ob2 {l : KL0} {H : AHeap} {t t2 i n : Nat} {c : List AV} {opn : Option Nat} {v : AV} (hl : Go.Eng.look l t = some (.ptr i 0)) (hg : H.get i = some (.cells c opn)) (hc : c.length = n) (h2 : Go.Eng.look l t2 = some v) : resK l H [.c t (some n), .t t2] = some [.agg c, v] := by
  simp only [resK, resK1, hl, h2, Option.bind_some, loadA, cellsAt, hg, List.drop_zero]
  rw [if_pos (by omega), List.take_of_length_le (by omega)]
  rfl
theorem head_len (n : Nat) (h : (decL n).getD 0 0 = 48) : (decL n).length = 1 := by
  by_cases h0 : n = 0
  · rw [h0]; rfl
  · exact absurd h (decL_head h0)
set_option maxHeartbeats 4000000 in
theorem digits_walk {n : Nat} (hl : (decL n).length ≤ 1000) : ∃ v H', xfunc (xcallK Kno F 3000 1) 3000 L107 [.str (decS n)] ⟨.e, 0⟩ = some (v, H') ∧ ∃ u, v = .tup [.agg [.bool false, u], .bool true] ∧ RowE 1 H' u (dz n).length ((dz n).map nA) := by
  refine xfunc_ofK rfl (by show 1 ≤ 69; omega) ?_
  have hF := HF.start ⟨.e, 0⟩
  generalize (⟨.e, 0⟩ : AHeap) = H at hF ⊢
  have hpos := decL_pos n
  have hL := decL_dig n
  have hget : ∀ i, i < (decL n).length → 48 ≤ (decL n).getD i 0 ∧ (decL n).getD i 0 < 58 := fun i hi => (decS_get hi).2.2
  have hhd := head_len n
  have h00 := hget 0 hpos
  unfold L107
  dsimp only
  refine WK.cut (α := Unit) (fun _ => [(0, .str (decS n)), (2, .ptr H.next 0), (3, .bool false)]) (fun _ H' => ∃ T, HF H [] T [(H.next, .cells [.bool false, .nils] none)] H') ?_ ?_
  · repeat' (first | (apply WK.reg; (· exact lnn)) | (apply WKO.alO; (· assumption); (· rfl); (· exact nxx); (· exact nxx); (· exact nxx); intro _ _ _) | refine WKO.nil ?_ | ((first | apply WKO.op); (· first | exact k_mv rfl); (· rfl)) | refine pN ?_ | fail)
    rename_i H1 hF1 hn1
    exact ⟨(), (.cons rfl <| .cons rfl <| .cons rfl <| .nil _), _, hF1⟩
  rintro ⟨⟩ H1 ⟨T1, hF1⟩
  have hb1 := hF1.base
  have hle1 := hF1.le
  clear hF
  refine WK.cut (α := Unit) (fun _ => [(0, .str (decS n)), (2, .ptr H.next 0), (3, .bool false)]) (fun _ H' => ∃ T, HF H [] T [(H.next, .cells [.bool false, .nils] none)] H') ?_ ?_
  · repeat' (first | refine WK.seq ?_ | refine WK.skip ?_ | (apply WK.reg; (· exact lnn)) | refine WKO.nil ?_ | ((first | apply WKO.op | ((first | apply WKO.gop); (· rfl); (· exact dcd))); (· first | exact k_mv rfl | exact k_slenL rfl | exact k_sidL rfl rfl (by omega) | exact k_eq8 rfl | exact opA); (· rfl)) | ((first | apply WKO.gnoT); (· rfl); (· exact dcd)) | ((first | apply WKO.gsp); (· rfl); all_goals ((fail_if_success (refine known ?_ ?_; (· assumption))); intro _)) | refine pN ?_ | (apply WK.condF; (· rfl); (· exact dcd)) | fail)
    all_goals first
      | (exfalso; have := hhd (by assumption); omega)
      | exact ⟨(), (.cons rfl <| .cons rfl <| .cons rfl <| .nil _), T1, hF1.up rfl (by simp only [next_bump]; omega)⟩
  rintro ⟨⟩ H2 ⟨T2, hF2⟩
  have hb2 := hF2.base
  have hle2 := hF2.le
  clear hF1
  repeat' (first | refine WK.seq ?_ | refine WK.block ?_ | (apply WK.reg; (· exact lnn)) | ((apply WKO.p0; (· rfl); (· rfl); (· rfl); (· rfl); (· assumption); (· rfl); (· exact nxx); (· exact .inr (by omega)); intro _ _ _)) | (apply WKO.alO; (· assumption); (· rfl); (· exact nxx); (· exact nxx); (· exact nxx); intro _ _ _) | refine WKO.nil ?_ | ((first | apply WKO.op); (· first | exact k_mv rfl | exact k_slenL rfl | exact opA); (· rfl)) | refine pN ?_ | fail)
  rename_i H3 hF3 hn3 H4 hF4 hn4
  generalize hp4 : H2.next + 1 = p4 at hF3 hF4 ⊢
  have hp4a : H.next < p4 := by omega
  clear hF2 hF3
  refine WK.loop (α := Nat × Int × List Nat × AV) (fun s => [(0, .str (decS n)), (2, .ptr H.next 0), (3, .bool false), (4, .ptr p4 0), (5, zA s.2.1)])
    (fun s H' => (∃ T, HF H [] T [(p4, .cells [.bool false, s.2.2.2] none), (H.next, .cells [.bool false, .nils] none)] H') ∧ RowE 1 H' s.2.2.2 s.2.2.1.length (s.2.2.1.map nA) ∧ (∀ q, s.2.2.2.own = some q → H.next ≤ q ∧ q ∉ p4 :: [H.next]) ∧ ReadZ (decL n) n s.1 s.2.2.1 ∧ (0 < s.1 → s.2.1 = s.1) ∧ (s.1 = 0 → s.2.1 ≤ 0)) (fun s => s.1) ((decL n).length, ((decL n).length : Int), [], .nils) (.cons rfl <| .cons rfl <| .cons rfl <| .cons rfl <| .cons rfl <| .nil _)
    ⟨⟨_, hF4.up rfl (by simp only [next_bump]; omega)⟩, .inl ⟨rfl, .inl ⟨rfl, rfl⟩⟩, fun q hq => by simp [AV.own] at hq, ⟨by rw [List.take_length, decV_L]; simp [valZ], digZ_nil, by simp⟩, fun _ => rfl, fun h => by simp only at h; omega⟩ (by show (decL n).length < 3000; omega) ?_
  rintro ⟨at_, z, o, u⟩ H5 ⟨⟨T5, hF5⟩, hR, ho, hZ, hz1, hz0⟩
  simp only at hF5 hR ho hZ hz1 hz0 ⊢
  have hb5 := hF5.base
  have hle5 := hF5.le
  have hal := hZ.l
  clear hF4
  by_cases h0 : 0 < at_
  · have ez : zA z = nA at_ := by rw [hz1 h0]; rfl
    rw [ez]
    repeat' (first | refine WK.seq ?_ | refine WK.skip ?_ | refine WK.block ?_ | (apply WK.reg; (· exact lnn)) | refine WKO.nil ?_ | ((first | apply WKO.op); (· first | exact k_mv rfl | exact k_gtrP rfl h0 | exact k_sub4 rfl (by omega) | exact k_mx4 rfl); (· rfl)) | refine pN ?_ | (apply WK.condT; (· rfl); (· exact dcd)) | fail)
    refine WK.loop (α := Nat) (fun j => [(0, .str (decS n)), (2, .ptr H.next 0), (3, .bool false), (4, .ptr p4 0), (5, nA at_), (6, nA (decV (grp (decL n) (at_ - 4) j))), (7, nA j)]) (fun j H' => H'.m = H5.m ∧ H5.next ≤ H'.next ∧ at_ - 4 ≤ j ∧ j ≤ at_) (fun j => at_ - j) (at_ - 4) ?_ ⟨rfl, by simp only [next_bump]; omega, Nat.le_refl _, by omega⟩ (by show at_ - (at_ - 4) < 3000; omega) ?_
    · exact .cons rfl <| .cons rfl <| .cons rfl <| .cons rfl <| .cons rfl <| .cons (by rw [grp_nil]; rfl) <| .cons rfl <| .nil _
    rintro j H6 ⟨m6, n6, hj1, hj2⟩
    have hd := grp_lt hL (i := at_ - 4) (j := j) hj1 (by omega)
    have hnx : j < at_ → decV (grp (decL n) (at_ - 4) (j + 1)) = 10 * decV (grp (decL n) (at_ - 4) j) + ((decL n).getD j 0 - 48) := fun h => grp_next hj1 (by omega)
    have hgj : j < at_ → 48 ≤ (decL n).getD j 0 ∧ (decL n).getD j 0 < 58 := fun h => hget j (by omega)
    repeat' (first | refine WK.seq ?_ | refine WK.skip ?_ | refine WK.exit ?_ | refine WK.block ?_ | (apply WK.reg; (· exact lnn)) | refine WKO.nil ?_ | ((first | apply WKO.op | ((first | apply WKO.gop); (· rfl); (· exact dcd))); (· first | exact k_mv rfl | exact k_sidL rfl rfl (by omega) | exact k_lt48 rfl (hgj (by omega)).1 | exact k_gt57 rfl (hgj (by omega)).2 | exact k_mul10 rfl (by omega) | exact k_sub48 rfl (hgj (by omega)).1 (by omega) | exact k_of8 rfl (by omega) | exact k_addN rfl rfl (by omega) | exact opA); (· rfl)) | refine pN ?_ | refine pX ?_ | refine bN ?_ | refine bX ?_ | (apply WK.condF; (· rfl); (· exact dcd)) | (apply WK.condD; (· rfl); all_goals intro _) | fail)
    · refine ⟨j + 1, ?_, ⟨m6, by simp only [next_bump]; omega, by omega, by omega⟩, by omega⟩
      exact .cons rfl <| .cons rfl <| .cons rfl <| .cons rfl <| .cons rfl <| .cons (by rw [hnx (by assumption)]; rfl) <| .cons rfl <| .nil _
    · have hj : j = at_ := by omega
      subst hj
      have hF6 := hF5.up m6 n6
      have hR6 := hR.frame n6 (fun q _ => bump_get m6 q)
      repeat' (first | ((first | apply WKO.op); (· first | exact k_mv rfl | exact k_faddr rfl | (apply k_ldO; (· rfl); (· exact hF6); (· rfl); (· exact .head _); (· rfl))); (· rfl)) | fail)
      refine WKO.apF (H0 := H) hF6 hR6 ho (by omega) (by decide) rfl (by simp only [next_bump]; omega) (by simp only [next_bump]; omega) (by omega) rfl rfl rfl rfl (fun _ => rfl) (fun _ => rfl) ?_
      intro v7 H7 hF7 hR7 ho7 hn7
      repeat' (first | (apply WK.reg; (· exact lnn)) | refine WKO.nil ?_ | ((first | apply WKO.op); (· first | exact k_mv rfl | exact k_sub4 rfl (by omega)); (· rfl)) | refine pN ?_ | refine bN ?_ | fail)
      refine ⟨(j - 4, (j : Int) - 4, o ++ [_], v7), (.cons rfl <| .cons rfl <| .cons rfl <| .cons rfl <| .cons rfl <| .nil _), ⟨⟨T5, hF7.up rfl (by simp only [next_bump]; omega)⟩, ?_, ho7, hZ.next hL h0, fun h => by simp only at h ⊢; omega, fun h => by simp only at h ⊢; omega⟩, by show j - 4 < j; omega⟩
      have hR8 : RowE 1 H7 v7 (o ++ [decV (grp (decL n) (j - 4) j)]).length ((o ++ [decV (grp (decL n) (j - 4) j)]).map nA) := by simpa using hR7
      exact hR8.frame (by simp only [next_bump]; omega) (fun _ _ => rfl)
  · have hat : at_ = 0 := by omega
    subst hat
    have hvo := hZ.done
    repeat' (first | refine WK.seq ?_ | refine WK.exit ?_ | (apply WK.reg; (· exact lnn)) | refine WKO.nil ?_ | ((first | apply WKO.op); (· first | exact k_mv rfl | exact k_gtrN0 rfl (hz0 rfl)); (· rfl)) | refine pN ?_ | refine pX ?_ | refine bX ?_ | (apply WK.condF; (· rfl); (· exact dcd)) | fail)
    refine ⟨fun _ => ?_, fun q => absurd rfl q⟩
    repeat' (first | refine WK.seq ?_ | (apply WK.reg; (· exact lnn)) | ((first | apply WKO.op); (· first | (apply k_ldA; (· rfl); (· exact hF5); (· rfl); (· exact .head _); (· rfl))); (· rfl)) | fail)
    refine WKO.callV rfl rfl rfl (show ∃ v H', xcallK Kno F 3000 1 83 [.agg [.bool false, u]] (((H5.bump 2).bump 4)) = some (v, H') ∧ _ from by
      obtain ⟨v, H', q1, q2⟩ := lean_ok (cf := xcallK Kno F 3000 0) (fuel := 3000) (H := (H5.bump 2).bump 4) (X := u) (d := o) (.inr (.inr (hR.frame (by simp only [next_bump]; omega) (fun _ _ => rfl)))) hZ.d (by omega) (by omega)
      exact ⟨v, H', (cfstep rfl rfl).trans q1, q2⟩) ?_
    rintro v H7 ⟨w, rfl, hR7, hfr, hn7, hown⟩
    have ho7 := hR7.one
    simp only [next_bump] at hfr hn7 hown
    have hpT := hF5.lt (H.next, _) (.tail _ (.head _))
    simp only at hpT
    have hF7 : HF H7 [H.next] H7.next [(H.next, .cells [.bool false, .nils] none)] H7 := HF.add ⟨fun p hp => (by cases hp), fun p hp => (by cases hp), by simp, Nat.le_refl _, Nat.le_refl _, fun _ _ _ => rfl⟩ ((hfr _ (by omega)).trans (hF5.obj (H.next, _) (.tail _ (.head _)))) (by omega) (by simp)
    clear hF5
    repeat' (first | refine WK.ret ?_ | (apply WKO.p0; (· rfl); (· rfl); (· first | rfl); (· first | assumption); (· assumption); (· rfl); (· exact nxx); (· first | exact .inl (by simp)); intro _ _ _) | refine WKO.nil ?_ | ((first | apply WKO.op); (· first | exact k_mv rfl); (· rfl)) | refine pN ?_ | fail)
    rename_i H9 hF9 hn9
    rw [hvo] at hR7
    exact ⟨fun id q => (by cases q), _, resK_ob2 rfl (hF9.obj _ (.head _)) rfl rfl, w, rfl, hR7.frame (Nat.le_trans hF9.base hF9.le) (fun q hq => hF9.fr q (hR7.own_lt hq) (by have := hown q hq; simp only [List.mem_singleton]; omega))⟩
theorem Z_fz {H : AHeap} {u : AV} {n : Nat} (hR : RowE 1 H u (dz n).length ((dz n).map nA)) : Fz H ⟨.e, 0⟩ (fun _ => False) (.agg [.bool false, u]) (zN n) :=
  .agg rfl (fun j x y hx hy => by
    match j, hx, hy with
    | 0, hx, hy => cases hx; cases hy; exact .bool _
    | 1, hx, hy => cases hx; cases hy; exact rowZ_fz hR (fun i _ => get_e0 i))
theorem decS_inj {m n : Nat} (h : decS m = decS n) : m = n := by
  have e : ∀ n, (decS n).map UInt8.toNat = decL n := fun n => by
    rw [decS, List.map_map]
    refine (List.map_congr_left (g := id) fun x hx => ?_).trans (List.map_id _)
    have := decL_dig n x hx
    show (UInt8.ofNat x).toNat = x
    rw [UInt8.toNat_ofNat']
    omega
  rw [← decV_L m, ← decV_L n, ← e m, ← e n, h]
theorem E107 {n : Nat} (hl : (decL n).length ≤ 1000) (H : AHeap) : KE 107 [.str (decS n)] H = some (.tup [zN n, .bool true], H) := by
  obtain ⟨v, H', h, u, rfl, hR⟩ := digits_walk hl
  have hc := (xfunc_sound mixed (xcallK_sound mixed Kno_ok F_ok 3000 1) 3000 (F_ok 107 L107 rfl) h).pure (H := H) (v' := .tup [zN n, .bool true]) rfl (.tup rfl (fun j x y hx hy => by
    match j, hx, hy with
    | 0, hx, hy => cases hx; cases hy; exact Z_fz hR
    | 1, hx, hy => cases hx; cases hy; exact .bool _))
  obtain ⟨v', q1, q2⟩ := KE_hit hc (fun n' e => by
    simp only [List.cons.injEq, AV.str.injEq, and_true] at e
    rw [decS_inj e])
  rw [q1, q2 n rfl]
end Go.Proofs.YtfcgofffalmdfaaGreatDoor.PA
namespace Go.Proofs.YtfcgofffalmdfaaGreatDoor.PA
open Go Go.Eng Go.Proofs
set_option maxHeartbeats 4000000 in
theorem intZ_walk {n : Nat} (hn : n < 4611686018427387905) : ∃ v H', xfunc (xcallK Kno F 3000 1) 3000 L52 [nA n] ⟨.e, 0⟩ = some (v, H') ∧ ∃ u, v = .agg [.bool false, u] ∧ RowE 1 H' u (dz n).length ((dz n).map nA) := by
  refine xfunc_ofK rfl (by show 1 ≤ 25; omega) ?_
  have hF := HF.start ⟨.e, 0⟩
  generalize (⟨.e, 0⟩ : AHeap) = H at hF ⊢
  have hdl : (dz n).length ≤ 5 := dz_len 5 n (by show n < 10000 ^ 5; omega)
  have hb0 : decide (n < 0) = false := decide_eq_false (Nat.not_lt_zero n)
  unfold L52
  dsimp only
  repeat' (first | refine WK.seq ?_ | refine WK.block ?_ | (apply WK.reg; (· exact lnn)) | (apply WKO.p0; (· rfl); (· rfl); (· first | rfl); (· first | rfl); (· assumption); (· rfl); (· exact nxx); (· first | exact .inr nxx); intro _ _ _) | (apply WKO.alO; (· assumption); (· rfl); (· exact nxx); (· exact nxx); (· exact nxx); intro _ _ _) | refine WKO.nil ?_ | ((first | apply WKO.op); (· first | exact k_mv rfl | exact opA); (· rfl)) | refine pN ?_ | fail)
  rename_i H1 hF1 hn1 H2 hF2 hn2 H3 hF3 hn3
  generalize hp3 : H1.next + 1 + 1 + 1 = p3 at hF2 hF3 ⊢
  have hp3a : H.next < p3 := by simp only [next_bump] at *; omega
  refine WK.loop (α := Nat × List Nat × AV) (fun s => [(0, nA s.1), (2, .ptr H.next 0), (3, .ptr p3 0)])
    (fun s H' => (∃ T, HF H [] T [(p3, .cells [.bool false, s.2.2] none), (H.next, .cells [.bool false, .nils] none)] H') ∧ RowE 1 H' s.2.2 s.2.1.length (s.2.1.map nA) ∧ (∀ q, s.2.2.own = some q → H.next ≤ q ∧ q ∉ p3 :: [H.next]) ∧ s.2.1 ++ dz s.1 = dz n ∧ s.1 ≤ n) (fun s => (dz s.1).length) (n, [], .nils) (.cons rfl <| .cons rfl <| .cons rfl <| .nil _)
    ⟨⟨_, by rw [hb0] at hF3; exact hF3⟩, .inl ⟨rfl, .inl ⟨rfl, rfl⟩⟩, fun q hq => by simp [AV.own] at hq, rfl, Nat.le_refl _⟩ (by show (dz n).length < 3000; omega) ?_
  rintro ⟨m, o, u⟩ H5 ⟨⟨T5, hF5⟩, hR, ho, hd, hm⟩
  simp only at hF5 hR ho hd hm ⊢
  have hb5 := hF5.base
  have hle5 := hF5.le
  have hol : o.length ≤ 5 := by
    have := congrArg List.length hd
    rw [List.length_append] at this
    omega
  clear hF hF1 hF2 hF3
  repeat' (first | refine WK.seq ?_ | refine WK.skip ?_ | refine WK.exit ?_ | refine WK.block ?_ | (apply WK.reg; (· exact lnn)) | refine WKO.nil ?_ | ((first | apply WKO.op); (· first | exact k_mv rfl | exact k_remN rfl rfl (by decide) | exact k_faddr rfl | (apply k_ldO; (· rfl); (· exact hF5); (· rfl); (· exact .head _); (· rfl)) | exact opA); (· rfl)) | refine pN ?_ | refine pX ?_ | refine bX ?_ | (apply WK.condF; (· rfl); (· exact dcd)) | (apply WK.condD; (· rfl); all_goals intro _) | fail)
  · refine WKO.apF (H0 := H) (hF5.up (H' := _) rfl nxx) (hR.frame (H' := _) nxx (fun q _ => rfl)) ho (by omega) (by decide) rfl (by simp only [next_bump]; omega) (by simp only [next_bump]; omega) (by omega) rfl rfl rfl rfl (fun _ => rfl) (fun _ => rfl) ?_
    intro v7 H7 hF7 hR7 ho7 hn7
    repeat' (first | (apply WK.reg; (· exact lnn)) | refine WKO.nil ?_ | ((first | apply WKO.op); (· first | exact k_mv rfl | exact k_quoN rfl rfl (by decide) (by omega)); (· rfl)) | refine pN ?_ | refine bN ?_ | fail)
    have hm0 : m ≠ 0 := by assumption
    refine ⟨(m / 10000, o ++ [m % 10000], v7), (.cons rfl <| .cons rfl <| .cons rfl <| .nil _), ⟨⟨T5, hF7.up rfl (by simp only [next_bump]; omega)⟩, ?_, ho7, ?_, by show m / 10000 ≤ n; omega⟩, ?_⟩
    · have hR8 : RowE 1 H7 v7 (o ++ [m % 10000]).length ((o ++ [m % 10000]).map nA) := by simpa using hR7
      exact hR8.frame (by simp only [next_bump]; omega) (fun _ _ => rfl)
    · show (o ++ [m % 10000]) ++ dz (m / 10000) = dz n
      rw [← hd, dz_pos hm0, List.append_assoc]
      rfl
    · show (dz (m / 10000)).length < (dz m).length
      rw [dz_pos hm0, List.length_cons]
      exact Nat.lt_succ_self _
  · refine ⟨fun _ => ?_, fun q => absurd rfl q⟩
    have hm0 : m = 0 := by omega
    subst hm0
    rw [dz_zero, List.append_nil] at hd
    subst hd
    repeat' (first | refine WK.seq ?_ | (apply WK.reg; (· exact lnn)) | ((first | apply WKO.op); (· first | (apply k_ldA; (· rfl); (· exact hF5); (· rfl); (· exact .head _); (· rfl))); (· rfl)) | fail)
    have hou := hR.one
    have hF6 := HF.here [H.next] (hF5.sub (gs := [(H.next, .cells [.bool false, .nils] none)]) (.cons _ (.refl _)) (Nat.le_refl _) hF5.le)
    refine WKO.p0 rfl rfl rfl hou hF6 rfl nxx (.inl (.head _)) ?_
    intro H9 hF9 hn9
    repeat' (first | refine WK.ret ?_ | refine WKO.nil ?_ | refine pN ?_ | fail)
    exact ⟨fun id q => (by cases q), _, resK_obj rfl (hF9.obj _ (.head _)) rfl, u, rfl, hR.frame (Nat.le_trans hF9.base hF9.le) (fun q hq => hF9.fr q (hR.own_lt hq) (by have := (ho q hq).2; simp only [List.mem_cons, not_or] at this; simp only [List.mem_singleton]; exact this.2.1))⟩
theorem E52 {n : Nat} (hn : n < 4611686018427387905) (H : AHeap) : KE 52 [nA n] H = some (zN n, H) := by
  obtain ⟨v, H', h, u, rfl, hR⟩ := intZ_walk hn
  have hc := (xfunc_sound mixed (xcallK_sound mixed Kno_ok F_ok 3000 1) 3000 (F_ok 52 L52 rfl) h).pure (H := H) rfl (Z_fz hR)
  obtain ⟨v', q1, q2⟩ := KE_hit hc (fun n' e => by
    simp only [List.cons.injEq, and_true] at e
    rw [nA_inj e])
  rw [q1, q2 n rfl]
theorem k_scAll {cf : CF} {n a : Nat} {H : AHeap} {l : KL0} {x y : XO} {s : List UInt8} (hx : evK l x = some (.str s)) (hy : evK l y = some (nA a)) (h : a = s.length) : XV cf l H n (.scut x none (some y)) = some (.str s, H) := by
  rw [k_scT hx hy (by omega), h, List.take_length]
set_option maxHeartbeats 4000000 in
theorem parse_walk {n : Nat} (hl : (decL n).length ≤ 1000) : ∃ v H', xfunc (xcallK KE F 3000 0) 3000 L70 [.str (decS n)] ⟨.e, 0⟩ = some (v, H') ∧ v = .tup [qN n, .bool true] := by
  refine xfunc_ofK rfl (by show 1 ≤ 98; omega) ?_
  have hF := HF.start ⟨.e, 0⟩
  generalize (⟨.e, 0⟩ : AHeap) = H at hF ⊢
  have hpos := decL_pos n
  have hsl := decS_length n
  have hget : ∀ i, i < (decL n).length → 48 ≤ (decL n).getD i 0 ∧ (decL n).getD i 0 < 58 := fun i hi => (decS_get hi).2.2
  have h00 := hget 0 hpos
  unfold L70
  dsimp only
  repeat' (first | refine WK.seq ?_ | refine WK.skip ?_ | refine WK.block ?_ | (apply WK.reg; (· exact lnn)) | (apply WKO.alO; (· assumption); (· rfl); (· exact nxx); (· exact nxx); (· exact nxx); intro _ _ _) | refine WKO.nil ?_ | ((first | apply WKO.op | ((first | apply WKO.gop); (· rfl); (· exact dcd))); (· first | exact k_mv rfl | exact k_slenL rfl | exact k_sidL rfl rfl (by omega) | exact k_eq8 rfl | exact k_subM rfl (by omega) | exact opA); (· rfl)) | refine pN ?_ | (apply WK.condF; (· rfl); (· exact dcd)) | fail)
  rename_i H1 hF1 hn1
  refine WK.loop (α := Nat) (fun i => [(2, .ptr H.next 0), (3, .bool false), (4, .str (decS n)), (5, .bool false), (6, nA (decL n).length), (7, zA ((i : Int) - 1))])
    (fun i H' => (∃ T, HF H [] T [(H.next, .cells [.bool false, .nils, .bool false, .nils] none)] H') ∧ i ≤ (decL n).length) (fun i => i) (decL n).length (.cons rfl <| .cons rfl <| .cons rfl <| .cons rfl <| .cons rfl <| .cons rfl <| .nil _) ⟨⟨_, hF1.up rfl (by simp only [next_bump]; omega)⟩, Nat.le_refl _⟩ (by show (decL n).length < 3000; omega) ?_
  rintro i H3 ⟨⟨T3, hF3⟩, hi⟩
  clear hF hF1
  have hle3 := hF3.le
  have hb3 := hF3.base
  cases i with
  | zero =>
    repeat' (first | refine WK.seq ?_ | refine WK.skip ?_ | refine WK.ret ?_ | refine WK.exit ?_ | (apply WK.reg; (· exact lnn)) | (apply WKO.alO; (· assumption); (· rfl); (· exact nxx); (· exact nxx); (· exact nxx); intro _ _ _) | (apply WKO.stO0; (· rfl); (· rfl); (· assumption); (· rfl); (· exact nxx); (· first | exact .inr nxx); (· rfl); (· rfl); (· first | decide); intro _ _ _) | (apply WKO.stO2; (· rfl); (· rfl); (· assumption); (· rfl); (· exact nxx); (· first | exact .inr nxx); (· rfl); (· rfl); (· first | decide); intro _ _ _) | refine WKO.nil ?_ | ((first | apply WKO.op | ((first | apply WKO.gop); (· rfl); (· exact dcd))); (· first | exact k_mv rfl | exact k_geqM rfl | exact k_slenL rfl | exact k_scAll rfl rfl (by omega) | (apply k_call; (· rfl); (· rfl); (· exact cfhit (E107 hl _))) | (apply k_call; (· rfl); (· rfl); (· exact cfhit (E52 (n := 1) (by decide) _))) | (apply k_ldA; (· rfl); (· assumption); (· rfl); (· exact mmb); (· first | rfl)) | exact opA); (· rfl)) | ((first | apply WKO.gnoT); (· rfl); (· exact dcd)) | refine pN ?_ | refine pX ?_ | refine bX ?_ | (apply WK.condF; (· rfl); (· exact dcd)) | fail)
    rename_i H9 hF9 hn9
    exact ⟨fun id q => (by cases q), _, resK_ob2 rfl (hF9.obj _ (.tail _ (.tail _ (.head _)))) rfl rfl, rfl⟩
  | succ k =>
    have hk := hget k (by omega)
    rw [zA_nat]
    repeat' (first | refine WK.seq ?_ | refine WK.skip ?_ | refine WK.block ?_ | (apply WK.reg; (· exact lnn)) | refine WKO.nil ?_ | ((first | apply WKO.op); (· first | exact k_mv rfl | exact k_geqT rfl | exact k_sidL rfl rfl (by omega) | exact k_eq8 rfl | exact k_subM rfl (by omega)); (· rfl)) | refine pN ?_ | refine bN ?_ | (apply WK.condT; (· rfl); (· exact dcd)) | (apply WK.condF; (· rfl); (· exact dcd)) | fail)
    exact ⟨k, (.cons rfl <| .cons rfl <| .cons rfl <| .cons rfl <| .cons rfl <| .cons rfl <| .nil _), ⟨⟨T3, hF3.up rfl (by simp only [next_bump]; omega)⟩, by omega⟩, by omega⟩
theorem qN_froz (n : Nat) : (qN n).froz = true := by simp only [qN, AV.froz, AV.frozL, rowZ_froz, Bool.and_self]
theorem qN_inj {m n : Nat} (h : qN m = qN n) : m = n := by
  simp only [qN, AV.agg.injEq, List.cons.injEq, true_and, and_true] at h
  exact dz_inj (rowZ_inj h)
theorem E70 {n : Nat} (hl : (decL n).length ≤ 1000) (H : AHeap) : KE 70 [.str (decS n)] H = some (.tup [qN n, .bool true], H) := by
  obtain ⟨v, H', h, rfl⟩ := parse_walk hl
  have hc := (xfunc_sound mixed (xcallK_sound mixed KE_ok F_ok 3000 0) 3000 (F_ok 70 L70 rfl) h).pure (H := H) rfl (Fz.froz (by simp only [AV.froz, AV.frozL, rowZ_froz, Bool.and_self]))
  obtain ⟨v', q1, q2⟩ := KE_hit hc (fun n' e => by
    simp only [List.cons.injEq, AV.str.injEq, and_true] at e
    rw [decS_inj e])
  rw [q1, q2 n rfl]
end Go.Proofs.YtfcgofffalmdfaaGreatDoor.PA
namespace Go.Proofs.YtfcgofffalmdfaaGreatDoor.PA
open Go Go.Eng Go.Proofs
theorem k_ldC {cf : CF} {n : Nat} {H0 H H' : AHeap} {mod : List Nat} {T : Nat} {fs : List (Nat × AObj)} {l : KL0} {x : XO} {i p m : Nat} {c d : List AV} {opn : Option Nat} (hx : evK l x = some (.ptr i p)) (hF : HF H0 mod T fs H) (hm : H'.m = H.m) (ho : (i, .cells c opn) ∈ fs) (hc : p + m ≤ c.length) (e : (c.drop p).take m = d) : XV cf l H' n (.load (some m) x) = some (.agg d, H') := by
  have hg : H'.get i = some (.cells c opn) := by unfold AHeap.get; rw [hm]; exact hF.obj _ ho
  have := op_loadn (cf := cf) (m := n) (n := m) (i := i) (o := p) (ev := evK l) (x := x) hx hg (by omega)
  rw [e] at this
  exact k_any this
theorem valid_walk {n : Nat} (hl : (decL n).length ≤ 1000) : ∃ v H', xfunc (xcallK KE F 3000 0) 3000 L27 [.str (decS n)] ⟨.e, 0⟩ = some (v, H') ∧ v = .bool true := by
  refine xfunc_ofK rfl (by show 1 ≤ 11; omega) ?_
  have hF := HF.start ⟨.e, 0⟩
  generalize (⟨.e, 0⟩ : AHeap) = H at hF ⊢
  unfold L27
  dsimp only
  repeat' (first | refine WK.seq ?_ | refine WK.ret ?_ | (apply WK.reg; (· exact lnn)) | (apply WKO.alO; (· assumption); (· rfl); (· exact nxx); (· exact nxx); (· exact nxx); intro _ _ _) | (apply WKO.stO0; (· rfl); (· rfl); (· assumption); (· rfl); (· exact nxx); (· first | exact .inr nxx); (· rfl); (· rfl); (· first | decide); intro _ _ _) | refine WKO.nil ?_ | ((first | apply WKO.op); (· first | exact k_mv rfl | (apply k_call; (· rfl); (· rfl); (· exact cfhit (E70 hl _))) | exact opA); (· rfl)) | refine pN ?_ | fail)
  exact ⟨fun id q => (by cases q), _, rfl, rfl⟩
theorem E27 {n : Nat} (hl : (decL n).length ≤ 1000) (H : AHeap) : KE 27 [.str (decS n)] H = some (.bool true, H) := by
  obtain ⟨v, H', h, rfl⟩ := valid_walk hl
  have hc := (xfunc_sound mixed (xcallK_sound mixed KE_ok F_ok 3000 0) 3000 (F_ok 27 L27 rfl) h).pure (H := H) rfl (.bool _)
  obtain ⟨v', q1, q2⟩ := KE_hit hc (fun n' e => rfl)
  rw [q1, q2 n rfl]
theorem of_walk {n : Nat} (hl : (decL n).length ≤ 1000) : ∃ v H', xfunc (xcallK KE F 3000 0) 3000 L29 [.str (decS n)] ⟨.e, 0⟩ = some (v, H') ∧ v = qN n := by
  refine xfunc_ofK rfl (by show 1 ≤ 11; omega) ?_
  have hF := HF.start ⟨.e, 0⟩
  generalize (⟨.e, 0⟩ : AHeap) = H at hF ⊢
  unfold L29
  dsimp only
  repeat' (first | refine WK.seq ?_ | refine WK.ret ?_ | (apply WK.reg; (· exact lnn)) | (apply WKO.alO; (· assumption); (· rfl); (· exact nxx); (· exact nxx); (· exact nxx); intro _ _ _) | (apply WKO.stO0; (· rfl); (· rfl); (· assumption); (· rfl); (· exact nxx); (· first | exact .inr nxx); (· rfl); (· rfl); (· first | decide); intro _ _ _) | (apply WKO.stO1; (· rfl); (· rfl); (· assumption); (· rfl); (· exact nxx); (· first | exact .inr nxx); (· rfl); (· rfl); (· first | decide); intro _ _ _) | refine WKO.nil ?_ | ((first | apply WKO.op); (· first | exact k_mv rfl | (apply k_call; (· rfl); (· rfl); (· exact cfhit (E70 hl _))) | (apply k_ldA; (· rfl); (· assumption); (· rfl); (· exact mmb); (· first | rfl)) | exact opA); (· rfl)) | refine pN ?_ | fail)
  rename_i H1 hF1 hn1 H2 hF2 hn2 H3 hF3 hn3 H4 hF4 hn4
  exact ⟨fun id q => (by cases q), _, resK_obj rfl (hF4.obj _ (.tail _ (.head _))) rfl, rfl⟩
theorem E29 {n : Nat} (hl : (decL n).length ≤ 1000) (H : AHeap) : KE 29 [.str (decS n)] H = some (qN n, H) := by
  obtain ⟨v, H', h, rfl⟩ := of_walk hl
  have hc := (xfunc_sound mixed (xcallK_sound mixed KE_ok F_ok 3000 0) 3000 (F_ok 29 L29 rfl) h).pure (H := H) rfl (Fz.froz (qN_froz _))
  obtain ⟨v', q1, q2⟩ := KE_hit hc (fun n' e => by
    simp only [List.cons.injEq, AV.str.injEq, and_true] at e
    rw [decS_inj e])
  rw [q1, q2 n rfl]
theorem dz_one : dz 1 = [1] := by rw [dz_pos (by decide), show 1 / BZ = 0 by decide, dz_zero]; rfl
theorem cmpq_walk {m n : Nat} (hm : (dz m).length < 300) (hnm : n ≤ m) : ∃ v H', xfunc (xcallK KE F 3000 0) 3000 L28 [qN m, qN n] ⟨.e, 0⟩ = some (v, H') ∧ v = nA (min (m - n) 1) := by
  refine xfunc_ofK rfl (by show 2 ≤ 16; omega) ?_
  have hF := HF.start ⟨.e, 0⟩
  generalize (⟨.e, 0⟩ : AHeap) = H at hF ⊢
  have hn := dz_mono hnm
  have h1 : (dz 1).length < 400 := by rw [dz_one]; decide
  have c1 : ∀ H, KE 72 [zN m, zN 1] H = some (zN m, H) := fun H => by rw [E72 (by omega) h1, Nat.mul_one]
  have c2 : ∀ H, KE 72 [zN n, zN 1] H = some (zN n, H) := fun H => by rw [E72 (by omega) h1, Nat.mul_one]
  unfold L28
  dsimp only
  repeat' (first | refine WK.seq ?_ | refine WK.ret ?_ | (apply WK.reg; (· exact lnn)) | (apply WK.regC; (· rfl); (· exact lnn); (· decide)) | (apply WKO.boxO; (· rfl); (· assumption); (· rfl); (· exact nxx); (· exact nxx); (· exact nxx); intro _ _ _) | refine WKC.nil ?_ | refine WKO.nil ?_ | ((first | apply WKC.op | apply WKO.op); (· first | exact k_mv rfl | (apply k_ldC; (· rfl); (· assumption); (· rfl); (· exact mmb); (· exact Nat.le_of_ble_eq_true rfl); (· rfl)) | (apply k_call; (· rfl); (· rfl); (· exact cfhit (c1 _))) | (apply k_call; (· rfl); (· rfl); (· exact cfhit (c2 _))) | (apply k_call; (· rfl); (· rfl); (· exact cfhit (E71 (by omega) hnm _))) | exact k_faddr rfl); (· rfl)) | refine pN ?_ | fail)
  exact ⟨fun id q => (by cases q), _, rfl, rfl⟩
theorem E28 {m n : Nat} (hm : (dz m).length < 300) (hnm : n ≤ m) (H : AHeap) : KE 28 [qN m, qN n] H = some (nA (min (m - n) 1), H) := by
  obtain ⟨v, H', h, rfl⟩ := cmpq_walk hm hnm
  have hc := (xfunc_sound mixed (xcallK_sound mixed KE_ok F_ok 3000 0) 3000 (F_ok 28 L28 rfl) h).pure (H := H) (by simp only [AV.frozL, qN_froz, Bool.and_self]) (Fz.froz rfl)
  obtain ⟨v', q1, q2⟩ := KE_hit hc (fun m' n' e => by
    simp only [List.cons.injEq, and_true] at e
    rw [qN_inj e.1, qN_inj e.2])
  rw [q1, q2 m n rfl]
theorem fN_froz (m n : Nat) : (fN m n).froz = true := by simp only [fN, AV.froz, AV.frozL, rowZ_froz, Bool.and_self]
theorem fN_inj {m n p q : Nat} (h : fN m n = fN p q) : m = p ∧ n = q := by
  simp only [fN, AV.agg.injEq, List.cons.injEq, true_and, and_true] at h
  exact ⟨dz_inj (rowZ_inj h.1), dz_inj (rowZ_inj h.2)⟩
theorem mulq_walk {m n p q : Nat} (hm : (dz m).length < 400) (hn : (dz n).length < 400) (hp : (dz p).length < 400) (hq : (dz q).length < 400) : ∃ v H', xfunc (xcallK KE F 3000 0) 3000 L30 [fN m n, fN p q] ⟨.e, 0⟩ = some (v, H') ∧ v = fN (m * p) (n * q) := by
  refine xfunc_ofK rfl (by show 2 ≤ 16; omega) ?_
  have hF := HF.start ⟨.e, 0⟩
  generalize (⟨.e, 0⟩ : AHeap) = H at hF ⊢
  unfold L30
  dsimp only
  repeat' (first | refine WK.seq ?_ | (apply WK.reg; (· exact lnn)) | (apply WKO.boxO; (· rfl); (· assumption); (· rfl); (· exact nxx); (· exact nxx); (· exact nxx); intro _ _ _) | (apply WKO.alO; (· assumption); (· rfl); (· exact nxx); (· exact nxx); (· exact nxx); intro _ _ _) | refine WKO.nil ?_ | refine pN ?_ | fail)
  rename_i H1 hF1 hn1 H2 hF2 hn2 H3 hF3 hn3
  refine WK.regC1 11 rfl rfl rfl ?_
  dsimp only [List.take_succ_cons, List.take_zero]
  repeat' (first | refine WK.ret ?_ | (apply WKO.stO0; (· rfl); (· rfl); (· assumption); (· rfl); (· exact nxx); (· first | exact .inr nxx); (· rfl); (· rfl); (· first | decide); intro _ _ _) | refine WKC.nil ?_ | refine WKO.nil ?_ | ((first | apply WKC.op); (· first | (apply k_ldC; (· rfl); (· assumption); (· rfl); (· exact mmb); (· exact Nat.le_of_ble_eq_true rfl); (· rfl)) | (apply k_call; (· rfl); (· rfl); (· first | exact cfhit (E72 hm hp _) | exact cfhit (E72 hn hq _))) | exact k_faddr rfl | exact opA); (· rfl)) | refine pN ?_ | fail)
  rename_i H9 hF9 hn9
  exact ⟨fun id q => (by cases q), _, resK_obj rfl (hF9.obj _ (.head _)) rfl, rfl⟩
theorem E30f {m n p q : Nat} (hm : (dz m).length < 400) (hn : (dz n).length < 400) (hp : (dz p).length < 400) (hq : (dz q).length < 400) (H : AHeap) : KE 30 [fN m n, fN p q] H = some (fN (m * p) (n * q), H) := by
  obtain ⟨v, H', h, rfl⟩ := mulq_walk hm hn hp hq
  have hc := (xfunc_sound mixed (xcallK_sound mixed KE_ok F_ok 3000 0) 3000 (F_ok 30 L30 rfl) h).pure (H := H) (by simp only [AV.frozL, fN_froz, Bool.and_self]) (Fz.froz (fN_froz _ _))
  obtain ⟨v', q1, q2⟩ := KE_hit hc (fun m' n' p' q' e => by
    simp only [List.cons.injEq, and_true] at e
    rw [(fN_inj e.1).1, (fN_inj e.1).2, (fN_inj e.2).1, (fN_inj e.2).2])
  rw [q1, q2 m n p q rfl]
theorem E30 {m n : Nat} (hm : (dz m).length < 400) (hn : (dz n).length < 400) (H : AHeap) : KE 30 [qN m, qN n] H = some (qN (m * n), H) := by
  have h1 : (dz 1).length < 400 := by rw [dz_one]; decide
  exact E30f hm h1 hn h1 H
def Kor (A B : CF) : CF := fun f args H => match A f args H with
  | some r => some r
  | none => B f args H
theorem Kor_ok {P : Program} {A B : CF} (hA : CFok P A) (hB : CFok P B) : CFok P (Kor A B) := by
  intro f args H v H' h
  unfold Kor at h
  split at h
  · rename_i r q
    cases h
    exact hA _ _ _ _ _ q
  · exact hB _ _ _ _ _ h
theorem Kor_l {A B : CF} {f : Nat} {args : List AV} {H : AHeap} {r : AV × AHeap} (h : A f args H = some r) : Kor A B f args H = some r := by
  unfold Kor
  rw [h]
theorem Kor_r {A B : CF} {f : Nat} {args : List AV} {H : AHeap} {r : AV × AHeap} (h0 : A f args H = none) (h : B f args H = some r) : Kor A B f args H = some r := by
  unfold Kor
  rw [h0, h]
end Go.Proofs.YtfcgofffalmdfaaGreatDoor.PA
namespace Go.Proofs.YtfcgofffalmdfaaGreatDoor.PA
open Go Go.Eng Go.Proofs
theorem decL_big {n : Nat} (h : n < bigN) : (decL n).length ≤ 200 := by
  unfold decL
  split
  · decide
  · rw [List.length_reverse]
    exact decR_len 200 n (big200 h)
theorem dz_big {n : Nat} (h : n < bigN) : (dz n).length < 60 := by
  have := dz_len 55 n (by
    rw [bigN_def] at h
    exact Nat.lt_of_lt_of_le h (by show 4294967296 ^ 20 ≤ 10000 ^ 55; decide))
  omega
noncomputable def KH : CF := fun f args H => match f, args with
  | 25, [.str s, P, .int .i64 gap] => (rdP H P).map fun l => (.tup [nA (MostV s l gap).1, .int .i64 (MostV s l gap).2], H)
  | 26, [.str s, P, .int .i64 gap] => (rdP H P).map fun l => (.tup [.str (AllV s l gap).1, .int .i64 (AllV s l gap).2], H)
  | _, _ => none
theorem KH_ok : CFok Tryz.prog KH := by
  intro f args H v H' h
  unfold KH at h
  split at h
  · obtain ⟨l, h1, h2⟩ := Option.map_eq_some_iff.1 h
    cases h2
    obtain ⟨H1, h3⟩ := Most_call _ l _
    exact frame0 h3 rfl (fun E w us hR hv => three_args (rdP_some h1) rfl hR hv)
  · obtain ⟨l, h1, h2⟩ := Option.map_eq_some_iff.1 h
    cases h2
    exact frame0 (All_call _ l _ ⟨.e, 0⟩) rfl (fun E w us hR hv => three_args (rdP_some h1) rfl hR hv)
  · cases h
def Still (K : CF) : Prop := ∀ f args H v H', K f args H = some (v, H') → H' = H
theorem Still.clean {K : CF} (h : Still K) : CleanCF K := fun f args H v H' q => by rw [h _ _ _ _ _ q]; exact CleanTo.refl H
theorem Kor_still {A B : CF} (hA : Still A) (hB : Still B) : Still (Kor A B) := by
  intro f args H v H' h
  unfold Kor at h
  split at h
  · rename_i r q
    cases h
    exact hA _ _ _ _ _ q
  · exact hB _ _ _ _ _ h
theorem KH_still : Still KH := by
  intro f args H v H' h
  unfold KH at h
  split at h
  · obtain ⟨l, h1, h2⟩ := Option.map_eq_some_iff.1 h
    cases h2
    rfl
  · obtain ⟨l, h1, h2⟩ := Option.map_eq_some_iff.1 h
    cases h2
    rfl
  · cases h
theorem KE_still : Still KE := by
  intro f args H v H' h
  unfold KE at h
  split at h
  · cases h; rfl
  · cases h
theorem KR_still : Still KR := by
  intro f args H v H' h
  unfold KR at h
  split at h
  · split at h
    · split at h
      · cases h; rfl
      · cases h
    · cases h
  · split at h
    · cases h; rfl
    · obtain ⟨l, h1, h2⟩ := Option.map_eq_some_iff.1 h
      cases h2; rfl
    · obtain ⟨l, h1, h2⟩ := Option.map_eq_some_iff.1 h
      cases h2; rfl
    · obtain ⟨l, h1, h2⟩ := Option.map_eq_some_iff.1 h
      cases h2; rfl
    · cases h
theorem KH_none {f : Nat} {args : List AV} {H : AHeap} (h16 : f ≠ 25) (h22 : f ≠ 26) : KH f args H = none := by
  unfold KH
  split
  · exact absurd rfl h16
  · exact absurd rfl h22
  · rfl
theorem rdP_imm (H : AHeap) (l : List (Int × Int)) : rdP H (pairsI l) = none := by
  unfold rdP
  rw [dif_neg]
  rintro ⟨m, ⟨_, ⟨h, _⟩ | ⟨i, full, h, _⟩⟩ | ⟨_, _, i, h, _⟩⟩ <;> cases h
theorem KH_imm {f : Nat} {s : List UInt8} {l : List (Int × Int)} {gap : Int} {H : AHeap} : KH f [.str s, pairsI l, .int .i64 gap] H = none := by
  unfold KH
  split
  · rename_i e
    simp only [List.cons.injEq, and_true] at e
    rw [← e.2.1, rdP_imm]
    rfl
  · rename_i e
    simp only [List.cons.injEq, and_true] at e
    rw [← e.2.1, rdP_imm]
    rfl
  · rfl
noncomputable def KT : CF := Kor KH (Kor KR KE)
theorem KT_ok : CFok Tryz.prog KT := Kor_ok KH_ok (Kor_ok KR_ok KE_ok)
theorem KT_still : Still KT := Kor_still KH_still (Kor_still KR_still KE_still)
theorem KT_R {f : Nat} {args : List AV} {H : AHeap} {r : AV × AHeap} (h0 : KH f args H = none) (h : KR f args H = some r) : KT f args H = some r := Kor_r h0 (Kor_l h)
theorem KT_E {f : Nat} {args : List AV} {H : AHeap} {r : AV × AHeap} (h : KE f args H = some r) (h15 : f ≠ 24) (h9 : f ≠ 16) (h16 : f ≠ 25) (h19 : f ≠ 31) (h22 : f ≠ 26) : KT f args H = some r := Kor_r (KH_none h16 h22) (Kor_r (KR_none h15 h9 h16 h19 h22) h)
section
variable {H : AHeap} {s : List UInt8} {P : AV} {l : List (Int × Int)} {gap : Int}
theorem KT_most (h : readE s l gap = 0) : KT 25 [.str s, pairsI l, .int .i64 gap] H = some (.tup [nA (mostF s (rulesOf l) gap 0 s.length), .int .i64 0], H) := KT_R KH_imm (KR_16 s H h)
theorem KT_all (h : readE s l gap = 0) : KT 26 [.str s, pairsI l, .int .i64 gap] H = some (.tup [.str (decS (szF s (rulesOf l) gap 0 s.length).sum), .int .i64 0], H) := KT_R KH_imm (KR_22 s H h)
theorem KT_mostH (hR : RowE 2 H P l.length (encPairs l)) (h : readE s l gap = 0) : KT 25 [.str s, P, .int .i64 gap] H = some (.tup [nA (mostF s (rulesOf l) gap 0 s.length), .int .i64 0], H) := Kor_l (by
  show (rdP H P).map _ = _
  rw [rdP_eq hR, Option.map_some]
  unfold MostV
  simp only [h, if_true])
theorem KT_allH (hR : RowE 2 H P l.length (encPairs l)) (h : readE s l gap = 0) : KT 26 [.str s, P, .int .i64 gap] H = some (.tup [.str (decS (szF s (rulesOf l) gap 0 s.length).sum), .int .i64 0], H) := Kor_l (by
  show (rdP H P).map _ = _
  rw [rdP_eq hR, Option.map_some]
  unfold AllV
  simp only [h, if_true])
theorem KT_lives : KT 16 [] H = some (.bool true, H) := KT_R (KH_none (by decide) (by decide)) (KR_9 H)
theorem KT_valid {n : Nat} (h : n < bigN) : KT 27 [.str (decS n)] H = some (.bool true, H) := KT_E (E27 (by have := decL_big h; omega) H) (by decide) (by decide) (by decide) (by decide) (by decide)
theorem KT_of {n : Nat} (h : n < bigN) : KT 29 [.str (decS n)] H = some (qN n, H) := KT_E (E29 (by have := decL_big h; omega) H) (by decide) (by decide) (by decide) (by decide) (by decide)
theorem KT_cmp {m n : Nat} (hm : m < bigN) (h : n ≤ m) : KT 28 [qN m, qN n] H = some (nA (min (m - n) 1), H) := KT_E (E28 (by have := dz_big hm; omega) h H) (by decide) (by decide) (by decide) (by decide) (by decide)
end
theorem readE_more {s : List UInt8} {l : List (Int × Int)} {gap : Int} (h : readE s l gap = 0) (hl : l.length ≤ 10) {a b : Nat} (ha : a < 4) (hb : b < 4) : readE s (l ++ [((a : Int), (b : Int))]) gap = 0 := by
  obtain ⟨h1, h2, h3, h4, h5⟩ := readE_zero h
  unfold readE
  rw [if_neg (by simp; omega), if_neg (by
    rw [List.any_append, h3]
    simp [badP]
    omega), if_neg (by omega)]
  have e : s.all inS = true := h2
  rw [if_pos e]
theorem readE_gap {s : List UInt8} {l : List (Int × Int)} {gap gap' : Int} (h : readE s l gap = 0) (hl : l.length ≤ 16) (h1 : 0 ≤ gap') (h2 : gap' ≤ gap) : readE s l gap' = 0 := by
  obtain ⟨q1, q2, q3, q4, q5⟩ := readE_zero h
  unfold readE
  rw [if_neg (by omega), if_neg (by rw [q3]; decide), if_neg (by omega)]
  have e : s.all inS = true := q2
  rw [if_pos e]
theorem szF_big {s : List UInt8} {l : List (Int × Int)} {gap : Int} (h : readE s l gap = 0) : (szF s (rulesOf l) gap 0 s.length).sum < bigN := (szF_le s _ gap (readE_zero h).1).2
theorem k_rem4N {cf : CF} {n a : Nat} {H : AHeap} {l : KL0} {x : XO} (hx : evK l x = some (nA a)) : XV cf l H n (.bin .rem x (.k (.int .i64 (.ofNat 4)))) = some (nA (a % 4), H) := k_remN (b := 4) hx rfl (by decide)
theorem encPairs_app (a b : List (Int × Int)) : encPairs (a ++ b) = encPairs a ++ encPairs b := by simp [encPairs]
theorem encPairs_len (l : List (Int × Int)) : (encPairs l).length = l.length * 2 := by
  induction l with
  | nil => rfl
  | cons p l ih => simp [encPairs] at ih ⊢; omega
theorem encPairs_ones (l : List (Int × Int)) : (encPairs l).all AV.oneCell = true := by
  induction l with
  | nil => rfl
  | cons p l ih => simp [encPairs, AV.oneCell] at ih ⊢
set_option maxHeartbeats 8000000 in
theorem x5 {P : Int} {g x0 x1 : Nat} {bs : List Nat} (hg : g < 256) (hbs : ∀ b ∈ bs, b < 256) (hx0 : x0 < 256) (hx1 : x1 < 256) :
    ∃ v H', xfunc (xcallK KT F 3000 0) 3000 L5 [.agg (cordA P g bs), .agg [bA x0, bA x1]] ⟨.e, 0⟩ = some (v, H') ∧ v = .bool true := by
  refine xfunc_ofK rfl (by show 2 ≤ 152; omega) ?_
  have hcc : CleanCF (xcallK KT F 3000 0) := xcallK_clean KT_still.clean 0
  have hF := HF.start ⟨.e, 0⟩
  have hcl : Go.Eng.Clean ⟨.e, 0⟩ := fun j _ => get_e0 j
  generalize (⟨.e, 0⟩ : AHeap) = H at hF hcl ⊢
  unfold L5
  dsimp only
  repeat' (first | refine WK.seqC (by assumption) ?_ | intro (_ : CleanTo _ _) | (apply WK.reg; (· exact lnn)) | (apply WKO.boxO; (· rfl); (· assumption); (· rfl); (· exact nxx); (· exact nxx); (· exact nxx); intro _ _ _) | refine WKO.nil ?_ | ((first | apply WKO.op); (· first | exact k_mv rfl | (apply k_ldA; (· rfl); (· assumption); (· rfl); (· exact mmb); (· first | rfl))); (· rfl)) | refine pN ?_ | fail)
  rename_i H0 hF0 hn0 H1 hF1 hn1 hc1
  have hC1 : Go.Eng.Clean H1 := hc1.1 hcl
  refine WKO.callV rfl rfl rfl (show ∃ v H', xcallK KT F 3000 0 24 [.agg (cordA P g bs), nA 40] (H1.bump 9) = some (v, H') ∧ ∃ (s : List UInt8) (l : List (Int × Int)) (gap : Int), v = .tup [.str s, pairsI l, .int .i64 gap] ∧ H' = (H1.bump 9) ∧ readE s l gap = 0 ∧ l.length ≤ 10 from by
    obtain ⟨s, l, gap, q1, q2, q3, q4, _⟩ := KR_15 (P := P) hg hbs (m := 40) (by omega) (H1.bump 9)
    exact ⟨_, _, cfhit (KT_R (KH_none (by decide) (by decide)) q1), s, l, gap, rfl, rfl, q2, q4⟩) ?_
  rintro v2 H2 ⟨s, l, gap, rfl, rfl, hE, hl10⟩
  obtain ⟨hsl, hs2, hb2, hg0, hg5⟩ := readE_zero hE
  have ha4 : x0 % 4 < 4 := Nat.mod_lt _ (by decide)
  have hb4 : x1 % 4 < 4 := Nat.mod_lt _ (by decide)
  have hEm := readE_more hE hl10 ha4 hb4
  have hT1 := hF1.le
  have hB1 := hF1.base
  clear hF hF0
  repeat' (first | refine WK.seqC (by assumption) ?_ | intro (_ : CleanTo _ _) | refine WKO.nil ?_ | ((first | apply WKO.op); (· first | exact k_mv rfl | exact opA); (· rfl)) | refine pN ?_ | fail)
  rename_i hc2
  generalize hHB : H1.bump 9 = HB
  have hBm : HB.m = H1.m := by rw [← hHB]; rfl
  have hBn : HB.next = H1.next + 9 := by rw [← hHB]; rfl
  clear hHB hc2
  have hBg : ∀ k, (HB.bump 15).get k = H1.get k := fun k => (show HB.m.get k = _ by rw [hBm]; rfl)
  have g3 : H1.get (H.next + 1) = some (.cells [bA x0, bA x1] none) := hF1.obj _ (.head _)
  have l3 : H.next + 1 < H1.next := by omega
  refine WK.regT (k := 15) rfl ?_
  obtain ⟨Ha, hHa⟩ : ∃ Ha, (HB.bump 15).set HB.next (some (.cells [] none)) = Ha := ⟨_, rfl⟩
  have hna : Ha.next = HB.next + 15 := by rw [← hHa]; rfl
  have hga : ∀ k, k ≠ HB.next → Ha.get k = H1.get k := fun k hk => by rw [← hHa, AHeap.get_set, if_neg hk, hBg]
  have hNa : Ha.get HB.next = some (.cells [] none) := by rw [← hHa, AHeap.get_set, if_pos rfl]
  have hEa : RowE 2 Ha (.sl HB.next 0 0 0) 0 [] := .inr ⟨rfl, rfl, HB.next, rfl, by omega, hNa⟩
  obtain ⟨v3, H3, e3, R3, hn3, hg3', ho3⟩ := hEa.app0 (bytes := 16) (n := l.length) (y := pairsI l) (new := encPairs l) (by omega) (by omega) (by omega) rfl (by simp only [srcA, pairsI]; rw [if_pos (by rw [encPairs_len]; omega), List.take_of_length_le (by rw [encPairs_len]; omega)]) (encPairs_len l) (encPairs_ones l)
  rw [Nat.zero_add, List.nil_append] at R3
  have o3 : ∀ j, v3.own = some j → j = HB.next ∨ Ha.next ≤ j := fun j q => by
    rcases ho3 j q with q | q
    · cases q; exact .inl rfl
    · exact .inr q
  have h3g : ∀ j, j < Ha.next → j ≠ HB.next → H3.get j = Ha.get j := fun j q1 q2 => hg3' j q1 (fun q => by cases q; exact q2 rfl)
  refine WKT.op (v := .sl HB.next 0 0 0) (H1 := Ha) (by rw [← hHa]; exact k_bs0) rfl ?_
  repeat' (first | ((first | apply WKT.op); (· first | exact k_mv rfl); (· rfl)) | fail)
  refine WKT.op (v := v3) (H1 := H3) (k_app rfl rfl e3) rfl ?_
  have h3b : ∀ {H' : AHeap}, H'.m = H3.m → H'.get (H.next + 1) = some (.cells [bA x0, bA x1] none) := fun q => (show (_ : AHeap).m.get (H.next + 1) = _ by rw [q]; exact (h3g _ (by omega) (by omega)).trans ((hga _ (by omega)).trans g3))
  repeat' (first | ((first | apply WKT.op); (· first | exact k_aaP (j := 0) rfl rfl (by omega) | exact k_aaP (j := 1) rfl rfl (by omega) | (apply k_ldX; (· rfl); (· exact h3b rfl); (· rfl)) | exact k_of8 rfl (by omega) | exact k_rem4N rfl | exact opA); (· rfl)) | fail)
  obtain ⟨a, ha⟩ : ∃ a, x0 % 4 = a := ⟨_, rfl⟩
  obtain ⟨b, hb⟩ : ∃ b, x1 % 4 = b := ⟨_, rfl⟩
  rw [ha] at ha4 hEm ⊢
  rw [hb] at hb4 hEm ⊢
  obtain ⟨H4, hH4⟩ : ∃ H4, H3.set (HB.next + 12) (some (.cells [nA a, nA b] none)) = H4 := ⟨_, rfl⟩
  have hg4 : ∀ k, k ≠ HB.next + 12 → H4.get k = H3.get k := fun k hk => by rw [← hH4, AHeap.get_set, if_neg hk]
  have hn4 : H4.next = H3.next := by rw [← hH4]; rfl
  have hN4 : H4.get (HB.next + 12) = some (.cells [nA a, nA b] none) := by rw [← hH4, AHeap.get_set, if_pos rfl]
  refine WKT.op (v := .sl (HB.next + 12) 0 1 1) (H1 := H4) (by rw [← hH4]; exact k_bs2 rfl) rfl ?_
  have R4 : RowE 2 H4 v3 l.length (encPairs l) := R3.frame (by omega) (fun j q => hg4 j (by rcases o3 j q with q | q <;> omega))
  obtain ⟨v5, H5, e5, R5, hn5, hg5, ho5⟩ := R4.app (bytes := 16) (n := 1) (y := .sl (HB.next + 12) 0 1 1) (new := [nA a, nA b]) (by omega) (by omega) (by omega) (by omega) rfl (by simp only [srcA, hN4]; rfl) rfl rfl
  have R5' : RowE 2 H5 v5 (l ++ [((a : Int), (b : Int))]).length (encPairs (l ++ [((a : Int), (b : Int))])) := by
    rw [List.length_append, encPairs_app]
    exact .inl R5
  refine WKT.op (v := v5) (H1 := H5) (k_app rfl rfl e5) rfl ?_
  repeat' (first | refine WKT.nil ?_ | ((first | apply WKT.op); (· first | exact k_mv rfl); (· rfl)) | fail)
  have hless : ∀ (Hq : AHeap) (l : List Nat) (k : Nat), k < HB.next → ((Hq.less HB.next [0, 12]).less HB.next l).get k = Hq.get k := fun Hq l k hk => by rw [less_get (H := Hq) l _ (fun i _ => by omega), less_get (H := Hq) [0, 12] _ (fun i _ => by omega)]
  refine ⟨?_, ?_, (_, H5), rfl, ?_⟩
  · intro q hq
    have hq' : q = (4, [2], [0, 12]) ∨ q = (8, [2], [0, 12]) := by simpa using hq
    rcases hq' with rfl | rfl
    · refine ⟨_, _, _, _, bA x0, rfl, rfl, rfl, xop_ld rfl (h3b rfl) rfl, fun j hj => ?_⟩
      have hj' : j = 4 ∨ j = 2 ∨ j = 3 := by simpa using hj
      rcases hj' with rfl | rfl | rfl <;>
        exact ⟨_, rfl, xop_ld rfl ((hless _ _ _ (by omega)).trans (by first | exact h3b rfl | exact (hga _ (by omega)).trans g3)) rfl⟩
    · refine ⟨_, _, _, _, bA x1, rfl, rfl, rfl, xop_ld rfl (h3b rfl) rfl, fun j hj => ?_⟩
      have hj' : j = 8 ∨ j = 2 ∨ j = 3 := by simpa using hj
      rcases hj' with rfl | rfl | rfl <;>
        exact ⟨_, rfl, xop_ld rfl ((hless _ _ _ (by omega)).trans (by first | exact h3b rfl | exact (hga _ (by omega)).trans g3)) rfl⟩
  · intro j hj
    have hj' : j = 0 ∨ j = 12 := by simpa using hj
    rcases hj' with rfl | rfl
    · refine ⟨_, rfl, rfl, fun i hi => ?_⟩
      obtain rfl : i = 0 := by omega
      exact ⟨_, rfl, (hBg _).trans (hC1 _ (by omega))⟩
    · have hN : ∀ {Hq : AHeap}, Hq.m = H3.m → Hq.get (HB.next + 12) = none := fun q => (show (_ : AHeap).m.get (HB.next + 12) = _ by rw [q]; exact (h3g _ (by omega) (by omega)).trans ((hga _ (by omega)).trans (hC1 _ (by omega))))
      have hNa' : Ha.get (HB.next + 12) = none := (hga _ (by omega)).trans (hC1 _ (by omega))
      have hNb : (HB.bump 15).get (HB.next + 12) = none := (hBg _).trans (hC1 _ (by omega))
      refine ⟨_, rfl, rfl, fun i hi => ?_⟩
      have hi' : i = 0 ∨ i = 1 ∨ i = 2 ∨ i = 3 ∨ i = 4 ∨ i = 5 ∨ i = 6 ∨ i = 7 ∨ i = 8 ∨ i = 9 ∨ i = 10 ∨ i = 11 ∨ i = 12 := by omega
      rcases hi' with rfl | rfl | rfl | rfl | rfl | rfl | rfl | rfl | rfl | rfl | rfl | rfl | rfl <;> first | exact ⟨_, rfl, hN rfl⟩ | exact ⟨_, rfl, hNa'⟩ | exact ⟨_, rfl, hNb⟩
  clear hcc
  intro _
  refine ⟨fun _ => ?_, fun q => absurd rfl q⟩
  have m1 := most_mono (s := s) (rl := rulesOf l) (rl' := rulesOf (l ++ [((a : Int), (b : Int))])) (gap := gap) (gap' := gap) (fun i j h => mayF_more h) 0 s.length
  have hg' : 0 ≤ (if gap - 1 > 0 then gap - 1 else 0) ∧ (if gap - 1 > 0 then gap - 1 else 0) ≤ gap := by split <;> omega
  have hsub : ∀ {n : Nat} {Hq : AHeap} {K : KL0} {x : XO}, evK K x = some (.int .i64 gap) → XV (xcallK KT F 3000 0) K Hq n (.bin .sub x (.k (.int .i64 (.ofNat 1)))) = some (.int .i64 (gap - 1), Hq) := fun hx => k_bin hx rfl (by
    show some (AV.int .i64 (wrapA .i64 (gap - ((1 : Nat) : Int)))) = _
    rw [wrapI _ (by omega) (by omega)]
    rfl)
  have hmx : ∀ {n : Nat} {Hq : AHeap} {K : KL0} {x : XO}, evK K x = some (.int .i64 (gap - 1)) → XV (xcallK KT F 3000 0) K Hq n (.mx [.k (.int .i64 (.ofNat 0)), x]) = some (.int .i64 (if gap - 1 > 0 then gap - 1 else 0), Hq) := fun hx => k_mxZ (a := 0) rfl hx
  generalize (if gap - 1 > 0 then gap - 1 else 0) = gap' at hg' hmx
  have m2 := most_mono (s := s) (rl := rulesOf l) (rl' := rulesOf l) (gap := gap) (gap' := gap') (fun i j h => mayF_gap hg'.2 h) 0 s.length
  have hEg := readE_gap hE (by omega) hg'.1 hg'.2
  have z1 := szF_big hE
  have z2 := szF_big hEm
  have z3 := szF_big hEg
  have c1 : ∀ {H' : AHeap} {k : Nat}, xcallK KT F 3000 k 25 [.str s, pairsI l, .int .i64 gap] H' = _ := fun {H' k} => cfhit (KT_most hE)
  have c2 : ∀ {H' : AHeap} {k : Nat}, H'.m = H5.m → H5.next ≤ H'.next → xcallK KT F 3000 k 25 [.str s, v5, .int .i64 gap] H' = _ := fun {H' k} hm hn => cfhit (KT_mostH (R5'.frame hn (fun q _ => bump_get hm q)) hEm)
  have c3 : ∀ {H' : AHeap} {k : Nat}, xcallK KT F 3000 k 25 [.str s, pairsI l, .int .i64 gap'] H' = _ := fun {H' k} => cfhit (KT_most hEg)
  have c4 : ∀ {H' : AHeap} {k : Nat}, xcallK KT F 3000 k 26 [.str s, pairsI l, .int .i64 gap] H' = _ := fun {H' k} => cfhit (KT_all hE)
  have c5 : ∀ {H' : AHeap} {k : Nat}, H'.m = H5.m → H5.next ≤ H'.next → xcallK KT F 3000 k 26 [.str s, v5, .int .i64 gap] H' = _ := fun {H' k} hm hn => cfhit (KT_allH (R5'.frame hn (fun q _ => bump_get hm q)) hEm)
  have c6 : ∀ {H' : AHeap} {k : Nat}, xcallK KT F 3000 k 26 [.str s, pairsI l, .int .i64 gap'] H' = _ := fun {H' k} => cfhit (KT_all hEg)
  have c9 : ∀ {H' : AHeap} {k : Nat}, xcallK KT F 3000 k 16 [] H' = some (.bool true, H') := fun {H' k} => cfhit KT_lives
  generalize mostF s (rulesOf l) gap 0 s.length = M1 at *
  generalize mostF s (rulesOf (l ++ [((a : Int), (b : Int))])) gap 0 s.length = M2 at *
  generalize mostF s (rulesOf l) gap' 0 s.length = M3 at *
  generalize (szF s (rulesOf l) gap 0 s.length).sum = A1 at *
  generalize (szF s (rulesOf (l ++ [((a : Int), (b : Int))])) gap 0 s.length).sum = A2 at *
  generalize (szF s (rulesOf l) gap' 0 s.length).sum = A3 at *
  have d1 : ∀ {H' : AHeap} {k : Nat}, xcallK KT F 3000 k 27 [.str (decS A1)] H' = some (.bool true, H') := fun {H' k} => cfhit (KT_valid z1)
  have d2 : ∀ {H' : AHeap} {k : Nat}, xcallK KT F 3000 k 27 [.str (decS A2)] H' = some (.bool true, H') := fun {H' k} => cfhit (KT_valid z2)
  have d3 : ∀ {H' : AHeap} {k : Nat}, xcallK KT F 3000 k 27 [.str (decS A3)] H' = some (.bool true, H') := fun {H' k} => cfhit (KT_valid z3)
  have e1 : ∀ {H' : AHeap} {k : Nat}, xcallK KT F 3000 k 29 [.str (decS A1)] H' = some (qN A1, H') := fun {H' k} => cfhit (KT_of z1)
  have e2 : ∀ {H' : AHeap} {k : Nat}, xcallK KT F 3000 k 29 [.str (decS A2)] H' = some (qN A2, H') := fun {H' k} => cfhit (KT_of z2)
  have e3 : ∀ {H' : AHeap} {k : Nat}, xcallK KT F 3000 k 29 [.str (decS A3)] H' = some (qN A3, H') := fun {H' k} => cfhit (KT_of z3)
  have f1 : ∀ {H' : AHeap} {k : Nat}, xcallK KT F 3000 k 28 [qN A2, qN A1] H' = some (nA (min (A2 - A1) 1), H') := fun {H' k} => cfhit (KT_cmp z2 m1.2)
  have f2 : ∀ {H' : AHeap} {k : Nat}, xcallK KT F 3000 k 28 [qN A3, qN A1] H' = some (nA (min (A3 - A1) 1), H') := fun {H' k} => cfhit (KT_cmp z3 m2.2)
  repeat' (first | refine WK.seq ?_ | refine WK.skip ?_ | refine WK.ret ?_ | (apply WK.reg; (· exact lnn)) | refine WKO.nil ?_ | ((first | apply WKO.op | ((first | apply WKO.gop); (· rfl); (· exact dcd))); (· first | exact k_mv rfl | (apply k_call; (· rfl); (· rfl); (· exact c1)) | (apply k_call; (· rfl); (· rfl); (· exact c2 rfl (by simp only [next_bump]; omega))) | (apply k_call; (· rfl); (· rfl); (· exact c3)) | (apply k_call; (· rfl); (· rfl); (· exact c4)) | (apply k_call; (· rfl); (· rfl); (· exact c5 rfl (by simp only [next_bump]; omega))) | (apply k_call; (· rfl); (· rfl); (· exact c6)) | (apply k_call; (· rfl); (· rfl); (· exact c9)) | (apply k_call; (· rfl); (· rfl); (· first | exact d1 | exact d2 | exact d3 | exact e1 | exact e2 | exact e3 | exact f1 | exact f2)) | exact hsub rfl | exact hmx rfl | exact opA); (· rfl)) | refine pN ?_ | (apply WK.condF; (· rfl); (· exact dcd)) | fail)
  exact ⟨fun id q => (by cases q), [.bool (decide (min (A3 - A1) 1 ≥ 0))], rfl, by rw [decide_eq_true (Nat.zero_le _)]; rfl⟩
end Go.Proofs.YtfcgofffalmdfaaGreatDoor.PA
namespace Go.Proofs.YtfcgofffalmdfaaGreatDoor.PA
open Go Go.Eng Go.Proofs Go.RowKit Go.ChangeShapes Go.Deep
theorem u8_nat {n : Int} (h : (Lit.int .u8 n).wf = true) : ∃ m : Nat, n = (m : Int) ∧ m < 256 := by
  simp [Lit.wf, IntKind.min, IntKind.max, IntKind.signed, IntKind.bits] at h
  exact ⟨n.toNat, by omega, by omega⟩
theorem relL_bytes {E : Env} {w : World} : ∀ x : List Nat, AVRelL E w (x.map bA) (x.map fun p : Nat => Value.int .u8 (p : Int))
  | [] => by simp [AVRelL]
  | p :: x => by
    have := relL_bytes (E := E) (w := w) x
    simp only [List.map_cons, AVRelL, bA, AVRel] at this ⊢
    exact ⟨_, _, rfl, rfl, this⟩
section
variable {H : Type} {enc : TypeId × Value → H} {P : Program} {w : World} {base : Nat} {held : Bool}
theorem read_bytes {t e : TypeId} {v : Value} {d : DataW H} {ps : List MemPlace} (ht : P.underlying t = some (.slice e)) (he : P.underlying e = some (.int .u8)) (ce : P.cellsOf e = 1)
    {a0 : Option Addr} {len cap : Nat} (hv : v = .slice a0 len cap) (h : DataW.Trod enc P w base (fun _ => true) held t v d ps) :
    ∃ x : List Nat, (∀ p ∈ x, p < 256) ∧ AVRel (E0 w) w (.imm (x.map bA) x.length false) v := by
  subst hv
  obtain ⟨fuel, hf⟩ := h
  have hf' : DataW.trod enc P w base (fun _ => true) held fuel t [.slice a0 len cap] = some (d, ps) := hf
  rcases open_slice ht hf' with ⟨h0, _⟩ | ⟨a, len', cap', m, n, D, Pl, h0, hb, hl, hm, hmm, _, hx⟩
  · cases h0
    refine ⟨[], by simp, ?_⟩
    simp only [AVRel]
    exact .inl ⟨rfl, rfl, none, 0, rfl, by simp⟩
  · cases h0
    by_cases hz : len = 0
    · subst hz
      refine ⟨[], by simp, ?_⟩
      simp only [AVRel]
      exact .inl ⟨rfl, rfl, some a, cap, rfl, by simp⟩
    · have hmc : m = cap := by simpa using hmm
      obtain ⟨f, hfn⟩ := choose_lt (n := len) (p := fun i p => w.cell? (a.add i) = some (.int .u8 ((p : Nat) : Int)) ∧ p < 256) (fun i hi => by
        obtain ⟨cs', h1, h2⟩ := hx i (by omega)
        rw [ce] at h1
        obtain ⟨_, hlen, hcell⟩ := World.cells?_some h1
        have e0 := hcell 0 (by omega)
        obtain ⟨n0, e1, _, w0⟩ := DataW.trod_int he h2
        subst e1
        obtain ⟨p, rfl, q⟩ := u8_nat w0
        rw [add_add] at e0
        exact ⟨p, by simpa using e0, q⟩)
      have hs : a.spot = none := by
        have h0 := (hfn 0 (by omega)).1
        have h0' : w.cell? a = some (.int .u8 ((f 0 : Nat) : Int)) := by simpa [Addr.add] using h0
        unfold World.cell? at h0'
        split at h0'
        · split at h0'
          · cases h0'
          · rename_i q
            simpa using q
        · cases h0'
      obtain ⟨b, s, sp⟩ := a
      simp only at hs
      subst hs
      have hadd : ∀ j, (⟨b, s, none⟩ : Addr).add j = ⟨b, s + j, none⟩ := fun j => by
        unfold Addr.add
        split
        · rename_i q; subst q; rfl
        · rfl
      refine ⟨(List.range len).map f, fun p hp => ?_, ?_⟩
      · simp only [List.mem_map, List.mem_range] at hp
        obtain ⟨i, hi, rfl⟩ := hp
        exact (hfn i hi).2
      · simp only [AVRel, List.length_map, List.length_range]
        refine .inr ⟨b, s, cap, _, rfl, ?_, fun j u hu => ?_, relL_bytes _, by omega, by simp⟩
        · have h0 := (hfn 0 (by omega)).1
          rw [hadd] at h0
          exact World.block_lt_of_cell? _ _ h0
        · rw [List.getElem?_map, Option.map_eq_some_iff] at hu
          obtain ⟨p, h1, rfl⟩ := hu
          rw [List.getElem?_map, Option.map_eq_some_iff] at h1
          obtain ⟨i', h1, rfl⟩ := h1
          have hi' : j < len := by
            rcases Nat.lt_or_ge j len with q | q
            · exact q
            · rw [List.getElem?_eq_none (by simpa using q)] at h1; cases h1
          rw [List.getElem?_range hi'] at h1
          cases h1
          rw [← hadd]
          exact (hfn _ hi').1
end
theorem read_arr2 {H : Type} {enc : TypeId × Value → H} {P : Program} {w : World} {base : Nat} {held : Bool} {spare : Nat → Bool} {t e : TypeId} {v : Value} {d : DataW H} {ps : List MemPlace} {dm : Reach} {b2 : Nat} (ht : P.underlying t = some (.array 2 e)) (he : P.underlying e = some (.int .u8)) (ct : P.cellsOf t = 2) (ce : P.cellsOf e = 1)
    (hv : Value.okWide P w dm b2 t v) (h : DataW.Trod enc P w base spare held t v d ps) : ∃ a b : Nat, a < 256 ∧ b < 256 ∧ AVRel (E0 w) w (.agg [bA a, bA b]) v := by
  obtain ⟨cs, rfl⟩ : ∃ cs, v = .agg cs := by
    simp only [Value.okWide, ht] at hv
    obtain ⟨cs, h, _⟩ := hv
    exact ⟨cs, h⟩
  obtain ⟨fuel, hf⟩ := h
  obtain ⟨xs, m, _, _, hlen, hl, hel⟩ := DataW.trod_array ht hf
  rw [ct] at hlen
  have h0 := hel 0 (by omega)
  have h1 := hel 1 (by omega)
  rw [List.getElem?_eq_getElem (by omega)] at h0 h1
  rw [ce] at h0 h1
  obtain ⟨n0, e0, _, w0⟩ := DataW.trod_int he h0
  obtain ⟨n1, e1, _, w1⟩ := DataW.trod_int he h1
  obtain ⟨m0, rfl, l0⟩ := u8_nat w0
  obtain ⟨m1, rfl, l1⟩ := u8_nat w1
  refine ⟨m0, m1, l0, l1, ?_⟩
  have e : cs = #[.int .u8 (m0 : Int), .int .u8 (m1 : Int)] := by
    cases cs with
    | mk l =>
      simp only [Value.cells] at hlen e0 e1
      match l, hlen with
      | [a, b], _ =>
        simp at e0 e1
        rw [e0, e1]
  subst e
  simp only [AVRel, AVRelL, bA]
  exact ⟨_, rfl, _, _, rfl, rfl, _, _, rfl, rfl, rfl⟩
end Go.Proofs.YtfcgofffalmdfaaGreatDoor.PA
namespace Go.Proofs.YtfcgofffalmdfaaGreatDoor.ropeRules
open Go Go.ChangeShapes Go.WideShapes Go.ChangeAt Go.RowKit Go.Deep Go.Joins Go.Eng
theorem own : ownKnob Tryz.prog.godebug = none := by kernel_rfl
theorem laidOut : laidOutB Tryz.prog = true := by kernel_rfl
theorem call (w : World) {P : Int} {g : Nat} {bs : List Nat} (hg : g < 256) (hbs : ∀ b ∈ bs, b < 256) {x0 x1 : Nat} (hx0 : x0 < 256) (hx1 : x1 < 256) {v0 v1 : Value} (h0 : AVRel (E0 w) w (.agg (PA.cordA P g bs)) v0) (h1 : AVRel (E0 w) w (.agg [PA.bA x0, PA.bA x1]) v1) :
    Calls Tryz.prog 5 #[v0, v1] w fun e w' => e = .returned (.bool true) ∧ Below w.heap.size w w' := by
  obtain ⟨v, H', q1, rfl⟩ := PA.x5 (P := P) hg hbs hx0 hx1
  have h3 := (xfunc_sound PA.mixed (xcallK_sound PA.mixed PA.KT_ok PA.F_ok 3000 0) 3000 (PA.F_ok 5 PA.L5 rfl) q1).2 (E0 w) w [v0, v1] (rel0 w) (by
    simp only [AVRelL]
    exact ⟨_, _, rfl, h0, ⟨_, _, rfl, h1, rfl⟩⟩)
  refine h3.mono fun e w' ⟨u, E', he, hs, hr⟩ => ?_
  simp only [AVRel] at hr
  subst hr
  exact ⟨he, below0 hs⟩
set_option maxRecDepth 100000 in
theorem lifted (os : Os) (started : os.Started) (H : Type) (enc : TypeId × Value → H) :
    ReturnsInHanded {} Tryz.checked os 5 .any (fun w args => (Rows.ropeRulesSpec.pre enc Tryz.prog Tryz.f5 Rows.ropeRulesRow.domain false w args ∧ laidMetH Tryz.prog Rows.ropeRulesRow.laid w) ∧ sizedMet enc Tryz.prog Tryz.f5 (OpenSpec.ofChange Rows.ropeRulesSpec) false w args)
      (Rows.ropeRulesSpec.post enc Tryz.prog Tryz.f5 false true false false) := by
  refine returnsInHanded_of_change_and (C := Tryz.checked) (X := fun w _ => laidMetH Tryz.prog Rows.ropeRulesRow.laid w) (fun _ _ _ hh h => h.of_heap hh) own started (by kernel_rfl) Tryz.func5
    (ChangeSpec.witness_shaped (enc := enc) (C := Tryz.checked) (os := os) (X := fun w _ => laidMetH Tryz.prog Rows.ropeRulesRow.laid w) false (World.laidAll Tryz.prog os Rows.ropeRulesRow.laid) #[.agg #[.int .u16 0, .int .u8 0, .slice none 0 0], .agg #[.int .u8 0, .int .u8 0]] 8 (World.laidAll_os _ _ _)
      (World.shaped_of_ZipB (by kernel_rfl) (by kernel_rfl)) (by kernel_rfl) (by kernel_rfl) (by kernel_rfl)
      (by rw [MakeChecks.laidMetH_plain _ _ _ (by kernel_rfl)]; exact laidMet_laidAll _ (by kernel_rfl) (by kernel_rfl))) ?_
  intro W base args ds gs before hval0 hW hcnd _ _ _
  have hval : ∀ (j : Nat) t v, Tryz.f5.params[j]? = some t → args[j]? = some v → Value.okWide Tryz.prog W .any base t v := hval0
  have hW' := hW
  obtain ⟨p, q, hA0, hV, rfl, hfz, hnd⟩ := hW
  have hA : DataW.TrodAll enc Tryz.prog W 0 (fun _ => true) true Tryz.f5.params.toList args.toList ds p := hA0
  rw [Tryz.params5] at hA hval
  obtain ⟨v0, vs0, d0, ds0, p0, q0, hargs, rfl, rfl, h0, r0⟩ := trodAll_cons hA
  obtain ⟨v1, vs1, d1, ds1, p1, q1, rfl, rfl, rfl, h1, r1⟩ := trodAll_cons r0
  obtain ⟨rfl, rfl, rfl⟩ := trodAll_nil r1
  obtain rfl : args = #[v0, v1] := by cases args; simp_all
  obtain ⟨rfl, rfl⟩ := trodVars_none hV
  have k0 := h0
  have lt0 : ∀ x ∈ p0, x.block < W.heap.size := by obtain ⟨m, hm⟩ := k0; exact DataW.trod_lt m _ _ _ hm
  have k1 := h1
  have lt1 : ∀ x ∈ p1, x.block < W.heap.size := by obtain ⟨m, hm⟩ := k1; exact DataW.trod_lt m _ _ _ hm
  obtain ⟨c0, c1, c2, y0, y1, y2, n, rfl, hd0, hp0, t0, t1, t2⟩ := open_agg3 Tryz.underlying54 (by kernel_rfl) (by kernel_rfl) (hval 0 54 v0 rfl rfl) h0
  obtain ⟨z0, e0, _⟩ := DataW.trod_int Tryz.underlying51 t0
  obtain ⟨z1, e1, _, w1⟩ := DataW.trod_int Tryz.underlying5 t1
  simp only [List.cons.injEq, and_true] at e0 e1
  subst e0 e1
  obtain ⟨g, rfl, hg⟩ := PA.u8_nat w1
  obtain ⟨a2, l2, cc2, hs2⟩ := slice_form Tryz.underlying52 t2
  simp only [List.cons.injEq, and_true] at hs2
  obtain ⟨bs, hbs, r2⟩ := PA.read_bytes (v := c2) Tryz.underlying52 Tryz.underlying5 (by kernel_rfl) hs2 ⟨n, by subst hs2; exact t2⟩
  obtain ⟨x0, x1, hx0, hx1, r3⟩ := PA.read_arr2 Tryz.underlying55 Tryz.underlying5 (by kernel_rfl) (by kernel_rfl) (hval 1 55 v1 rfl rfl) h1
  clear hA0 hval0
  refine (call W hg hbs hx0 hx1 (by
    unfold PA.cordA PA.bA
    simp only [AVRel, AVRelL]
    exact ⟨_, rfl, _, _, rfl, rfl, _, _, rfl, rfl, _, _, rfl, r2, rfl⟩) r3).mono fun e W' ⟨he, bel⟩ => ?_
  subst he
  exact ⟨_, rfl, _, _, _, [], _, [], hW', trodAll_mk1 (shut_bool Tryz.underlying4 _), (trodAll_cons_mk (Below.trod laidOut (by kernel_rfl) (of_decide_eq_true (by kernel_rfl)) k0 bel lt0) (trodAll_cons_mk (Below.trod laidOut (by kernel_rfl) (of_decide_eq_true (by kernel_rfl)) k1 bel lt1) trodAll_mk0)), rfl, bel.frame _, fun h => by cases h⟩
theorem over : Rows.RopeRulesSaid :=
  OpenClaim.holds_of_wide 5 Tryz.f5 rfl rfl rfl rfl rfl rfl rfl ⟨rfl, rfl, rfl, rfl, rfl⟩ rfl rfl rfl rfl rfl (by kernel_rfl) Tryz.func5 (by kernel_rfl)
    (of_decide_eq_true (by kernel_rfl)) (by unfold Func.isWrapper; first | (rw [if_pos (by decide +kernel)]; kernel_rfl) | (rw [if_neg (by decide +kernel)]; exact ⟨rfl, rfl⟩))
    (fun os started H enc _ => lifted os started H enc)
end Go.Proofs.YtfcgofffalmdfaaGreatDoor.ropeRules
namespace Go.Proofs.YtfcgofffalmdfaaGreatDoor
open Go
theorem ropeRules_card : Rows.RopeRulesCardSaid :=
  Claim7.holds_tied_plain_at .later [] [.data, .pinned] true (true, "5e7abd25e6fdffa6dc8dfc12cd5002f17c6143cad05b03ef55e8e1654f75baf7") false ropeRules.over (fun _ h => by cases h) (by kernel_rfl) (fun _ h => by cases h) ropeRules_row_tie rfl ⟨rfl, rfl⟩ (by kernel_rfl) rfl
    (fun f fn hf hfn => by
      obtain rfl : f = 5 := Option.some.inj ((show Tryz.prog.funcNamed "woggle/wogglelaw03.RopeRules" = some 5 by kernel_rfl).symm.trans hf) |>.symm
      obtain rfl : fn = Tryz.f5 := (Option.some.inj (Tryz.func5.symm.trans hfn)).symm
      exact ⟨by kernel_rfl, fun j t ht => by
        rw [Tryz.params5] at ht
        have hm : t ∈ [54, 55] := by simpa using Array.mem_of_getElem? ht
        have hall : ([54, 55].all fun u => !Tryz.prog.wantsStandIn u) = true := by kernel_rfl
        exact (show Tryz.prog.wantsStandIn t = false by simpa using List.all_eq_true.1 hall t hm)⟩)
    (by kernel_rfl)
#print axioms ropeRules_card
end Go.Proofs.YtfcgofffalmdfaaGreatDoor
namespace Go.Proofs.YtfcgofffalmdfaaGreatDoor.PA
open Go Go.Eng Go.Proofs
theorem KT_mul {m n : Nat} {H : AHeap} (hm : m < bigN) (hn : n < bigN) : KT 30 [qN m, qN n] H = some (qN (m * n), H) := KT_E (E30 (by have := dz_big hm; omega) (by have := dz_big hn; omega) H) (by decide) (by decide) (by decide) (by decide) (by decide)
theorem readE_two {s t : List UInt8} {l l' : List (Int × Int)} {gap gap' : Int} (h : readE s l gap = 0) (h' : readE t l' gap' = 0) (hl : l.length ≤ 16) (hs : s.length ≤ 20) (ht : t.length ≤ 20) : readE t l gap = 0 ∧ readE (s ++ t) l gap = 0 := by
  obtain ⟨q1, q2, q3, q4, q5⟩ := readE_zero h
  obtain ⟨p1, p2, p3, p4, p5⟩ := readE_zero h'
  have e : t.all inS = true := p2
  have e2 : s.all inS = true := q2
  unfold readE
  refine ⟨?_, ?_⟩
  · rw [if_neg (by omega), if_neg (by rw [q3]; decide), if_neg (by omega), if_pos e]
  · rw [if_neg (by rw [List.length_append]; omega), if_neg (by rw [q3]; decide), if_neg (by omega), if_pos (by rw [List.all_append, e, e2]; rfl)]
set_option maxHeartbeats 8000000 in
theorem x6 {P : Int} {g : Nat} {bs xs : List Nat} (hg : g < 256) (hbs : ∀ b ∈ bs, b < 256) (hxs : ∀ b ∈ xs, b < 256) :
    ∃ v H', xfunc (xcallK KT F 3000 0) 3000 L6 [.agg (cordA P g bs), .imm (xs.map bA) xs.length false] ⟨.e, 0⟩ = some (v, H') ∧ v = .bool true := by
  refine xfunc_ofK rfl (by show 2 ≤ 142; omega) ?_
  have hF := HF.start ⟨.e, 0⟩
  generalize (⟨.e, 0⟩ : AHeap) = H at hF ⊢
  unfold L6
  dsimp only
  repeat' (first | refine WK.seq ?_ | (apply WK.reg; (· exact lnn)) | (apply WKO.boxO; (· rfl); (· assumption); (· rfl); (· exact nxx); (· exact nxx); (· exact nxx); intro _ _ _) | refine WKO.nil ?_ | ((first | apply WKO.op); (· first | exact k_mv rfl | (apply k_ldA; (· rfl); (· assumption); (· rfl); (· exact mmb); (· first | rfl))); (· rfl)) | refine pN ?_ | fail)
  rename_i H1 hF1 hn1
  refine WKO.callV rfl rfl rfl (show ∃ v H', xcallK KT F 3000 0 24 [.agg (cordA P g bs), nA 20] (H1.bump 9) = some (v, H') ∧ ∃ (s : List UInt8) (l : List (Int × Int)) (gap : Int), v = .tup [.str s, pairsI l, .int .i64 gap] ∧ H' = (H1.bump 9) ∧ readE s l gap = 0 ∧ l.length ≤ 10 ∧ s.length ≤ 20 from by
    obtain ⟨s, l, gap, q1, q2, q3, q4, _⟩ := KR_15 (P := P) hg hbs (m := 20) (by omega) (H1.bump 9)
    exact ⟨_, _, cfhit (KT_R (KH_none (by decide) (by decide)) q1), s, l, gap, rfl, rfl, q2, q4, q3⟩) ?_
  rintro v2 H2 ⟨s, l, gap, rfl, rfl, hE, hl10, hs20⟩
  have hT1 := hF1.le
  have hB1 := hF1.base
  repeat' (first | refine WK.seq ?_ | (apply WK.reg; (· exact lnn)) | (apply WKO.alO; (· assumption); (· rfl); (· exact nxx); (· exact nxx); (· exact nxx); intro _ _ _) | (apply WKO.stO0; (· rfl); (· rfl); (· assumption); (· rfl); (· exact nxx); (· first | exact .inr nxx); (· rfl); (· rfl); (· first | decide); intro _ _ _) | refine WKO.nil ?_ | ((first | apply WKO.op); (· first | exact k_mv rfl | (apply k_ldA; (· rfl); (· assumption); (· rfl); (· exact mmb); (· first | rfl)) | exact k_faddr rfl | exact opA); (· rfl)) | refine pN ?_ | fail)
  rename_i H3 hF3 hn3 H4 hF4 hn4
  have hp4 : H.next < (H1.bump 9).next + 1 := by simp only [next_bump]; omega
  have hlt4 : (H1.bump 9).next + 1 < H4.next := by have := hF4.lt _ (.head _); have := hF4.le; simp only at *; omega
  refine WKO.stO0 (m := 1) rfl rfl hF4 rfl nxx (.inr nxx) rfl rfl (Nat.le_of_ble_eq_true rfl) ?_
  intro H5 hF5 hn5
  have e5 : HF H [] _ [((H1.bump 9).next + 1, .cells (cordA P g xs) none), (H.next, .cells (cordA P g bs) none)] H5 := hF5
  clear hF5 hF4 hF3 hF1 hF
  repeat' (first | refine WK.seq ?_ | (apply WK.reg; (· exact lnn)) | refine WKO.nil ?_ | ((first | apply WKO.op); (· first | (apply k_ldA; (· rfl); (· assumption); (· rfl); (· exact mmb); (· first | rfl))); (· rfl)) | refine pN ?_ | fail)
  refine WKO.callV rfl rfl rfl (show ∃ v H', xcallK KT F 3000 0 24 [.agg (cordA P g xs), nA 20] (H5.bump 9) = some (v, H') ∧ ∃ (t : List UInt8) (l' : List (Int × Int)) (gap' : Int), v = .tup [.str t, pairsI l', .int .i64 gap'] ∧ H' = (H5.bump 9) ∧ readE t l' gap' = 0 ∧ t.length ≤ 20 from by
    obtain ⟨s, l, gap, q1, q2, q3, q4, _⟩ := KR_15 (P := P) hg hxs (m := 20) (by omega) (H5.bump 9)
    exact ⟨_, _, cfhit (KT_R (KH_none (by decide) (by decide)) q1), s, l, gap, rfl, rfl, q2, q3⟩) ?_
  rintro v2 H2 ⟨t, l', gap', rfl, rfl, hE', ht20⟩
  obtain ⟨hEt, hEj⟩ := readE_two hE hE' (by omega) hs20 ht20
  clear hE'
  obtain ⟨m1, m2⟩ := rope_joined s t (rulesOf l) gap
  have z1 := szF_big hE
  have z2 := szF_big hEt
  have z3 := szF_big hEj
  have c1 : ∀ {H' : AHeap} {k : Nat}, xcallK KT F 3000 k 25 [.str s, pairsI l, .int .i64 gap] H' = _ := fun {H' k} => cfhit (KT_most hE)
  have c2 : ∀ {H' : AHeap} {k : Nat}, xcallK KT F 3000 k 25 [.str t, pairsI l, .int .i64 gap] H' = _ := fun {H' k} => cfhit (KT_most hEt)
  have c3 : ∀ {H' : AHeap} {k : Nat}, xcallK KT F 3000 k 25 [.str (s ++ t), pairsI l, .int .i64 gap] H' = _ := fun {H' k} => cfhit (KT_most hEj)
  have c4 : ∀ {H' : AHeap} {k : Nat}, xcallK KT F 3000 k 26 [.str s, pairsI l, .int .i64 gap] H' = _ := fun {H' k} => cfhit (KT_all hE)
  have c5 : ∀ {H' : AHeap} {k : Nat}, xcallK KT F 3000 k 26 [.str t, pairsI l, .int .i64 gap] H' = _ := fun {H' k} => cfhit (KT_all hEt)
  have c6 : ∀ {H' : AHeap} {k : Nat}, xcallK KT F 3000 k 26 [.str (s ++ t), pairsI l, .int .i64 gap] H' = _ := fun {H' k} => cfhit (KT_all hEj)
  have c9 : ∀ {H' : AHeap} {k : Nat}, xcallK KT F 3000 k 16 [] H' = some (.bool true, H') := fun {H' k} => cfhit KT_lives
  have y1 : mostF s (rulesOf l) gap 0 s.length ≤ 100 := by
    have := lenN_le (mayF s (rulesOf l) gap) (s.length - 0) 0
    unfold mostF
    omega
  have y2 : mostF t (rulesOf l) gap 0 t.length ≤ 100 := by
    have := lenN_le (mayF t (rulesOf l) gap) (t.length - 0) 0
    unfold mostF
    omega
  generalize mostF s (rulesOf l) gap 0 s.length = M1 at *
  generalize mostF t (rulesOf l) gap 0 t.length = M2 at *
  generalize mostF (s ++ t) (rulesOf l) gap 0 (s ++ t).length = M3 at *
  generalize (szF s (rulesOf l) gap 0 s.length).sum = A1 at *
  generalize (szF t (rulesOf l) gap 0 t.length).sum = A2 at *
  generalize (szF (s ++ t) (rulesOf l) gap 0 (s ++ t).length).sum = A3 at *
  have d1 : ∀ {H' : AHeap} {k : Nat}, xcallK KT F 3000 k 27 [.str (decS A1)] H' = some (.bool true, H') := fun {H' k} => cfhit (KT_valid z1)
  have d2 : ∀ {H' : AHeap} {k : Nat}, xcallK KT F 3000 k 27 [.str (decS A2)] H' = some (.bool true, H') := fun {H' k} => cfhit (KT_valid z2)
  have d3 : ∀ {H' : AHeap} {k : Nat}, xcallK KT F 3000 k 27 [.str (decS A3)] H' = some (.bool true, H') := fun {H' k} => cfhit (KT_valid z3)
  have e1 : ∀ {H' : AHeap} {k : Nat}, xcallK KT F 3000 k 29 [.str (decS A1)] H' = some (qN A1, H') := fun {H' k} => cfhit (KT_of z1)
  have e2 : ∀ {H' : AHeap} {k : Nat}, xcallK KT F 3000 k 29 [.str (decS A2)] H' = some (qN A2, H') := fun {H' k} => cfhit (KT_of z2)
  have e3 : ∀ {H' : AHeap} {k : Nat}, xcallK KT F 3000 k 29 [.str (decS A3)] H' = some (qN A3, H') := fun {H' k} => cfhit (KT_of z3)
  have f1 : ∀ {H' : AHeap} {k : Nat}, xcallK KT F 3000 k 30 [qN A1, qN A2] H' = some (qN (A1 * A2), H') := fun {H' k} => cfhit (KT_mul z1 z2)
  have f2 : ∀ {H' : AHeap} {k : Nat}, xcallK KT F 3000 k 28 [qN A3, qN (A1 * A2)] H' = some (nA (min (A3 - A1 * A2) 1), H') := fun {H' k} => cfhit (KT_cmp z3 m2)
  repeat' (first | refine WK.seq ?_ | refine WK.skip ?_ | refine WK.ret ?_ | (apply WK.reg; (· exact lnn)) | refine WKO.nil ?_ | ((first | apply WKO.op | ((first | apply WKO.gop); (· rfl); (· exact dcd))); (· first | exact k_mv rfl | (apply k_call; (· rfl); (· rfl); (· first | exact c1 | exact c2 | exact c3 | exact c4 | exact c5 | exact c6 | exact c9)) | (apply k_call; (· rfl); (· rfl); (· first | exact d1 | exact d2 | exact d3 | exact e1 | exact e2 | exact e3 | exact f1 | exact f2)) | exact k_catS rfl rfl (by omega) | exact opA); (· rfl)) | refine pN ?_ | (apply WK.condF; (· rfl); (· exact dcd)) | fail)
  exact ⟨fun id q => (by cases q), [.bool (decide (min (A3 - A1 * A2) 1 ≥ 0))], rfl, by rw [decide_eq_true (Nat.zero_le _)]; rfl⟩
end Go.Proofs.YtfcgofffalmdfaaGreatDoor.PA
namespace Go.Proofs.YtfcgofffalmdfaaGreatDoor.ropeJoined
open Go Go.ChangeShapes Go.WideShapes Go.ChangeAt Go.RowKit Go.Deep Go.Joins Go.Eng
theorem own : ownKnob Tryz.prog.godebug = none := by kernel_rfl
theorem laidOut : laidOutB Tryz.prog = true := by kernel_rfl
theorem call (w : World) {P : Int} {g : Nat} {bs : List Nat} (hg : g < 256) (hbs : ∀ b ∈ bs, b < 256) {xs : List Nat} (hxs : ∀ b ∈ xs, b < 256) {v0 v1 : Value} (h0 : AVRel (E0 w) w (.agg (PA.cordA P g bs)) v0) (h1 : AVRel (E0 w) w (.imm (xs.map PA.bA) xs.length false) v1) :
    Calls Tryz.prog 6 #[v0, v1] w fun e w' => e = .returned (.bool true) ∧ Below w.heap.size w w' := by
  obtain ⟨v, H', q1, rfl⟩ := PA.x6 (P := P) hg hbs hxs
  have h3 := (xfunc_sound PA.mixed (xcallK_sound PA.mixed PA.KT_ok PA.F_ok 3000 0) 3000 (PA.F_ok 6 PA.L6 rfl) q1).2 (E0 w) w [v0, v1] (rel0 w) (by
    simp only [AVRelL]
    exact ⟨_, _, rfl, h0, ⟨_, _, rfl, h1, rfl⟩⟩)
  refine h3.mono fun e w' ⟨u, E', he, hs, hr⟩ => ?_
  simp only [AVRel] at hr
  subst hr
  exact ⟨he, below0 hs⟩
set_option maxRecDepth 100000 in
theorem lifted (os : Os) (started : os.Started) (H : Type) (enc : TypeId × Value → H) :
    ReturnsInHanded {} Tryz.checked os 6 .any (fun w args => (Rows.ropeJoinedSpec.pre enc Tryz.prog Tryz.f6 Rows.ropeJoinedRow.domain false w args ∧ laidMetH Tryz.prog Rows.ropeJoinedRow.laid w) ∧ sizedMet enc Tryz.prog Tryz.f6 (OpenSpec.ofChange Rows.ropeJoinedSpec) false w args)
      (Rows.ropeJoinedSpec.post enc Tryz.prog Tryz.f6 false true false false) := by
  refine returnsInHanded_of_change_and (C := Tryz.checked) (X := fun w _ => laidMetH Tryz.prog Rows.ropeJoinedRow.laid w) (fun _ _ _ hh h => h.of_heap hh) own started (by kernel_rfl) Tryz.func6
    (ChangeSpec.witness_shaped (enc := enc) (C := Tryz.checked) (os := os) (X := fun w _ => laidMetH Tryz.prog Rows.ropeJoinedRow.laid w) false (World.laidAll Tryz.prog os Rows.ropeJoinedRow.laid) #[.agg #[.int .u16 0, .int .u8 0, .slice none 0 0], .slice none 0 0] 8 (World.laidAll_os _ _ _)
      (World.shaped_of_ZipB (by kernel_rfl) (by kernel_rfl)) (by kernel_rfl) (by kernel_rfl) (by kernel_rfl)
      (by rw [MakeChecks.laidMetH_plain _ _ _ (by kernel_rfl)]; exact laidMet_laidAll _ (by kernel_rfl) (by kernel_rfl))) ?_
  intro W base args ds gs before hval0 hW hcnd _ _ _
  have hval : ∀ (j : Nat) t v, Tryz.f6.params[j]? = some t → args[j]? = some v → Value.okWide Tryz.prog W .any base t v := hval0
  have hW' := hW
  obtain ⟨p, q, hA0, hV, rfl, hfz, hnd⟩ := hW
  have hA : DataW.TrodAll enc Tryz.prog W 0 (fun _ => true) true Tryz.f6.params.toList args.toList ds p := hA0
  rw [Tryz.params6] at hA hval
  obtain ⟨v0, vs0, d0, ds0, p0, q0, hargs, rfl, rfl, h0, r0⟩ := trodAll_cons hA
  obtain ⟨v1, vs1, d1, ds1, p1, q1, rfl, rfl, rfl, h1, r1⟩ := trodAll_cons r0
  obtain ⟨rfl, rfl, rfl⟩ := trodAll_nil r1
  obtain rfl : args = #[v0, v1] := by cases args; simp_all
  obtain ⟨rfl, rfl⟩ := trodVars_none hV
  have k0 := h0
  have lt0 : ∀ x ∈ p0, x.block < W.heap.size := by obtain ⟨m, hm⟩ := k0; exact DataW.trod_lt m _ _ _ hm
  have k1 := h1
  have lt1 : ∀ x ∈ p1, x.block < W.heap.size := by obtain ⟨m, hm⟩ := k1; exact DataW.trod_lt m _ _ _ hm
  obtain ⟨c0, c1, c2, y0, y1, y2, n, rfl, hd0, hp0, t0, t1, t2⟩ := open_agg3 Tryz.underlying54 (by kernel_rfl) (by kernel_rfl) (hval 0 54 v0 rfl rfl) h0
  obtain ⟨z0, e0, _⟩ := DataW.trod_int Tryz.underlying51 t0
  obtain ⟨z1, e1, _, w1⟩ := DataW.trod_int Tryz.underlying5 t1
  simp only [List.cons.injEq, and_true] at e0 e1
  subst e0 e1
  obtain ⟨g, rfl, hg⟩ := PA.u8_nat w1
  obtain ⟨a2, l2, cc2, hs2⟩ := slice_form Tryz.underlying52 t2
  simp only [List.cons.injEq, and_true] at hs2
  obtain ⟨bs, hbs, r2⟩ := PA.read_bytes (v := c2) Tryz.underlying52 Tryz.underlying5 (by kernel_rfl) hs2 ⟨n, by subst hs2; exact t2⟩
  obtain ⟨xa, xlen, xcap, hxv⟩ := okWide_slice Tryz.underlying52 (hval 1 52 v1 rfl rfl)
  obtain ⟨xs, hxs, r3⟩ := PA.read_bytes Tryz.underlying52 Tryz.underlying5 (by kernel_rfl) hxv h1
  clear hA0 hval0
  refine (call W hg hbs hxs (by
    unfold PA.cordA PA.bA
    simp only [AVRel, AVRelL]
    exact ⟨_, rfl, _, _, rfl, rfl, _, _, rfl, rfl, _, _, rfl, r2, rfl⟩) r3).mono fun e W' ⟨he, bel⟩ => ?_
  subst he
  exact ⟨_, rfl, _, _, _, [], _, [], hW', trodAll_mk1 (shut_bool Tryz.underlying4 _), (trodAll_cons_mk (Below.trod laidOut (by kernel_rfl) (of_decide_eq_true (by kernel_rfl)) k0 bel lt0) (trodAll_cons_mk (Below.trod laidOut (by kernel_rfl) (of_decide_eq_true (by kernel_rfl)) k1 bel lt1) trodAll_mk0)), rfl, bel.frame _, fun h => by cases h⟩
theorem over : Rows.RopeJoinedSaid :=
  OpenClaim.holds_of_wide 6 Tryz.f6 rfl rfl rfl rfl rfl rfl rfl ⟨rfl, rfl, rfl, rfl, rfl⟩ rfl rfl rfl rfl rfl (by kernel_rfl) Tryz.func6 (by kernel_rfl)
    (of_decide_eq_true (by kernel_rfl)) (by unfold Func.isWrapper; first | (rw [if_pos (by decide +kernel)]; kernel_rfl) | (rw [if_neg (by decide +kernel)]; exact ⟨rfl, rfl⟩))
    (fun os started H enc _ => lifted os started H enc)
end Go.Proofs.YtfcgofffalmdfaaGreatDoor.ropeJoined
namespace Go.Proofs.YtfcgofffalmdfaaGreatDoor
open Go
theorem ropeJoined_card : Rows.RopeJoinedCardSaid :=
  Claim7.holds_tied_plain_at .later [] [.data, .pinned] true (true, "5e7abd25e6fdffa6dc8dfc12cd5002f17c6143cad05b03ef55e8e1654f75baf7") false ropeJoined.over (fun _ h => by cases h) (by kernel_rfl) (fun _ h => by cases h) ropeJoined_row_tie rfl ⟨rfl, rfl⟩ (by kernel_rfl) rfl
    (fun f fn hf hfn => by
      obtain rfl : f = 6 := Option.some.inj ((show Tryz.prog.funcNamed "woggle/wogglelaw03.RopeJoined" = some 6 by kernel_rfl).symm.trans hf) |>.symm
      obtain rfl : fn = Tryz.f6 := (Option.some.inj (Tryz.func6.symm.trans hfn)).symm
      exact ⟨by kernel_rfl, fun j t ht => by
        rw [Tryz.params6] at ht
        have hm : t ∈ [54, 52] := by simpa using Array.mem_of_getElem? ht
        have hall : ([54, 52].all fun u => !Tryz.prog.wantsStandIn u) = true := by kernel_rfl
        exact (show Tryz.prog.wantsStandIn t = false by simpa using List.all_eq_true.1 hall t hm)⟩)
    (by kernel_rfl)
#print axioms ropeJoined_card
end Go.Proofs.YtfcgofffalmdfaaGreatDoor
namespace Go.Proofs.YtfcgofffalmdfaaGreatDoor
open Go
theorem z_two : Rows.RopeRulesCardSaid ∧ Rows.RopeJoinedCardSaid := ⟨ropeRules_card, ropeJoined_card⟩
end Go.Proofs.YtfcgofffalmdfaaGreatDoor
