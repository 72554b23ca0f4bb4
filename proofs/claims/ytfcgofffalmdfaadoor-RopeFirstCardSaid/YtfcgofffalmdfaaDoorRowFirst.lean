/- RopeFirst: the folding that First gives is a folding of the greatest size, for all ropes and letters: the row and its tied card. No condition. -/
import Derived.Test.YtfcgofffalmdfaaDoorJE
import Derived.Test.YtfcgofffalmdfaaDoorJD
import Derived.Test.YtfcgofffalmdfaaDoorJC
import Derived.Test.YtfcgofffalmdfaaDoorRows
import Derived.Test.YtfcgofffalmdfaaDoorCards
import Derived.Test.YtfcgofffalmdfaaDoorTie
import Derived.ProofKit
import Derived.OpenShut
import Derived.LaidMore
import Derived.Lay
import Derived.SevenTiedAt
import Derived.Stop.Joined
import Derived.SizedLaws
import Derived.Carry
import Derived.Lib.SmallJoins
import Derived.Deep.Slices
import Derived.Deep.SlicePairs
import Derived.Deep.Fields
import Derived.ChangeSame
set_option linter.unusedSectionVars false
set_option linter.unusedVariables false
set_option linter.unusedSimpArgs false
namespace Go.Proofs.YtfcgofffalmdfaaDoor.PA
open Go Go.Eng Go.Proofs
open Classical in
noncomputable def unDig (v : AV) : Option Nat := if h : ∃ n, v = digA (limbs n) then some h.choose else none
theorem unDig_V (n : Nat) : unDig (digA (limbs n)) = some n := by
  have h : ∃ m, digA (limbs n) = digA (limbs m) := ⟨n, rfl⟩
  unfold unDig
  rw [dif_pos h, ← limbs_inj (digA_inj h.choose_spec)]
theorem unDig_some {v : AV} {n : Nat} (h : unDig v = some n) : v = digA (limbs n) := by
  unfold unDig at h
  split at h
  · rename_i q
    cases h
    exact q.choose_spec
  · cases h
theorem IntV_eq (n : Nat) : IntV n = .agg [.bool false, digA (limbs n)] := by unfold IntV; rfl
theorem digA_one (l : List Nat) : (digA l).oneCell = true := by rw [digI_eq]; rfl
theorem k_eqB {cf : CF} {n : Nat} {H : AHeap} {l : KL0} {x y : XO} {b : Bool} (hx : evK l x = some (.bool b)) (hy : evK l y = some (.bool b)) : XV cf l H n (.eqf false (.mk false [.b]) x y) = some (.bool true, H) := by
  refine k_any ?_
  simp only [xval, xop, hx, hy]
  cases b <;> rfl
theorem k_neB {cf : CF} {n : Nat} {H : AHeap} {l : KL0} {x y : XO} {b : Bool} (hx : evK l x = some (.bool b)) (hy : evK l y = some (.bool b)) : XV cf l H n (.eqf true (.mk false [.b]) x y) = some (.bool false, H) := by
  refine k_any ?_
  simp only [xval, xop, hx, hy]
  cases b <;> rfl
theorem resK_obj {l : KL0} {H : AHeap} {t i n : Nat} {c : List AV} {opn : Option Nat} (hl : Go.Eng.look l t = some (.ptr i 0)) (hg : H.get i = some (.cells c opn)) (hc : c.length = n) : resK l H [.c t (some n)] = some [.agg c] := by
  simp only [resK, resK1, hl, Option.bind_some, loadA, cellsAt, hg, List.drop_zero]
  rw [if_pos (by omega), List.take_of_length_le (by omega)]
  rfl
theorem made_walk {cf : CF} {fuel : Nat} {d : List Nat} : ∃ v H', xfunc cf fuel L52 [.bool false, digI d] ⟨.e, 0⟩ = some (v, H') ∧ v = .agg [.bool false, digI d] := by
  refine xfunc_ofK rfl (by show 2 ≤ 13; omega) ?_
  have hF := HF.start ⟨.e, 0⟩
  generalize (⟨.e, 0⟩ : AHeap) = H at hF ⊢
  unfold L52
  dsimp only
  repeat' (first | refine WK.seq ?_ | refine WK.ret ?_ | (apply WK.reg; (· exact lnn)) | (apply WKO.alO; (· assumption); (· rfl); (· exact nxx); (· exact nxx); (· exact nxx); intro _ _ _) | (apply WKO.stO0; (· rfl); (· rfl); (· assumption); (· rfl); (· exact nxx); (· first | exact .inr nxx); (· rfl); (· rfl); (· first | decide); intro _ _ _) | refine WKO.nil ?_ | ((first | apply WKO.op); (· first | exact k_mv rfl | exact opA); (· rfl)) | ((first | apply WKO.gnoT); (· rfl); (· exact dcd)) | refine pN ?_ | fail)
  exact ⟨fun id q => (by cases q), [.agg [.bool false, digI d]], resK_obj rfl (HF.obj ‹HF _ _ _ _ _› _ (.head _)) rfl, rfl⟩
theorem made_call (n : Nat) (H : AHeap) : CallOK Tryd.prog 52 [.bool false, digA (limbs n)] H (.agg [.bool false, digA (limbs n)]) H := by
  obtain ⟨v, H', h, rfl⟩ := made_walk (cf := xcallK Kno F 2000 0) (fuel := 2000) (d := limbs n)
  have h2 := xcallK_sound mixed Kno_ok F_ok 2000 1 52 _ _ _ _ ((cfstep rfl rfl).trans h)
  rw [← digI_eq] at h2
  exact h2.pure (by simp [AV.frozL, AV.froz, digA_froz]) (Fz.froz (by simp [AV.frozL, AV.froz, digA_froz]))
noncomputable def KB : CF := fun f args H => match f, args with
  | 52, [.bool false, v] => (unDig v).map fun n => (.agg [.bool false, digA (limbs n)], H)
  | 54, [x, y] => (unDig x).bind fun m => (unDig y).bind fun n => if m < bigN ∧ n < bigN then some (digA (limbs (m + n)), H) else none
  | 81, [x, y] => (unDig x).bind fun m => (unDig y).bind fun n => if m < bigN ∧ n < bigN then some (digA (limbs (m * n)), H) else none
  | _, _ => none
theorem KB_ok : CFok Tryd.prog KB := by
  intro f args H v H' h
  unfold KB at h
  split at h
  · obtain ⟨n, h1, h2⟩ := Option.map_eq_some_iff.1 h
    cases h2
    rw [unDig_some h1]
    exact made_call n H
  · obtain ⟨m, h1, h⟩ := Option.bind_eq_some_iff.1 h
    obtain ⟨n, h2, h⟩ := Option.bind_eq_some_iff.1 h
    split at h
    · rename_i hb
      cases h
      rw [unDig_some h1, unDig_some h2]
      exact plus_call hb.1 hb.2 H
    · cases h
  · obtain ⟨m, h1, h⟩ := Option.bind_eq_some_iff.1 h
    obtain ⟨n, h2, h⟩ := Option.bind_eq_some_iff.1 h
    split at h
    · rename_i hb
      cases h
      rw [unDig_some h1, unDig_some h2]
      exact times_call hb.1 hb.2 H
    · cases h
  · cases h
theorem KB_52 (n : Nat) (H : AHeap) : KB 52 [.bool false, digA (limbs n)] H = some (.agg [.bool false, digA (limbs n)], H) := by
  show (unDig (digA (limbs n))).map _ = _
  rw [unDig_V]; rfl
theorem KB_54 {m n : Nat} (hm : m < bigN) (hn : n < bigN) (H : AHeap) : KB 54 [digA (limbs m), digA (limbs n)] H = some (digA (limbs (m + n)), H) := by
  show ((unDig (digA (limbs m))).bind fun m => (unDig (digA (limbs n))).bind fun n => if m < bigN ∧ n < bigN then some (digA (limbs (m + n)), H) else none) = _
  rw [unDig_V, unDig_V, Option.bind_some, Option.bind_some, if_pos ⟨hm, hn⟩]
theorem KB_81 {m n : Nat} (hm : m < bigN) (hn : n < bigN) (H : AHeap) : KB 81 [digA (limbs m), digA (limbs n)] H = some (digA (limbs (m * n)), H) := by
  show ((unDig (digA (limbs m))).bind fun m => (unDig (digA (limbs n))).bind fun n => if m < bigN ∧ n < bigN then some (digA (limbs (m * n)), H) else none) = _
  rw [unDig_V, unDig_V, Option.bind_some, Option.bind_some, if_pos ⟨hm, hn⟩]
theorem add_walk {m n : Nat} (hm : m < bigN) (hn : n < bigN) : ∃ v H', xfunc (xcallK KB F 2000 0) 2000 L38 [.agg [.bool false, digA (limbs m)], .agg [.bool false, digA (limbs n)]] ⟨.e, 0⟩ = some (v, H') ∧ v = .agg [.bool false, digA (limbs (m + n))] := by
  refine xfunc_ofK rfl (by show 2 ≤ 42; omega) ?_
  have hF := HF.start ⟨.e, 0⟩
  generalize (⟨.e, 0⟩ : AHeap) = H at hF ⊢
  unfold L38
  dsimp only
  repeat' (first | refine WK.seq ?_ | refine WK.block ?_ | (apply WK.reg; (· exact lnn)) | (refine WK.regC1 8 rfl rfl rfl ?_ ; dsimp only [List.take_succ_cons, List.take_zero]) | (apply WKO.boxO; (· rfl); (· assumption); (· rfl); (· exact nxx); (· exact nxx); (· exact nxx); intro _ _ _) | (apply WKO.alO; (· assumption); (· rfl); (· exact nxx); (· exact nxx); (· exact nxx); intro _ _ _) | refine WKC.nil ?_ | refine WKO.nil ?_ | ((first | apply WKC.op | apply WKO.op); (· first | exact k_mv rfl | exact k_eqB rfl rfl | exact k_call rfl rfl (cfhit (KB_54 hm hn _)) | exact k_call rfl rfl (cfhit (KB_52 _ _)) | (apply k_ldO; (· rfl); (· assumption); (· rfl); (· exact mmb); (· rfl)) | exact k_faddr rfl); (· rfl)) | refine pN ?_ | (apply WK.condT; (· rfl); (· exact dcd)) | fail)
  rename_i H1 hF1 hn1
  refine WKO.stW0 (vs := [.bool false, digA (limbs (m + n))]) rfl rfl hF1 rfl nxx (.inr nxx) rfl rfl (by simp only [List.all_cons, List.all_nil, digA_one, Bool.and_true]; rfl) rfl ?_
  intro H9 hF9 hn9
  repeat' (first | refine WK.ret ?_ | refine WKO.nil ?_ | refine pN ?_ | refine pR ?_ | refine bR ?_ | fail)
  exact ⟨fun id q => (by cases q), _, resK_obj rfl (HF.obj hF9 _ (.head _)) rfl, rfl⟩
theorem mul_walk {m n : Nat} (hm : m < bigN) (hn : n < bigN) : ∃ v H', xfunc (xcallK KB F 2000 0) 2000 L58 [.agg [.bool false, digA (limbs m)], .agg [.bool false, digA (limbs n)]] ⟨.e, 0⟩ = some (v, H') ∧ v = .agg [.bool false, digA (limbs (m * n))] := by
  refine xfunc_ofK rfl (by show 2 ≤ 16; omega) ?_
  have hF := HF.start ⟨.e, 0⟩
  generalize (⟨.e, 0⟩ : AHeap) = H at hF ⊢
  unfold L58
  dsimp only
  repeat' (first | refine WK.seq ?_ | (apply WK.reg; (· exact lnn)) | (refine WK.regC1 11 rfl rfl rfl ?_ ; dsimp only [List.take_succ_cons, List.take_zero]) | (apply WKO.boxO; (· rfl); (· assumption); (· rfl); (· exact nxx); (· exact nxx); (· exact nxx); intro _ _ _) | (apply WKO.alO; (· assumption); (· rfl); (· exact nxx); (· exact nxx); (· exact nxx); intro _ _ _) | refine WKC.nil ?_ | refine WKO.nil ?_ | ((first | apply WKC.op); (· first | exact k_neB rfl rfl | exact k_call rfl rfl (cfhit (KB_81 hm hn _)) | exact k_call rfl rfl (cfhit (KB_52 _ _)) | (apply k_ldO; (· rfl); (· assumption); (· rfl); (· exact mmb); (· rfl)) | exact k_faddr rfl); (· rfl)) | refine pN ?_ | fail)
  rename_i H1 hF1 hn1
  refine WKO.stW0 (vs := [.bool false, digA (limbs (m * n))]) rfl rfl hF1 rfl nxx (.inr nxx) rfl rfl (by simp only [List.all_cons, List.all_nil, digA_one, Bool.and_true]; rfl) rfl ?_
  intro H9 hF9 hn9
  repeat' (first | refine WK.ret ?_ | refine WKO.nil ?_ | refine pN ?_ | fail)
  exact ⟨fun id q => (by cases q), _, resK_obj rfl (HF.obj hF9 _ (.head _)) rfl, rfl⟩
theorem Add_call {m n : Nat} (hm : m < bigN) (hn : n < bigN) (H : AHeap) : CallOK Tryd.prog 38 [IntV m, IntV n] H (IntV (m + n)) H := by
  obtain ⟨v, H', h, rfl⟩ := add_walk hm hn
  have h2 := xcallK_sound mixed KB_ok F_ok 2000 1 38 _ _ _ _ ((cfstep rfl rfl).trans h)
  rw [← IntV_eq, ← IntV_eq, ← IntV_eq] at h2
  exact h2.pure (by simp [AV.frozL, IntV_froz]) (Fz.froz (IntV_froz _))
theorem Mul_call {m n : Nat} (hm : m < bigN) (hn : n < bigN) (H : AHeap) : CallOK Tryd.prog 58 [IntV m, IntV n] H (IntV (m * n)) H := by
  obtain ⟨v, H', h, rfl⟩ := mul_walk hm hn
  have h2 := xcallK_sound mixed KB_ok F_ok 2000 1 58 _ _ _ _ ((cfstep rfl rfl).trans h)
  rw [← IntV_eq, ← IntV_eq, ← IntV_eq] at h2
  exact h2.pure (by simp [AV.frozL, IntV_froz]) (Fz.froz (IntV_froz _))
theorem Of_call {n : Nat} (hn : n < 4611686018427387904) (H : AHeap) : CallOK Tryd.prog 36 [.int .i64 (n : Int)] H (IntV n) H := by
  obtain ⟨v, H', h, hI, _⟩ := Of_ok (cf := xcallK Kno F 2100 1) (fuel := 2100) (H := ⟨.e, 0⟩) hn
    (fun H v l q1 q2 => by
      obtain ⟨v', H', h1, h2, h3⟩ := trim_ok (cf := xcallK Kno F 2100 0) (fuel := 2100) q1 (by omega) (by omega)
      exact ⟨v', H', (cfstep rfl rfl).trans h1, h2, h3⟩)
    (fun H v l q1 => by
      obtain ⟨v', H', h1, rfl, h3⟩ := made_ok (cf := xcallK Kno F 2100 0) (fuel := 2100) q1
      exact ⟨H', (cfstep rfl rfl).trans h1, h3⟩)
  have h2 := xcallK_sound mixed Kno_ok F_ok 2100 2 36 _ _ _ _ ((cfstep rfl rfl).trans h)
  exact h2.pure rfl hI.fz
end Go.Proofs.YtfcgofffalmdfaaDoor.PA
namespace Go.Proofs.YtfcgofffalmdfaaDoor.PA
open Go Go.Eng Go.Proofs
abbrev intA (n : Nat) : AV := .agg [.bool false, digA (limbs n)]
theorem intA_V (n : Nat) : IntV n = intA n := IntV_eq n
noncomputable def KN : CF := fun f args H => match f, args with
  | 36, [.int .i64 (.ofNat n)] => if n < 4611686018427387904 then some (intA n, H) else none
  | 38, [x, y] => (unInt x).bind fun m => (unInt y).bind fun n => if m < bigN ∧ n < bigN then some (intA (m + n), H) else none
  | 58, [x, y] => (unInt x).bind fun m => (unInt y).bind fun n => if m < bigN ∧ n < bigN then some (intA (m * n), H) else none
  | _, _ => none
theorem KN_ok : CFok Tryd.prog KN := by
  intro f args H v H' h
  unfold KN at h
  split at h
  · split at h
    · rename_i n hb
      cases h
      have := Of_call hb H
      rw [intA_V] at this
      exact this
    · cases h
  · obtain ⟨m, h1, h⟩ := Option.bind_eq_some_iff.1 h
    obtain ⟨n, h2, h⟩ := Option.bind_eq_some_iff.1 h
    split at h
    · rename_i hb
      cases h
      rw [unInt_some h1, unInt_some h2, ← intA_V]
      exact Add_call hb.1 hb.2 H
    · cases h
  · obtain ⟨m, h1, h⟩ := Option.bind_eq_some_iff.1 h
    obtain ⟨n, h2, h⟩ := Option.bind_eq_some_iff.1 h
    split at h
    · rename_i hb
      cases h
      rw [unInt_some h1, unInt_some h2, ← intA_V]
      exact Mul_call hb.1 hb.2 H
    · cases h
  · cases h
theorem unInt_A (n : Nat) : unInt (intA n) = some n := by rw [← intA_V]; exact unInt_V n
theorem KN_36 {n : Nat} (h : n < 4611686018427387904) (H : AHeap) : KN 36 [.int .i64 (.ofNat n)] H = some (intA n, H) := by
  show (if n < 4611686018427387904 then some (intA n, H) else none) = _
  rw [if_pos h]
theorem KN_38 {m n : Nat} (hm : m < bigN) (hn : n < bigN) (H : AHeap) : KN 38 [intA m, intA n] H = some (intA (m + n), H) := by
  show ((unInt (intA m)).bind fun m => (unInt (intA n)).bind fun n => if m < bigN ∧ n < bigN then some (intA (m + n), H) else none) = _
  rw [unInt_A, unInt_A, Option.bind_some, Option.bind_some, if_pos ⟨hm, hn⟩]
theorem KN_58 {m n : Nat} (hm : m < bigN) (hn : n < bigN) (H : AHeap) : KN 58 [intA m, intA n] H = some (intA (m * n), H) := by
  show ((unInt (intA m)).bind fun m => (unInt (intA n)).bind fun n => if m < bigN ∧ n < bigN then some (intA (m * n), H) else none) = _
  rw [unInt_A, unInt_A, Option.bind_some, Option.bind_some, if_pos ⟨hm, hn⟩]
section
variable {cf : CF} {n : Nat} {H H' : AHeap} {l : KL0} {x y a : XO} {X v : AV} {b : List Nat} {j : Nat} {r : List XOper} {R : KL0 → AHeap → Prop}
theorem rowC_take {b : List Nat} {j : Nat} (h : j < b.length) : ((rowC b).drop (j * 2)).take 2 = [.bool false, digA (limbs (b.getD j 0))] := by
  obtain ⟨h1, h2⟩ := rowC_at b j h
  have hl := rowC_len b
  apply List.ext_getElem?
  intro i
  rw [List.getElem?_take, List.getElem?_drop]
  match i with
  | 0 => rw [if_pos (by omega), Nat.add_zero, h1]; rfl
  | 1 => rw [if_pos (by omega), h2]; rfl
  | i + 2 => rw [if_neg (by omega)]; rfl
theorem k_ldI (hx : evK l x = some (adE X (j * 2))) (hE : RdR 2 H X b.length (rowC b)) (hm : H'.m = H.m) (hj : j < b.length) : XV cf l H' n (.load (some 2) x) = some (intA (b.getD j 0), H') := by
  obtain ⟨c, h1, h2⟩ := hE.at (H' := H') (p := j * 2) (fun i _ => by unfold AHeap.get; rw [hm]) (by omega)
  refine k_load hx ?_
  have hl : 2 ≤ b.length * 2 - j * 2 := by omega
  have h3 : c.take 2 = [.bool false, digA (limbs (b.getD j 0))] := by
    rw [← rowC_take hj, ← h2, List.take_take, Nat.min_eq_left hl]
  simp only [loadA, h1]
  have hlen : 2 ≤ c.length := by
    have : (c.take 2).length = 2 := by rw [h3]; rfl
    rw [List.length_take] at this
    omega
  rw [if_pos hlen, h3]
theorem k_ldG {i m : Nat} {c : List AV} {opn : Option Nat} (hx : evK l x = some (.ptr i 0)) (hg : H.get i = some (.cells c opn)) (hm : H'.m = H.m) (hc : c.length = m) : XV cf l H' n (.load (some m) x) = some (.agg c, H') := by
  have hg' : H'.get i = some (.cells c opn) := by unfold AHeap.get; rw [hm]; exact hg
  refine k_load hx ?_
  simp only [loadA, cellsAt, hg', List.drop_zero]
  rw [if_pos (by omega), List.take_of_length_le (by omega)]
theorem WKO.stI {w : Nat} (hR : Row 2 H v b.length (rowC b)) (hm : H'.m = H.m) (hn : H.next ≤ H'.next) (hj : j < b.length) (ha : evK l a = some (adE v (j * 2))) (hx : evK l x = some (intA w))
    (k : ∀ H1, Row 2 H1 v b.length (rowC (b.set j w)) → H1.next = H'.next → (∀ q, v.own ≠ some q → H1.get q = H'.get q) → WKO cf r (n + 1) l H1 R) : WKO cf (⟨none, .store 2 a x, none⟩ :: r) n l H' R := by
  obtain ⟨h0, ⟨rfl, h⟩ | ⟨i, full, rfl, hg, hf, hfl, hi⟩⟩ := hR
  · omega
  · have hg' : H'.get i = some (.cells full (some 2)) := by unfold AHeap.get; rw [hm]; exact hg
    have ha' : evK l a = some (.ptr i (j * 2)) := by
      rw [ha]
      show some (AV.ptr i (0 + j * 2)) = _
      rw [Nat.zero_add]
    have hst := op_store (cf := cf) (m := n) (n := 2) (i := i) (o := j * 2) (v := intA w) (H := H') (ev := evK l) ha' hx hg' rfl (by simp only [AV.cells, List.all_cons, List.all_nil, digA_one, Bool.and_true]; rfl) (by omega)
    refine WKO.opn (k_any hst) (by simp [allSm, XOp.opnds, ha, hx]) (k _ ⟨by rw [rowC_len, List.length_set], .inr ⟨i, _, rfl, by rw [AHeap.get_set, if_pos rfl], ?_, ?_, by rw [next_set]; omega⟩⟩ rfl (fun q hq => by rw [AHeap.get_set, if_neg (fun e => hq (by rw [e]; rfl))]))
    · rw [← rowC_set _ _ _ hj, ← hf]
      have e : (intA w).cells = intC w := rfl
      rw [e]
      have h2 : (intC w).length = 2 := rfl
      unfold overA
      rw [h2, List.append_assoc, List.take_append, List.take_append, List.length_take, h2]
      rw [Nat.min_eq_left (show j * 2 ≤ full.length by omega)]
      rw [List.take_take, List.take_take, Nat.min_comm, List.take_of_length_le (show (intC w).length ≤ b.length * 2 - j * 2 by rw [h2]; omega), List.drop_take, Nat.sub_sub, List.append_assoc]
    · unfold overA
      have h2 : (intA w).cells.length = 2 := rfl
      rw [List.length_append, List.length_append, List.length_take, List.length_drop, h2]
      omega
theorem WKO.apI {d1 d2 w : Nat} (hR : RowE 2 H v b.length (rowC b)) (hm : H'.m = H.m) (hn : H.next ≤ n) (hlt : n < H'.next) (hl : b.length < 1000000) (hy : evK l y = some (intA w)) (hx : evK ((d1, .sl n 0 1 1) :: l) x = some v)
    (k : ∀ v' H1, RowE 2 H1 v' (b ++ [w]).length (rowC (b ++ [w])) → H'.next ≤ H1.next → (∀ q, q < H.next → v.own ≠ some q → H1.get q = H.get q) → (∀ i, v'.own = some i → v.own = some i ∨ H.next ≤ i) → WKO cf r (n + 1 + 1) ((d2, v') :: (d1, .sl n 0 1 1) :: l) H1 R) :
    WKO cf (⟨some d1, .bslice [.bool false, .nils] [(0, 2, y)] 1, none⟩ :: ⟨some d2, .app 2 32 x (.t d1), none⟩ :: r) n l H' R := by
  have hR' : RowE 2 H' v b.length (rowC b) := hR.frame (by omega) (fun i _ => by unfold AHeap.get; rw [hm])
  refine WKO.append1E (m := b.length) (v := v) (cs := rowC b) (new := intC w) hR' hx ?_ (by simp [allSm, XOp.opnds, hy]) (by omega) (by omega) (by decide) rfl (by simp only [intC, List.all_cons, List.all_nil, digA_one, Bool.and_true]; rfl) hlt (fun e => ?_) (fun v' H1 q1 q2 q3 q4 => k v' H1 ?_ q2 (fun q h1 h2 => ?_) (fun i hi => ?_))
  · simp only [evParts, hy, bind, Option.bind_some]
    rfl
  · have := hR.own_lt e
    omega
  · rw [rowC_app, rowC_one, List.length_append, List.length_singleton]
    exact .inl q1
  · rw [q3 q (by omega) (by omega) h2]
    unfold AHeap.get
    rw [hm]
  · rcases q4 i hi with q | q
    · exact .inl q
    · exact .inr (by omega)
end
end Go.Proofs.YtfcgofffalmdfaaDoor.PA
namespace Go.Proofs.YtfcgofffalmdfaaDoor.PA
open Go Go.Eng Go.Proofs
def Kx (H : AHeap) (v : AV) (H' : AHeap) (v' : AV) : Prop := H.next ≤ H'.next ∧ (∀ q, q < H.next → v.own ≠ some q → H'.get q = H.get q) ∧ ∀ i, v'.own = some i → v.own = some i ∨ H.next ≤ i
theorem Kx.refl (H : AHeap) (v : AV) : Kx H v H v := ⟨Nat.le_refl _, fun _ _ _ => rfl, fun i h => .inl h⟩
theorem Kx.trans {H H1 H2 : AHeap} {v v1 v2 : AV} (h : Kx H v H1 v1) (k : Kx H1 v1 H2 v2) : Kx H v H2 v2 := by
  refine ⟨Nat.le_trans h.1 k.1, fun q hq hv => ?_, fun i hi => ?_⟩
  · rw [k.2.1 q (Nat.lt_of_lt_of_le hq h.1) (fun e => ?_), h.2.1 q hq hv]
    rcases h.2.2 q e with r | r
    · exact hv r
    · omega
  · rcases k.2.2 i hi with r | r
    · exact h.2.2 i r
    · exact .inr (Nat.le_trans h.1 r)
theorem Kx.up {H H1 H2 : AHeap} {v v1 : AV} (h : Kx H v H1 v1) (hm : H2.m = H1.m) (hn : H1.next ≤ H2.next) : Kx H v H2 v1 :=
  ⟨Nat.le_trans h.1 hn, fun q hq hv => by
    have : H2.get q = H1.get q := by unfold AHeap.get; rw [hm]
    rw [this, h.2.1 q hq hv], h.2.2⟩
theorem list_getD_ext {a b : List Nat} (hl : a.length = b.length) (h : ∀ j, j < a.length → a.getD j 0 = b.getD j 0) : a = b := by
  apply List.ext_getElem hl
  intro j h1 h2
  have := h j h1
  simpa only [List.getD_eq_getElem?_getD, List.getElem?_eq_getElem h1, List.getElem?_eq_getElem h2, Option.getD_some] using this
theorem plusF_getD (a b : List Nat) (k j : Nat) (h : j < (plusF a b k).length) : (plusF a b k).getD j 0 = a.getD j 0 + if k ≤ j then b.getD (j - k) 0 else 0 := by
  rw [List.getD_eq_getElem?_getD, List.getElem?_eq_getElem h]
  unfold plusF
  simp
theorem getD_none {a : List Nat} {j : Nat} (h : a.length ≤ j) : a.getD j 0 = 0 := by rw [List.getD_eq_getElem?_getD, List.getElem?_eq_none h]; rfl
theorem getD_rep (a : List Nat) (k j : Nat) : (a ++ List.replicate k 0).getD j 0 = a.getD j 0 := by
  by_cases h : j < a.length
  · rw [List.getD_eq_getElem?_getD, List.getElem?_append_left h, ← List.getD_eq_getElem?_getD]
  · rw [getD_none (a := a) (by omega), List.getD_eq_getElem?_getD, List.getElem?_append_right (by omega), List.getElem?_replicate]
    split <;> rfl
set_option maxHeartbeats 2000000 in
theorem plusR_ok {cf : CF} {fuel : Nat} {H : AHeap} {v w : AV} {a b : List Nat} {k : Nat} (h36 : ∀ H, cf 36 [.int .i64 (.ofNat 0)] H = some (intA 0, H)) (h38 : ∀ {m n : Nat}, m < bigN → n < bigN → ∀ H, cf 38 [intA m, intA n] H = some (intA (m + n), H))
    (hv : RowE 2 H v a.length (rowC a)) (hw : RdR 2 H w b.length (rowC b)) (hd : ∀ i, w.own = some i → v.own ≠ some i) (hla : a.length < 1000) (hlb : b.length < 1000) (hk : k < 1000) (hs : a.sum + b.sum < bigN) (hf : 3000 < fuel) :
    ∃ v' H', xfunc cf fuel L45 [v, w, nA k] H = some (v', H') ∧ (RowE 2 H' v' (plusF a b k).length (rowC (plusF a b k)) ∧ Kx H v H' v') := by
  refine xfunc_ofK rfl (by show 3 ≤ 42; omega) ?_
  have hwn : ∀ i, w.own = some i → i < H.next := fun i hi => hw.own_lt hi
  unfold L45
  dsimp only
  refine WK.seq (WK.reg (k := 1) rfl (WKO.op (k_mv rfl) rfl (WKO.nil ⟨fun _ => ?_, fun q => absurd rfl q⟩)))
  refine WK.cut (α := AV) (fun u => [(0, u), (1, w), (2, nA k)]) (fun u H1 => RowE 2 H1 u (a ++ List.replicate (b.length + k - a.length) 0).length (rowC (a ++ List.replicate (b.length + k - a.length) 0)) ∧ Kx H v H1 u) ?_ ?_
  · refine WK.block (WK.loop (α := Nat × AV) (fun s => [(0, s.2), (1, w), (2, nA k)]) (fun s H1 => RowE 2 H1 s.2 (a ++ List.replicate s.1 0).length (rowC (a ++ List.replicate s.1 0)) ∧ Kx H v H1 s.2 ∧ s.1 ≤ b.length + k - a.length) (fun s => 2000 - s.1) (0, v) (.cons rfl <| .cons rfl <| .cons rfl <| .nil _) ?_ (by show 2000 - 0 < fuel; omega) ?_)
    · exact ⟨by simpa using hv.frame (by simp only [next_bump]; omega) (fun _ _ => get_bump _ _ _), (Kx.refl H v).up rfl (by simp only [next_bump]; omega), Nat.zero_le _⟩
    · rintro ⟨t, u⟩ H1 ⟨h1, h2, h3⟩
      simp only at h1 h2 h3 ⊢
      have hlen : (a ++ List.replicate t 0).length = a.length + t := by simp
      repeat' (first | refine WK.seq ?_ | refine WK.skip ?_ | refine WK.exit ?_ | refine WK.block ?_ | (apply WK.reg; (· exact lnn)) | refine WKO.nil ?_ | ((first | apply WKO.op); (· first | exact k_mv rfl | exact k_lenE rfl (RdR.of h1) | exact k_lenE rfl hw | exact k_call rfl rfl (h36 _) | exact opA); (· rfl)) | refine pN ?_ | refine pX ?_ | refine bX ?_ | (apply WK.condD; (· rfl); all_goals intro _) | fail)
      · refine WKO.apI (b := a ++ List.replicate t 0) (w := 0) h1 rfl nxx nxx (by omega) rfl rfl ?_
        rintro v' H2 q1 q2 q3 q4
        repeat' (first | refine WKO.nil ?_ | ((first | apply WKO.op); (· first | exact k_mv rfl); (· rfl)) | refine pN ?_ | refine bN ?_ | fail)
        refine ⟨(t + 1, v'), (.cons rfl <| .cons rfl <| .cons rfl <| .nil _), ⟨?_, h2.trans ⟨by simp only [next_bump] at q2; omega, q3, q4⟩, by show t + 1 ≤ _; omega⟩, by show 2000 - (t + 1) < 2000 - t; omega⟩
        have e : a ++ List.replicate (t + 1) 0 = a ++ List.replicate t 0 ++ [0] := by rw [List.replicate_succ']; simp
        simp only
        rw [e]
        exact q1
      · have ht : b.length + k - a.length = t := by omega
        refine ⟨fun _ => ⟨u, (.cons rfl <| .cons rfl <| .cons rfl <| .nil _), ?_, h2.up rfl (by simp only [next_bump]; omega)⟩, fun q => absurd rfl q⟩
        rw [ht]
        exact h1.frame (by simp only [next_bump]; omega) (fun _ _ => get_bump _ _ _)
  · intro u H1 ⟨h1, h2⟩
    generalize hA : a ++ List.replicate (b.length + k - a.length) 0 = A at h1
    have hAl : A.length = (plusF a b k).length := by rw [← hA, plusF_len, List.length_append, List.length_replicate]; omega
    have hAg : ∀ j, A.getD j 0 = a.getD j 0 := fun j => by rw [← hA]; exact getD_rep _ _ _
    have hPl := plusF_len a b k
    have huw : ∀ i, w.own = some i → u.own ≠ some i := fun i hi e => by
      rcases h2.2.2 i e with q | q
      · exact hd i hi q
      · have := hwn i hi; omega
    have hw1 : RdR 2 H1 w b.length (rowC b) := hw.frame h2.1 (fun i hi => h2.2.1 i (hwn i hi) (hd i hi))
    repeat' (first | refine WK.seq ?_ | refine WK.block ?_ | (apply WK.reg; (· exact lnn)) | refine WKO.nil ?_ | ((first | apply WKO.op); (· first | exact k_mv rfl | exact k_lenE rfl hw1); (· rfl)) | refine pN ?_ | fail)
    refine WK.loop (α := Nat × List Nat) (fun s => [(0, u), (1, w), (2, nA k), (20, w), (21, nA b.length), (22, nA s.1)]) (fun s H2 => RowE 2 H2 u s.2.length (rowC s.2) ∧ Kx H1 u H2 u ∧ s.1 ≤ b.length ∧ s.2.length = A.length ∧ ∀ j, s.2.getD j 0 = a.getD j 0 + if k ≤ j ∧ j < k + s.1 then b.getD (j - k) 0 else 0) (fun s => b.length - s.1) (0, A) (.cons rfl <| .cons rfl <| .cons rfl <| .cons rfl <| .cons rfl <| .cons rfl <| .nil _) ?_ (by show b.length - 0 < fuel; omega) ?_
    · refine ⟨h1.frame (by simp only [next_bump]; omega) (fun _ _ => get_bump _ _ _), (Kx.refl H1 u).up rfl (by simp only [next_bump]; omega), Nat.zero_le _, rfl, fun j => ?_⟩
      simp only
      rw [hAg, if_neg (by omega)]
      rfl
    · rintro ⟨i, c⟩ H2 ⟨g1, g2, g3, g4, g5⟩
      simp only at g1 g2 g3 g4 g5 ⊢
      have hw2 : RdR 2 H2 w b.length (rowC b) := hw1.frame g2.1 (fun i hi => g2.2.1 i (hw1.own_lt hi) (huw i hi))
      have hF2 := HF.start H2
      have hb1 : b.getD i 0 < bigN := by have := getD_le b i; omega
      have hb2 : c.getD (i + k) 0 < bigN := by
        rw [g5, if_neg (by omega)]
        have := getD_le a (i + k)
        omega
      repeat' (first | refine WK.seq ?_ | refine WK.skip ?_ | refine WK.exit ?_ | refine WK.block ?_ | (apply WK.reg; (· exact lnn)) | (apply WKO.alO; (· assumption); (· rfl); (· exact nxx); (· exact nxx); (· exact nxx); intro _ _ _) | refine WKO.nil ?_ | ((first | apply WKO.op); (· first | exact k_mv rfl | exact k_iaE rfl rfl hw2 (by omega) | exact k_ldI rfl hw2 rfl (by omega) | exact opA); (· rfl)) | refine pN ?_ | refine pX ?_ | refine bX ?_ | (apply WK.condD; (· rfl); all_goals intro _) | fail)
      · rename_i H3 hF3 hn3
        refine WKO.stW0 (vs := [.bool false, digA (limbs (b.getD i 0))]) rfl rfl hF3 rfl nxx (.inr nxx) rfl rfl (by simp only [List.all_cons, List.all_nil, digA_one, Bool.and_true]; rfl) rfl ?_
        intro H4 hF4 hn4
        have hkeep : ∀ j, j < H2.next → H4.get j = H2.get j := fun j hj => hF4.fr j hj (by simp)
        have hn24 : H2.next ≤ H4.next := by simp only [next_bump] at hn3 hn4; omega
        have gR4 : RowE 2 H4 u c.length (rowC c) := g1.frame hn24 (fun j hj => hkeep j (g1.own_lt hj))
        repeat' (first | (apply WK.regd0; (· exact lnn)) | refine WKO.nil ?_ | ((first | apply WKO.op); (· first | exact k_mv rfl | exact k_iaE rfl rfl (RdR.of gR4) (by omega) | exact k_ldI rfl (RdR.of gR4) rfl (by omega) | (apply k_ldA; (· rfl); (· exact hF4); (· rfl); (· exact .head _); (· rfl)) | exact k_call rfl rfl (h38 (by assumption) (by assumption) _) | exact opA); (· rfl)) | refine pN ?_ | fail)
        have gR5 : Row 2 H4 u c.length (rowC c) := by
          rcases gR4 with q | ⟨q, _⟩
          · exact q
          · omega
        refine WKO.stI gR5 rfl nxx (by omega) rfl rfl ?_
        intro H5 r5 n5 f5
        repeat' (first | (apply WK.reg; (· exact lnn)) | refine WKO.nil ?_ | ((first | apply WKO.op); (· first | exact k_mv rfl | exact opA); (· rfl)) | refine pN ?_ | refine bN ?_ | fail)
        refine ⟨(i + 1, c.set (i + k) (c.getD (i + k) 0 + b.getD i 0)), (.cons rfl <| .cons rfl <| .cons rfl <| .cons rfl <| .cons rfl <| .cons rfl <| .nil _), ⟨?_, ?_, by show i + 1 ≤ b.length; omega, by simp [g4], fun j => ?_⟩, by show b.length - (i + 1) < b.length - i; omega⟩
        · simp only [List.length_set]
          exact RowE.frame (.inl r5) (by simp only [next_bump]; omega) (fun _ _ => get_bump _ _ _)
        · simp only [next_bump] at n5
          refine g2.trans ⟨by simp only [next_bump]; omega, fun q hq hu => ?_, fun i hi => .inl hi⟩
          rw [get_bump, f5 q hu, get_bump]
          exact hkeep q hq
        · simp only
          by_cases hj : j = i + k
          · subst hj
            rw [List.getD_eq_getElem?_getD, List.getElem?_set_self (by omega), Option.getD_some, g5 (i + k), if_neg (by omega), if_pos (by omega), show i + k - k = i by omega, Nat.add_zero]
          · rw [List.getD_eq_getElem?_getD, List.getElem?_set_ne (fun e => hj e.symm), ← List.getD_eq_getElem?_getD, g5 j]
            by_cases hc : k ≤ j ∧ j < k + i
            · rw [if_pos hc, if_pos (by omega)]
            · rw [if_neg hc, if_neg (by omega)]
      · refine ⟨fun _ => ?_, fun q => absurd rfl q⟩
        repeat' (first | refine WK.seq ?_ | refine WK.ret ?_ | (apply WK.reg; (· exact lnn)) | refine WKO.nil ?_ | ((first | apply WKO.op); (· first | exact k_mv rfl); (· rfl)) | refine pN ?_ | fail)
        have hib : i = b.length := by omega
        have hcP : c = plusF a b k := by
          refine list_getD_ext (by omega) fun j hj => ?_
          rw [g5 j, plusF_getD _ _ _ _ (by omega), hib]
          by_cases h1 : k ≤ j
          · rw [if_pos h1]
            by_cases h2 : j < k + b.length
            · rw [if_pos ⟨h1, h2⟩]
            · rw [if_neg (by omega), getD_none (a := b) (by omega)]
          · rw [if_neg h1, if_neg (by omega)]
        rw [hcP] at g1
        exact ⟨fun id q => (by cases q), [u], rfl, g1.frame (by simp only [next_bump]; omega) (fun _ _ => get_bump _ _ _), (h2.trans g2).up rfl (by simp only [next_bump]; omega)⟩
end Go.Proofs.YtfcgofffalmdfaaDoor.PA
namespace Go.Proofs.YtfcgofffalmdfaaDoor.PA
open Go Go.Eng Go.Proofs
theorem plus_m {fuel k : Nat} (hf : 3000 < fuel) {H : AHeap} {v w : AV} {a b : List Nat} {n : Nat} (hv : RowE 2 H v a.length (rowC a)) (hw : RdR 2 H w b.length (rowC b)) (hd : ∀ i, w.own = some i → v.own ≠ some i) (hla : a.length < 1000) (hlb : b.length < 1000) (hk : n < 1000) (hs : a.sum + b.sum < bigN) :
    ∃ v' H', xcallK KN F fuel (k + 1) 45 [v, w, nA n] H = some (v', H') ∧ (RowE 2 H' v' (plusF a b n).length (rowC (plusF a b n)) ∧ Kx H v H' v') := by
  obtain ⟨v', H', h1, h2⟩ := plusR_ok (cf := xcallK KN F fuel k) (fuel := fuel) (fun H => cfhit (KN_36 (by decide) H)) (fun hm hn H => cfhit (KN_38 hm hn H)) hv hw hd hla hlb hk hs hf
  exact ⟨v', H', (cfstep rfl rfl).trans h1, h2⟩
def rowI (l : List Nat) : AV := .imm (rowC l) l.length false
theorem rowI_V (l : List Nat) : RowV l = rowI l := by unfold RowV rowI; rfl
theorem rowI_rd (H : AHeap) (l : List Nat) : RdR 2 H (rowI l) l.length (rowC l) := RdR.imm (rowC_len l)
set_option maxHeartbeats 2000000 in
theorem timesR_ok {fuel k : Nat} {H : AHeap} {a b : List Nat} (hla : a.length < 400) (hlb : b.length < 400) (ha : a.sum < bigN) (hb : b.sum < bigN) (hs : a.sum * b.sum < bigN) (hf : 3000 < fuel) :
    ∃ v' H', xfunc (xcallK KN F fuel (k + 1)) fuel L46 [rowI a, rowI b] H = some (v', H') ∧ RowE 2 H' v' (timesF a b).length (rowC (timesF a b)) := by
  refine xfunc_ofK rfl (by show 2 ≤ 37; omega) ?_
  unfold L46
  dsimp only
  repeat' (first | refine WK.seq ?_ | refine WK.block ?_ | (apply WK.reg; (· exact lnn)) | refine WKO.nil ?_ | ((first | apply WKO.op); (· first | exact k_mv rfl | exact k_lenE rfl (rowI_rd ⟨.e, 0⟩ _)); (· rfl)) | refine pN ?_ | fail)
  refine WK.loop (α := Nat × AV) (fun s => [(0, rowI a), (1, rowI b), (5, s.2), (11, rowI a), (12, nA a.length), (13, nA s.1)]) (fun s H' => RowE 2 H' s.2 (timesP a b s.1).length (rowC (timesP a b s.1)) ∧ s.1 ≤ a.length) (fun s => a.length - s.1) (0, .nils) (.cons rfl <| .cons rfl <| .cons rfl <| .cons rfl <| .cons rfl <| .cons rfl <| .nil _) ⟨.inl (Row.nil _ _), Nat.zero_le _⟩ (by show a.length - 0 < fuel; omega) ?_
  rintro ⟨i, u⟩ H1 ⟨h1, h2⟩
  simp only at h1 h2 ⊢
  have hF1 := HF.start H1
  have hA : ∀ j, a.getD j 0 < bigN := fun j => by have := getD_le a j; omega
  have hB : ∀ j, b.getD j 0 < bigN := fun j => by have := getD_le b j; omega
  repeat' (first | refine WK.seq ?_ | refine WK.skip ?_ | refine WK.exit ?_ | refine WK.block ?_ | (apply WK.reg; (· exact lnn)) | (apply WKO.alO; (· assumption); (· rfl); (· exact nxx); (· exact nxx); (· exact nxx); intro _ _ _) | refine WKO.nil ?_ | ((first | apply WKO.op); (· first | exact k_mv rfl | exact k_iaE rfl rfl (rowI_rd H1 _) (by omega) | exact k_ldI rfl (rowI_rd H1 _) rfl (by omega) | exact opA); (· rfl)) | refine pN ?_ | refine pX ?_ | refine bX ?_ | (apply WK.condD; (· rfl); all_goals intro _) | fail)
  · rename_i H2 hF2 hn2
    refine WKO.stW0 (vs := [.bool false, digA (limbs (a.getD i 0))]) rfl rfl hF2 rfl nxx (.inr nxx) rfl rfl (by simp only [List.all_cons, List.all_nil, digA_one, Bool.and_true]; rfl) rfl ?_
    intro H3 hF3 hn3
    generalize hq : (H1.bump 1).next + 1 + 1 + 1 = qx at *
    have gq : H3.get qx = some (.cells [.bool false, digA (limbs (a.getD i 0))] none) := hF3.obj _ (.head _)
    have hq2 : qx < H3.next := by simp only [next_bump] at hn2 hn3 hq; omega
    have gU : RowE 2 H3 u (timesP a b i).length (rowC (timesP a b i)) := h1.frame (by simp only [next_bump] at hn2 hn3; omega) (fun j hj => hF3.fr j (h1.own_lt hj) (by simp))
    have hUq : ∀ j, u.own = some j → j < H1.next := fun j hj => h1.own_lt hj
    repeat' (first | refine WK.seq ?_ | refine WK.block ?_ | (apply WK.reg; (· exact lnn)) | refine WKO.nil ?_ | ((first | apply WKO.op); (· first | exact k_mv rfl | exact k_lenE rfl (rowI_rd H1 _)); (· rfl)) | refine pN ?_ | fail)
    refine WK.loop (α := Nat × AV) (fun s => [(0, rowI a), (1, rowI b), (5, u), (11, rowI a), (12, nA a.length), (13, nA i), (6, nA i), (7, .ptr qx 0), (8, s.2), (18, rowI b), (19, nA b.length), (20, nA s.1)])
      (fun s H' => RowE 2 H' s.2 ((b.take s.1).map fun y => a.getD i 0 * y).length (rowC ((b.take s.1).map fun y => a.getD i 0 * y)) ∧ Kx H3 .nils H' s.2 ∧ s.1 ≤ b.length) (fun s => b.length - s.1) (0, .nils) (.cons rfl <| .cons rfl <| .cons rfl <| .cons rfl <| .cons rfl <| .cons rfl <| .cons rfl <| .cons rfl <| .cons rfl <| .cons rfl <| .cons rfl <| .cons rfl <| .nil _) ⟨.inl (Row.nil _ _), (Kx.refl _ _).up rfl (by simp only [next_bump]; omega), Nat.zero_le _⟩ (by show b.length - 0 < fuel; omega) ?_
    rintro ⟨j, w⟩ H4 ⟨g1, g2, g3⟩
    simp only at g1 g2 g3 ⊢
    have hF4 := HF.start H4
    have gq4 : H4.get qx = some (.cells [.bool false, digA (limbs (a.getD i 0))] none) := (g2.2.1 qx hq2 (by simp [AV.own])).trans gq
    repeat' (first | refine WK.seq ?_ | refine WK.skip ?_ | refine WK.exit ?_ | refine WK.block ?_ | (apply WK.reg; (· exact lnn)) | (apply WKO.alO; (· assumption); (· rfl); (· exact nxx); (· exact nxx); (· exact nxx); intro _ _ _) | refine WKO.nil ?_ | ((first | apply WKO.op); (· first | exact k_iaE rfl rfl (rowI_rd H4 _) (by omega) | exact k_ldI rfl (rowI_rd H4 _) rfl (by omega) | exact opA); (· rfl)) | refine pN ?_ | refine pX ?_ | refine bX ?_ | (apply WK.condD; (· rfl); all_goals intro _) | fail)
    · rename_i H5 hF5 hn5
      refine WKO.stW0 (vs := [.bool false, digA (limbs (b.getD j 0))]) rfl rfl hF5 rfl nxx (.inr nxx) rfl rfl (by simp only [List.all_cons, List.all_nil, digA_one, Bool.and_true]; rfl) rfl ?_
      intro H6 hF6 hn6
      have hqlt : qx < H4.next := Nat.lt_of_lt_of_le hq2 g2.1
      have gq6 : H6.get qx = some (.cells [.bool false, digA (limbs (a.getD i 0))] none) := (hF6.fr qx hqlt (by simp)).trans gq4
      have hk6 : ∀ q, q < H4.next → H6.get q = H4.get q := fun q hq => hF6.fr q hq (by simp)
      have hn46 : H4.next ≤ H6.next := by simp only [next_bump] at hn5 hn6; omega
      repeat' (first | (apply WK.reg; (· exact lnn)) | refine WKO.nil ?_ | ((first | apply WKO.op); (· first | exact k_mv rfl | exact k_ldG rfl gq6 rfl rfl | (apply k_ldA; (· rfl); (· exact hF6); (· rfl); (· exact .head _); (· rfl)) | exact k_call rfl rfl (cfhit (KN_58 (hA _) (hB _) _))); (· rfl)) | refine pN ?_ | fail)
      refine WKO.apI (b := (b.take j).map fun y => a.getD i 0 * y) (w := a.getD i 0 * b.getD j 0) (H := H6) (g1.frame hn46 (fun q hq => hk6 q (g1.own_lt hq))) rfl nxx nxx (by simp; omega) rfl rfl ?_
      rintro v' H7 q1 q2 q3 q4
      repeat' (first | (apply WK.reg; (· exact lnn)) | refine WKO.nil ?_ | ((first | apply WKO.op); (· first | exact k_mv rfl | exact opA); (· rfl)) | refine pN ?_ | refine bN ?_ | fail)
      have e : ((b.take (j + 1)).map fun y => a.getD i 0 * y) = ((b.take j).map fun y => a.getD i 0 * y) ++ [a.getD i 0 * b.getD j 0] := by
        have hbj : b.getD j 0 = b[j] := by rw [List.getD_eq_getElem?_getD, List.getElem?_eq_getElem (show j < b.length by omega)]; rfl
        rw [List.take_add_one, List.map_append, List.getElem?_eq_getElem (show j < b.length by omega), hbj]
        rfl
      refine ⟨(j + 1, v'), (.cons rfl <| .cons rfl <| .cons rfl <| .cons rfl <| .cons rfl <| .cons rfl <| .cons rfl <| .cons rfl <| .cons rfl <| .cons rfl <| .cons rfl <| .cons rfl <| .nil _), ⟨?_, ?_, by show j + 1 ≤ b.length; omega⟩, by show b.length - (j + 1) < b.length - j; omega⟩
      · simp only
        rw [e]
        exact q1.frame (by simp only [next_bump]; omega) (fun _ _ => get_bump _ _ _)
      · simp only [next_bump] at q2
        refine (g2.trans (H2 := H7) (v2 := v') ⟨by omega, fun q hq hu => ?_, fun q hq => ?_⟩).up rfl (by simp only [next_bump]; omega)
        · rw [q3 q (by omega) hu]
          exact hk6 q hq
        · rcases q4 q hq with r | r
          · exact .inl r
          · exact .inr (by omega)
    · refine ⟨fun _ => ?_, fun q => absurd rfl q⟩
      have hjb : j = b.length := by omega
      rw [hjb, List.take_length] at g1
      repeat' (first | (apply WK.reg; (· exact lnn)) | ((first | apply WKO.op); (· first | exact k_mv rfl); (· rfl)) | fail)
      have hrl : (b.map fun y => a.getD i 0 * y).length = b.length := List.length_map ..
      have hrs : (b.map fun y => a.getD i 0 * y).sum = a.getD i 0 * b.sum := by
        have := sum_map_mul (a.getD i 0) (fun y : Nat => y) b
        rwa [List.map_id'] at this
      have hsum : (timesP a b i).sum + (b.map fun y => a.getD i 0 * y).sum < bigN := by
        rw [← plusF_sum _ _ i, ← timesP_succ]
        exact Nat.lt_of_le_of_lt (timesP_le a b (i + 1) (by omega)) hs
      have hlen := timesP_len a b i
      have gU4 : RowE 2 H4 u (timesP a b i).length (rowC (timesP a b i)) := gU.frame g2.1 (fun q hq => g2.2.1 q (gU.own_lt hq) (by simp [AV.own]))
      have hn13 : H1.next ≤ H3.next := by simp only [next_bump] at hn2 hn3; omega
      refine WKO.callV rfl rfl rfl (plus_m hf (gU4.frame (by simp only [next_bump]; omega) (fun _ _ => get_bump _ _ _)) ((RdR.of g1).frame (by simp only [next_bump]; omega) (fun _ _ => get_bump _ _ _)) (fun q hq hu => ?_) (by rw [hlen]; split <;> omega) (by omega) (by omega) hsum) ?_
      · have := hUq q hu
        rcases g2.2.2 q hq with r | r
        · cases r
        · omega
      · rintro v' H8 ⟨r1, r2⟩
        repeat' (first | (apply WK.reg; (· exact lnn)) | refine WKO.nil ?_ | ((first | apply WKO.op); (· first | exact k_mv rfl | exact opA); (· rfl)) | refine pN ?_ | refine bN ?_ | fail)
        refine ⟨(i + 1, v'), (.cons rfl <| .cons rfl <| .cons rfl <| .cons rfl <| .cons rfl <| .cons rfl <| .nil _), ⟨?_, by show i + 1 ≤ a.length; omega⟩, by show a.length - (i + 1) < a.length - i; omega⟩
        simp only
        rw [timesP_succ]
        exact r1.frame (by simp only [next_bump]; omega) (fun _ _ => get_bump _ _ _)
  · refine ⟨fun _ => ?_, fun q => absurd rfl q⟩
    have hia : i = a.length := by omega
    rw [hia] at h1
    repeat' (first | refine WK.seq ?_ | refine WK.ret ?_ | (apply WK.reg; (· exact lnn)) | refine WKO.nil ?_ | ((first | apply WKO.op); (· first | exact k_mv rfl); (· rfl)) | refine pN ?_ | fail)
    exact ⟨fun id q => (by cases q), [u], rfl, h1.frame (by simp only [next_bump]; omega) (fun _ _ => get_bump _ _ _)⟩
theorem times_R {a b : List Nat} (hla : a.length < 400) (hlb : b.length < 400) (ha : a.sum < bigN) (hb : b.sum < bigN) (hs : a.sum * b.sum < bigN) (H : AHeap) : CallOK Tryd.prog 46 [rowI a, rowI b] H (rowI (timesF a b)) H := by
  obtain ⟨v, H', h, hR⟩ := timesR_ok (fuel := 4000) (k := 1) (H := ⟨.e, 0⟩) hla hlb ha hb hs (by omega)
  have h2 := xcallK_sound mixed KN_ok F_ok 4000 3 46 _ _ _ _ ((cfstep rfl rfl).trans h)
  rw [← rowI_V, ← rowI_V] at *
  rw [← rowI_V]
  exact h2.pure (by simp [AV.frozL, RowV_froz]) (RowI.fz hR (fun i _ => get_e0 i))
end Go.Proofs.YtfcgofffalmdfaaDoor.PA
namespace Go.Proofs.YtfcgofffalmdfaaDoor.PA
open Go Go.Eng Go.Proofs
def KP : KT := ⟨true, [.i .i64, .i .i64]⟩
abbrev keyP (i j : Nat) : AV := .agg [nA i, nA j]
def litP (i j : Nat) : List Lit := [.int .i64 (i : Int), .int .i64 (j : Int)]
theorem wf64 {n : Nat} (h : n < 1000000) : (Lit.int .i64 (n : Int)).wf = true := by
  have h1 : IntKind.i64.min = -9223372036854775808 := by decide
  have h2 : IntKind.i64.max = 9223372036854775807 := by decide
  simp [Lit.wf, h1, h2]
  omega
theorem keyA_P {i j : Nat} (hi : i < 1000000) (hj : j < 1000000) : keyA KP (keyP i j) = some (litP i j) := by
  simp only [keyA, KP, if_true, litsA, nA, litA, wf64 hi, wf64 hj, and_self, litP]
  rfl
theorem litsEq_P (i j i' j' : Nat) : litsEq (litP i j) (litP i' j') = decide (i = i' ∧ j = j') := by
  rw [Bool.eq_iff_iff]
  simp [litP, litsEq, litEq]
  omega
theorem keyP_inj {i j i' j' : Nat} (h : keyP i j = keyP i' j') : i = i' ∧ j = j' := by
  simp only [keyP, nA, AV.agg.injEq, List.cons.injEq, AV.int.injEq, true_and, and_true] at h
  omega
theorem find_memo (i j : Nat) : ∀ (es : List (AV × AV)) (n : Nat), (∀ e ∈ es, ∃ i' j', i' < 1000000 ∧ j' < 1000000 ∧ e.1 = keyP i' j') →
    findE KP (litP i j) es n = some none ∨ ∃ k v, findE KP (litP i j) es n = some (some (n + k, v)) ∧ es[k]? = some (keyP i j, v)
  | [], n, _ => .inl rfl
  | (key, v) :: es, n, h => by
    obtain ⟨i', j', h1, h2, h3⟩ := h _ (List.mem_cons_self ..)
    simp only at h3
    subst h3
    have ih := find_memo i j es (n + 1) (fun e he => h e (List.mem_cons_of_mem _ he))
    simp only [findE, keyA_P h1 h2]
    rcases ih with ih | ⟨k, u, ih, hk⟩
    · rw [ih]
      simp only [litsEq_P]
      by_cases q : i = i' ∧ j = j'
      · obtain ⟨rfl, rfl⟩ := q
        exact .inr ⟨0, v, by simp, rfl⟩
      · have q' : ¬ (i' = i ∧ j' = j) := fun w => q ⟨w.1.symm, w.2.symm⟩
        simp [q, q']
    · rw [ih]
      simp only [litsEq_P]
      by_cases q : i = i' ∧ j = j'
      · obtain ⟨rfl, rfl⟩ := q
        exact .inr ⟨0, v, by simp, rfl⟩
      · have q' : ¬ (i' = i ∧ j' = j) := fun w => q ⟨w.1.symm, w.2.symm⟩
        refine .inr ⟨k + 1, u, ?_, by simpa using hk⟩
        simp [q, q']
        omega
theorem upd_memo {i j : Nat} {u : AV} {es : List (AV × AV)} (h : ∀ e ∈ es, ∃ i' j', i' < 1000000 ∧ j' < 1000000 ∧ e.1 = keyP i' j') : ∃ es', updE KP (litP i j) (keyP i j) u es = some es' ∧ ∀ e ∈ es', e = (keyP i j, u) ∨ e ∈ es := by
  unfold updE
  rcases find_memo i j es 0 h with q | ⟨k, v, q, hk⟩
  · rw [q]
    refine ⟨_, rfl, fun e he => ?_⟩
    rcases List.mem_append.1 he with he | he
    · exact .inr he
    · exact .inl (List.mem_singleton.1 he)
  · rw [q]
    refine ⟨_, rfl, fun e he => ?_⟩
    rcases List.mem_or_eq_of_mem_set he with he | he
    · exact .inr he
    · exact .inl he
end Go.Proofs.YtfcgofffalmdfaaDoor.PA
namespace Go.Proofs.YtfcgofffalmdfaaDoor.PA
open Go Go.Eng Go.Proofs
section
variable (may : Nat → Nat → Bool)
theorem lenN_le : ∀ n i, lenN may n i ≤ n + 1 := by
  intro n
  induction n using Nat.strongRecOn with
  | _ n ih =>
    intro i
    by_cases h : n < 2
    · rw [lenN_lt may h]; omega
    · have := lenP_eq may n i (n - 1)
      rw [← sizesN_ge may (by omega)] at this
      rcases this with q | ⟨j, h1, _, q⟩
      · have := ih (n - 1) (by omega) (i + 1)
        unfold lenN at *
        omega
      · have h3 := ih j (by omega) (i + 1)
        have h4 := ih (n - 2 - j) (by omega) (i + 2 + j)
        unfold lenN at *
        omega
theorem lenP_le1 (n i k : Nat) (hn : 2 ≤ n) (hk : k ≤ n - 1) : (sizesP may n i k).length ≤ n + 1 := by
  rcases lenP_eq may n i k with q | ⟨j, h1, _, q⟩
  · have := lenN_le may (n - 1) (i + 1)
    omega
  · have h3 := lenN_le may j (i + 1)
    have h4 := lenN_le may (n - 2 - j) (i + 2 + j)
    omega
end
theorem pow8 {n : Nat} (h : n ≤ 48) : 8 ^ n < bigN := by
  have h1 : 8 ^ n ≤ 8 ^ 64 := Nat.pow_le_pow_right (by decide) (by omega)
  have h2 : (8 : Nat) ^ 64 = B32 ^ 6 := by decide
  have h3 : B32 ^ 6 < B32 ^ 20 := Nat.pow_lt_pow_right (by decide) (by decide)
  rw [bigN_def]
  omega
section
variable (s : List UInt8) (rl : List Bool) (gap : Int) (R kn fn : Nat)
def szF (i j : Nat) : List Nat := sizesN (mayF s rl gap) (j - i) i
def MemoOK (es : List (AV × AV)) : Prop := ∀ e ∈ es, ∃ i j, i ≤ j ∧ j ≤ s.length ∧ e = (keyP i j, rowI (szF s rl gap i j))
structure GoodH (H : AHeap) : Prop where
  r : H.get R = some (.cells (ropeA s rl gap (.map kn) (.map fn)) none)
  k : ∃ es, H.get kn = some (.map es) ∧ MemoOK s rl gap es
  rn : R < H.next
  kn : kn < H.next
structure RopeP : Prop where
  rl : rl.length = 16
  sa : s.all inS' = true
  sl : s.length ≤ 40
  kR : kn ≠ R
  fk : fn ≠ kn
  fR : fn ≠ R
def Sp28 (i j : Nat) (H : AHeap) (v : AV) (H' : AHeap) : Prop := v = rowI (szF s rl gap i j) ∧ GoodH s rl gap R kn fn H' ∧ (∀ q, q < H.next → q ≠ kn → H'.get q = H.get q) ∧ H.next ≤ H'.next
theorem GoodH.up {H H' : AHeap} (h : GoodH s rl gap R kn fn H) (hn : H.next ≤ H'.next) (h1 : H'.get R = H.get R) (h2 : H'.get kn = H.get kn) : GoodH s rl gap R kn fn H' :=
  ⟨h1.trans h.r, by obtain ⟨es, q1, q2⟩ := h.k; exact ⟨es, h2.trans q1, q2⟩, Nat.lt_of_lt_of_le h.rn hn, Nat.lt_of_lt_of_le h.kn hn⟩
open Classical in
noncomputable def KS : CF := fun f args H =>
  if f = 28 then (if h : ∃ (r : AV × AHeap) (i j : Nat), args = [.ptr R 0, keyP i j] ∧ CallOK Tryd.prog 28 args H r.1 r.2 ∧ Sp28 s rl gap R kn fn i j H r.1 r.2 then some h.choose else none) else
  if f = 46 then (match args with
    | [x, y] => (unRow x).bind fun a => (unRow y).bind fun b => if a.length < 400 ∧ b.length < 400 ∧ a.sum < bigN ∧ b.sum < bigN ∧ a.sum * b.sum < bigN then some (rowI (timesF a b), H) else none
    | _ => none) else KN f args H
theorem KS_ok : CFok Tryd.prog (KS s rl gap R kn fn) := by
  intro f args H v H' h
  unfold KS at h
  split at h
  · rename_i hf
    subst hf
    split at h
    · rename_i q
      obtain ⟨i, j, h1, h2, h3⟩ := q.choose_spec
      simp only [Option.some.injEq] at h
      rw [h] at h2
      exact h2
    · cases h
  · split at h
    · rename_i hf
      subst hf
      split at h
      · obtain ⟨a, h1, h⟩ := Option.bind_eq_some_iff.1 h
        obtain ⟨b, h2, h⟩ := Option.bind_eq_some_iff.1 h
        split at h
        · rename_i hb
          cases h
          rw [unRow_some h1, unRow_some h2, rowI_V, rowI_V]
          exact times_R hb.1 hb.2.1 hb.2.2.1 hb.2.2.2.1 hb.2.2.2.2 H
        · cases h
      · cases h
    · exact KN_ok _ _ _ _ _ h
theorem KS_28 {i j : Nat} {H : AHeap} (h : ∃ v H', CallOK Tryd.prog 28 [.ptr R 0, keyP i j] H v H' ∧ Sp28 s rl gap R kn fn i j H v H') : ∃ v H', KS s rl gap R kn fn 28 [.ptr R 0, keyP i j] H = some (v, H') ∧ Sp28 s rl gap R kn fn i j H v H' := by
  obtain ⟨v, H', h1, h2⟩ := h
  have q : ∃ (r : AV × AHeap) (i' j' : Nat), [AV.ptr R 0, keyP i j] = [.ptr R 0, keyP i' j'] ∧ CallOK Tryd.prog 28 [.ptr R 0, keyP i j] H r.1 r.2 ∧ Sp28 s rl gap R kn fn i' j' H r.1 r.2 := ⟨(v, H'), i, j, rfl, h1, h2⟩
  refine ⟨_, _, (by unfold KS; rw [if_pos rfl, dif_pos q]), ?_⟩
  obtain ⟨i', j', e, _, h3⟩ := q.choose_spec
  obtain ⟨rfl, rfl⟩ := keyP_inj (i := i) (j := j) (by simpa using e)
  exact h3
theorem KS_46 {a b : List Nat} (h : a.length < 400 ∧ b.length < 400 ∧ a.sum < bigN ∧ b.sum < bigN ∧ a.sum * b.sum < bigN) (H : AHeap) : KS s rl gap R kn fn 46 [rowI a, rowI b] H = some (rowI (timesF a b), H) := by
  unfold KS
  rw [if_neg (by decide), if_pos rfl]
  simp only
  rw [← rowI_V a, ← rowI_V b, unRow_V, unRow_V, Option.bind_some, Option.bind_some, if_pos h]
theorem KS_KN {f : Nat} {args : List AV} {H : AHeap} (h1 : f ≠ 28) (h2 : f ≠ 46) : KS s rl gap R kn fn f args H = KN f args H := by
  unfold KS
  rw [if_neg h1, if_neg h2]
end
theorem plus_K {K : CF} {fuel k : Nat} (hK : ∀ args H, K 45 args H = none) (h36 : ∀ H, K 36 [.int .i64 (.ofNat 0)] H = some (intA 0, H)) (h38 : ∀ {m n : Nat}, m < bigN → n < bigN → ∀ H, K 38 [intA m, intA n] H = some (intA (m + n), H)) (hf : 3000 < fuel) {H : AHeap} {v w : AV} {a b : List Nat} {n : Nat} (hv : RowE 2 H v a.length (rowC a)) (hw : RdR 2 H w b.length (rowC b)) (hd : ∀ i, w.own = some i → v.own ≠ some i) (hla : a.length < 1000) (hlb : b.length < 1000) (hk : n < 1000) (hs : a.sum + b.sum < bigN) :
    ∃ v' H', xcallK K F fuel (k + 1) 45 [v, w, nA n] H = some (v', H') ∧ (RowE 2 H' v' (plusF a b n).length (rowC (plusF a b n)) ∧ Kx H v H' v') := by
  obtain ⟨v', H', h1, h2⟩ := plusR_ok (cf := xcallK K F fuel k) (fuel := fuel) (fun H => cfhit (h36 H)) (fun hm hn H => cfhit (h38 hm hn H)) hv hw hd hla hlb hk hs hf
  exact ⟨v', H', (cfstep (hK _ _) rfl).trans h1, h2⟩
theorem clone_ok {cf : CF} {fuel : Nat} {H : AHeap} {l : List Nat} (hl : 0 < l.length) (hl2 : l.length < 1000) : ∃ v' H', xfunc cf fuel L44 [rowI l] H = some (v', H') ∧ (RowE 2 H' v' l.length (rowC l) ∧ Kx H .nils H' v') := by
  refine xfunc_ofK rfl (by show 1 ≤ 8; omega) ?_
  have hne : ∀ {cf : CF} {n : Nat} {H : AHeap} {K : KL0} {x : XO}, evK K x = some (rowI l) → XV cf K H n (.eqn false .s x (.k .nils)) = some (.bool false, H) := by
    intro cf n H K x hx
    obtain ⟨y, l', rfl⟩ : ∃ y l', l = y :: l' := by
      cases l with
      | nil => simp at hl
      | cons y l' => exact ⟨y, l', rfl⟩
    exact k_eqn hx rfl rfl rfl
  unfold L44
  dsimp only
  repeat' (first | refine WK.seq ?_ | refine WK.skip ?_ | (apply WK.reg; (· exact lnn)) | refine WKO.nil ?_ | ((first | apply WKO.op); (· first | exact k_mv rfl | exact hne rfl); (· rfl)) | refine pN ?_ | (apply WK.condF; (· rfl); (· exact dcd)) | fail)
  have hg : (((H.bump 1).bump 2).bump 4).get ((H.bump 1).bump 2).next = H.get ((H.bump 1).bump 2).next := rfl
  refine WKO.op (v := .sl ((H.bump 1).bump 2).next 0 0 0) (H1 := (((H.bump 1).bump 2).bump 4).set ((H.bump 1).bump 2).next (some (.cells [] none))) (k_any (by simp [xval, xop, evParts, fillA])) rfl ?_
  refine WKO.op (k_mv rfl) rfl ?_
  have hE : RowE 2 ((((H.bump 1).bump 2).bump 4).set ((H.bump 1).bump 2).next (some (.cells [] none))) (.sl ((H.bump 1).bump 2).next 0 0 0) 0 [] := .inr ⟨rfl, rfl, _, rfl, by simp only [next_set, next_bump]; omega, by rw [AHeap.get_set, if_pos rfl]⟩
  have hal : (rowC l).all AV.oneCell = true := by
    rw [List.all_eq_true]
    intro x hx
    obtain ⟨c, hc, hx⟩ := List.mem_flatten.1 hx
    obtain ⟨n, _, rfl⟩ := List.mem_map.1 hc
    simp only [intC, List.mem_cons, List.not_mem_nil, or_false] at hx
    rcases hx with rfl | rfl
    · rfl
    · exact digA_one _
  obtain ⟨v', H', e1, e2, e3, e4, e5⟩ := hE.app (bytes := 32) (y := rowI l) (n := l.length) (new := rowC l) (by omega) (by omega) hl (by decide) rfl (by simp only [rowI, srcA, rowC_len]; rw [if_pos (Nat.le_refl _), List.take_of_length_le (by rw [rowC_len]; exact Nat.le_refl _)]) (rowC_len l) hal
  refine WKO.op (v := v') (H1 := H') (k_any (by simp only [xval, xop]; exact (by simp only [evK, Go.Eng.look]; simp [e1]))) rfl ?_
  repeat' (first | refine WK.ret ?_ | refine WKO.nil ?_ | ((first | apply WKO.op); (· first | exact k_mv rfl); (· rfl)) | refine pN ?_ | fail)
  rw [Nat.zero_add] at e2
  refine ⟨fun id q => (by cases q), [v'], rfl, .inl (show Row 2 H' v' l.length (rowC l) by simpa using e2), ⟨by simp only [next_set, next_bump] at e3; omega, fun q hq _ => ?_, fun i hi => ?_⟩⟩
  · rw [e4 q (by simp only [next_set, next_bump]; omega) (by simp only [AV.own, next_bump, ne_eq, Option.some.injEq]; omega), AHeap.get_set, if_neg (by simp only [next_bump]; omega)]
    rfl
  · rcases e5 i hi with q | q
    · simp only [AV.own, Option.some.injEq, next_bump] at q
      exact .inr (by omega)
    · simp only [next_set, next_bump] at q
      exact .inr (by omega)
end Go.Proofs.YtfcgofffalmdfaaDoor.PA
namespace Go.Proofs.YtfcgofffalmdfaaDoor.PA
open Go Go.Eng Go.Proofs
section
variable {cf : CF} {n : Nat} {H0 H H' : AHeap} {mod : List Nat} {T : Nat} {fs : List (Nat × AObj)} {l : KL0} {x y : XO}
theorem k_ldF {i p : Nat} {c : List AV} {opn : Option Nat} {v : AV} (hx : evK l x = some (.ptr i p)) (hF : HF H0 mod T fs H) (hm : H'.m = H.m) (hg : H0.get i = some (.cells c opn)) (hlt : i < H0.next) (hmod : i ∉ mod) (hc : c[p]? = some v) : XV cf l H' n (.load none x) = some (v, H') :=
  k_any (op_loadc hx (by unfold AHeap.get; rw [hm]; exact (hF.fr i hlt hmod).trans hg) hc)
theorem k_lookF {i : Nat} {K : KT} {zero key : AV} {es : List (AV × AV)} {ls : List Lit} {r : Option (Nat × AV)} (hx : evK l x = some (.map i)) (hy : evK l y = some key) (hF : HF H0 mod T fs H) (hm : H'.m = H.m) (hg : H0.get i = some (.map es)) (hlt : i < H0.next) (hmod : i ∉ mod) (hk : keyA K key = some ls) (hf : findE K ls es 0 = some r) :
    XV cf l H' n (.look K zero x y true) = some (.tup [(r.map (·.2)).getD zero, .bool r.isSome], H') := by
  have hg' : H'.get i = some (.map es) := by unfold AHeap.get; rw [hm]; exact (hF.fr i hlt hmod).trans hg
  refine k_any ?_
  cases r with
  | none => simp only [xval, xop, hx, hy, Option.bind_some, entsA, hg', hk, hf]; rfl
  | some r => obtain ⟨j, v⟩ := r; simp only [xval, xop, hx, hy, Option.bind_some, entsA, hg', hk, hf]; rfl
theorem k_ld0 {i p : Nat} {c : List AV} {opn : Option Nat} {v : AV} (hx : evK l x = some (.ptr i p)) (hg : H.get i = some (.cells c opn)) (hm : H'.m = H.m) (hc : c[p]? = some v) : XV cf l H' n (.load none x) = some (v, H') :=
  k_any (op_loadc hx (by unfold AHeap.get; rw [hm]; exact hg) hc)
end
theorem ropeA_17 {s : List UInt8} {rl : List Bool} {gap : Int} {k f : AV} (h : rl.length = 16) : (ropeA s rl gap k f)[17]? = some (.int .i64 gap) ∧ (ropeA s rl gap k f)[18]? = some k ∧ (ropeA s rl gap k f)[19]? = some f := by
  refine ⟨?_, ?_, ?_⟩
  all_goals
    unfold ropeA
    rw [List.getElem?_cons_succ, List.getElem?_append_right (by rw [List.length_map]; omega), List.length_map, h]
    rfl
theorem _root_.Go.Eng.HF.weak {H0 H : AHeap} {mod mod' : List Nat} {T : Nat} {fs : List (Nat × AObj)} (h : HF H0 mod T fs H) (hm : ∀ k ∈ mod, k ∈ mod') : HF H0 mod' T fs H :=
  ⟨h.obj, h.lt, h.nd, h.base, h.le, fun k h1 h2 => h.fr k h1 (fun q => h2 (hm k q))⟩
theorem k_upd0 {cf : CF} {n : Nat} {H H' : AHeap} {l : KL0} {a x y : XO} {i : Nat} {K : KT} {key v : AV} {es es' : List (AV × AV)} {ls : List Lit} (ha : evK l a = some (.map i)) (hx : evK l x = some key) (hy : evK l y = some v) (hg : H.get i = some (.map es)) (hm : H'.m = H.m) (hk : keyA K key = some ls) (hu : updE K ls key v es = some es') :
    XV cf l H' n (.upd K a x y) = some (undefA, H'.set i (some (.map es'))) := by
  have hg' : H'.get i = some (.map es) := by unfold AHeap.get; rw [hm]; exact hg
  exact k_any (by simp only [xval, xop, ha, hx, hy, hg', hk, hu])
theorem xop_ld {ev : XO → Option AV} {H : AHeap} {n i p : Nat} {x : XO} {c : List AV} {opn : Option Nat} {v : AV} (hx : ev x = some (.ptr i p)) (hg : H.get i = some (.cells c opn)) (hc : c[p]? = some v) : xop ev H n (.load none x) = .v v := by
  simp only [xop, hx, Option.bind_some, loadA, cellsAt, hg, List.getElem?_drop, Nat.add_zero, hc, AR.ofV]
def ownL (v : AV) : List Nat := match v.own with
  | some q => [q]
  | none => []
theorem mem_ownL {v : AV} {q : Nat} : q ∈ ownL v ↔ v.own = some q := by
  unfold ownL
  split
  · rename_i r h
    rw [h]
    simp [eq_comm]
  · rename_i h
    rw [h]
    simp
def Alt (f : Nat) (args : List AV) (H : AHeap) (Sp : AV → AHeap → Prop) (v : AV) (H' : AHeap) : Prop := ∃ v' H'', (CallOK Tryd.prog f args H v H' → CallOK Tryd.prog f args H v' H'') ∧ Sp v' H''
section
variable {s : List UInt8} {rl : List Bool} {gap : Int} {R kn fn : Nat}
theorem MemoOK.keys {es : List (AV × AV)} (h : MemoOK s rl gap es) (hl : s.length ≤ 40) : ∀ e ∈ es, ∃ i' j', i' < 1000000 ∧ j' < 1000000 ∧ e.1 = keyP i' j' := fun e he => by
  obtain ⟨i, j, h1, h2, rfl⟩ := h e he
  exact ⟨i, j, by omega, by omega, rfl⟩
theorem alt_freeze {i j q m c : Nat} {args : List AV} {H H1 : AHeap} {full : List AV} {opn : Option Nat} {l : List Nat} {zs : List ((AV × AV) × AV)} (hG : GoodH s rl gap R kn fn H) (hkR : kn ≠ R) (hq : H1.get q = some (.cells full opn)) (hfull : full.take (l.length * 2) = rowC l) (hm : m = l.length)
    (hq0 : H.next ≤ q) (hkn : H1.get kn = some (.map (zs.map (·.1)))) (hz : ∀ e ∈ zs, e.2 = e.1.2 ∨ (e.1.2 = .sl q 0 m c ∧ e.2 = rowI l)) (hzM : MemoOK s rl gap (zs.map fun e => (e.1.1, e.2))) (hfr : ∀ k, k < H.next → k ≠ kn → H1.get k = H.get k) (hn : H.next ≤ H1.next) (hl : l = szF s rl gap i j) :
    Alt 28 args H (Sp28 s rl gap R kn fn i j H) (.sl q 0 m c) H1 := by
  have hknq : q ≠ kn := by have := hG.kn; omega
  have hg : ∀ k, ((H1.set q none).set kn (some (.map (zs.map fun e => (e.1.1, e.2))))).get k = if k = kn then some (.map (zs.map fun e => (e.1.1, e.2))) else if k = q then none else H1.get k := fun k => by rw [AHeap.get_set, AHeap.get_set]
  have hq1 : ((H1.set q none).set kn (some (.map (zs.map fun e => (e.1.1, e.2))))).get q = none := by rw [hg, if_neg hknq, if_pos rfl]
  have hfz : Fz H1 ((H1.set q none).set kn (some (.map (zs.map fun e => (e.1.1, e.2))))) (fun _ => True) (.sl q 0 m c) (rowI l) := by
    have : (rowI l) = .imm (rowC l) m false := by rw [hm]; rfl
    rw [this]
    refine .fsl (k := l.length * 2) hq1 hq (by rw [List.drop_zero, hfull]) (fun j x y hx hy => ?_) (fun h0 => ?_)
    · rw [List.drop_zero, hfull] at hx
      rw [hx] at hy
      cases hy
      exact Fz.all (fun _ => trivial) _
    · rw [List.eq_nil_of_length_eq_zero (show l.length = 0 by omega)]; rfl
  refine ⟨rowI l, (H1.set q none).set kn (some (.map (zs.map fun e => (e.1.1, e.2)))), fun hc => hc.freeze (N := fun _ => True) (fun _ _ => trivial) hn (fun _ _ h => h) hfz (fun k o h => ⟨trivial, ?_⟩), by rw [hl], ⟨?_, ⟨_, by rw [hg, if_pos rfl], hzM⟩, Nat.lt_of_lt_of_le hG.rn hn, Nat.lt_of_lt_of_le hG.kn hn⟩, fun k hk hk2 => ?_, hn⟩
  · rw [hg] at h
    split at h
    · rename_i e
      subst e
      cases h
      refine ⟨_, hkn, .map fun e he => ⟨Fz.all (fun _ => trivial) _, ?_⟩⟩
      rcases hz e he with q | ⟨q1, q2⟩
      · rw [q]; exact Fz.all (fun _ => trivial) _
      · rw [q1, q2]; exact hfz
    · split at h
      · cases h
      · exact ⟨o, h, .same fun _ => trivial⟩
  · have := hG.rn
    rw [hg, if_neg (fun e => hkR e.symm), if_neg (by omega), hfr R (by omega) (fun e => hkR e.symm)]
    exact hG.r
  · rw [hg, if_neg hk2, if_neg (by omega), hfr k hk hk2]
theorem zs_same (es : List (AV × AV)) : (es.map fun e => (e, e.2)).map (·.1) = es ∧ (es.map fun e => (e, e.2)).map (fun e => (e.1.1, e.2)) = es := by
  constructor
  · rw [List.map_map]; exact List.map_id _
  · rw [List.map_map]; exact List.map_id _
set_option maxHeartbeats 4000000 in
theorem sizes_walk (hP : RopeP s rl R kn fn) {fuel : Nat} (hf : 3000 < fuel) {i j : Nat} (hij : i ≤ j) (hj : j ≤ s.length) {H : AHeap} (hG : GoodH s rl gap R kn fn H)
    (ih : ∀ i' j', i' ≤ j' → j' ≤ s.length → j' - i' < j - i → ∀ H, GoodH s rl gap R kn fn H → ∃ v H', KS s rl gap R kn fn 28 [.ptr R 0, keyP i' j'] H = some (v, H') ∧ Sp28 s rl gap R kn fn i' j' H v H') :
    ∃ v H', xfunc (xcallK (KS s rl gap R kn fn) F fuel 1) fuel L28 [.ptr R 0, keyP i j] H = some (v, H') ∧ Alt 28 [.ptr R 0, keyP i j] H (Sp28 s rl gap R kn fn i j H) v H' := by
  refine xfunc_ofK rfl (by show 2 ≤ 75; omega) ?_
  have hF := HF.start H
  have h36 : ∀ {k : Nat} (n : Nat) (hn : n < 4611686018427387904) (H : AHeap), xcallK (KS s rl gap R kn fn) F fuel k 36 [.int .i64 (.ofNat n)] H = some (intA n, H) := fun n hn H => cfhit ((KS_KN _ _ _ _ _ _ (by decide) (by decide)).trans (KN_36 hn H))
  obtain ⟨es, hes, hmo⟩ := hG.k
  have hsl := hP.sl
  have hR := hG.r
  have h18 := (ropeA_17 (s := s) (gap := gap) (k := .map kn) (f := .map fn) hP.rl).2.1
  unfold L28
  dsimp only
  have hkP := keyA_P (i := i) (j := j) (by omega) (by omega)
  rcases find_memo i j es 0 (hmo.keys hsl) with hfm | ⟨kk, vv, hfm, hkk⟩
  · repeat' (first | refine WK.seq ?_ | refine WK.skip ?_ | refine WK.ret ?_ | (apply WK.reg; (· exact lnn)) | (apply WK.regC; (· rfl); (· exact lnn); (· decide)) | (apply WKO.boxO; (· rfl); (· assumption); (· rfl); (· exact nxx); (· exact nxx); (· exact nxx); intro _ _ _) | (apply WKO.bsO; (· rfl); (· rfl); (· assumption); (· rfl); (· exact nxx); (· exact nxx); (· exact nxx); intro _ _ _) | refine WKC.nil ?_ | refine WKO.nil ?_ | ((first | apply WKC.op | apply WKO.op); (· first | exact k_mv rfl | exact k_call rfl rfl (h36 _ (by decide) _) | (apply k_ldF; (· rfl); (· assumption); (· rfl); (· exact hR); (· exact hG.rn); (· simp); (· exact h18)) | (apply k_lookF; (· rfl); (· rfl); (· assumption); (· rfl); (· exact hes); (· exact hG.kn); (· simp); (· exact hkP); (· exact hfm)) | (apply k_ldO; (· rfl); (· assumption); (· rfl); (· exact mmb); (· rfl)) | (apply k_ldA; (· rfl); (· assumption); (· rfl); (· exact mmb); (· first | rfl)) | exact k_faddr rfl | exact k_nilc rfl | exact opA); (· rfl)) | refine pN ?_ | refine pR ?_ | (apply WK.condF; (· rfl); (· exact dcd)) | (apply WK.condD; (· rfl); all_goals intro _) | fail)
    · rename_i H1 hF1 hn1 hlt H2 hF2 hn2
      refine ⟨fun id q => (by cases q), _, rfl, ?_⟩
      obtain ⟨z1, z2⟩ := zs_same es
      refine alt_freeze (zs := es.map fun e => (e, e.2)) (l := [1]) hG hP.kR (hF2.obj _ (.head _)) rfl rfl (by have := hF1.base; have := hF1.le; simp only [next_bump]; omega) (by rw [z1, hF2.fr kn hG.kn (by simp)]; exact hes) (fun e he => ?_) (by rw [z2]; exact hmo) (fun k h1 _ => hF2.fr k h1 (by simp)) (Nat.le_trans hF2.base hF2.le) (by unfold szF; rw [sizesN_lt _ hlt])
      obtain ⟨e0, _, rfl⟩ := List.mem_map.1 he
      exact .inl rfl
    · rename_i H1 hF1 hn1 hlt
      have hFm := hF1.weak (mod' := [kn]) (by simp)
      have hc28 : ∀ {k : Nat} (i' j' : Nat), i' ≤ j' → j' ≤ s.length → j' - i' < j - i → ∀ H, GoodH s rl gap R kn fn H → ∃ v H', xcallK (KS s rl gap R kn fn) F fuel k 28 [.ptr R 0, keyP i' j'] H = some (v, H') ∧ Sp28 s rl gap R kn fn i' j' H v H' := fun i' j' a b c H g => by
        obtain ⟨v, H', q1, q2⟩ := ih i' j' a b c H g
        exact ⟨v, H', cfhit q1, q2⟩
      have hknp : ∀ p ∈ [(H.next, AObj.cells (keyP i j).cells none)], p.1 ∉ [kn] := fun p hp => by
        have := hG.kn
        simp only [List.mem_singleton] at hp
        subst hp
        simp only [List.mem_singleton]
        omega
      have hG1 : GoodH s rl gap R kn fn H1 := hG.up _ _ _ _ _ _ (Nat.le_trans hF1.base hF1.le) (hF1.fr R hG.rn (by simp)) (hF1.fr kn hG.kn (by simp))
      refine WKO.callV rfl rfl rfl (hc28 (i + 1) j (by omega) hj (by omega) _ (hG1.up _ _ _ _ _ _ (by simp only [next_bump]; omega) rfl rfl)) ?_
      rintro v2 H2 ⟨rfl, hG2, hk2, hn2⟩
      have hF2 := (hFm.up (H' := (((H1.bump 6).bump 11).bump 1).bump 10) rfl (by simp only [next_bump]; omega)).call (mod' := [kn]) (fun k h1 h2 => hk2 k h1 (by simpa using h2)) hn2 (fun k hk => .inl hk) hknp
      have hz2 : 0 < (szF s rl gap (i + 1) j).length := sizesN_pos _ _ _
      have hz3 : (szF s rl gap (i + 1) j).length ≤ 41 := by
        have := lenN_le (mayF s rl gap) (j - (i + 1)) (i + 1)
        unfold lenN at this
        unfold szF
        omega
      refine WKO.callV rfl rfl rfl (show ∃ v H', xcallK (KS s rl gap R kn fn) F fuel 1 44 [rowI (szF s rl gap (i + 1) j)] H2 = some (v, H') ∧ _ from by
        obtain ⟨v, H', q1, q2⟩ := clone_ok (cf := xcallK (KS s rl gap R kn fn) F fuel 0) (fuel := fuel) (H := H2) hz2 (by omega)
        exact ⟨v, H', (cfstep ((KS_KN _ _ _ _ _ _ (by decide) (by decide)).trans rfl) rfl).trans q1, q2⟩) ?_
      rintro u H3 ⟨g1, g2⟩
      have hF3 := hF2.call (mod' := []) (fun k h1 _ => g2.2.1 k h1 (by simp [AV.own])) g2.1 (fun k hk => by cases hk) (fun p hp => by simp)
      have hG3 : GoodH s rl gap R kn fn H3 := hG2.up _ _ _ _ _ _ g2.1 (g2.2.1 R hG2.rn (by simp [AV.own])) (g2.2.1 kn hG2.kn (by simp [AV.own]))
      repeat' (first | refine WK.seq ?_ | refine WK.block ?_ | (apply WK.reg; (· exact lnn)) | refine WKO.nil ?_ | ((first | apply WKO.op); (· first | exact k_mv rfl | (apply k_ldO; (· rfl); (· assumption); (· rfl); (· exact mmb); (· rfl)) | exact k_faddr rfl | exact opA); (· rfl)) | refine pN ?_ | fail)
      refine WK.loop (α := Nat × AV) (fun t => [(0, .ptr R 0), (3, .ptr H.next 0), (7, t.2), (8, nA (i + 1 + t.1))]) (fun t H' => (∃ T, HF H [kn] T [(H.next, .cells [nA i, nA j] none)] H') ∧ GoodH s rl gap R kn fn H' ∧ RowE 2 H' t.2 (sizesP (mayF s rl gap) (j - i) i t.1).length (rowC (sizesP (mayF s rl gap) (j - i) i t.1)) ∧ (∀ q, t.2.own = some q → H.next < q) ∧ t.1 ≤ j - i - 1)
        (fun t => j - i - t.1) (0, u) (.cons rfl <| .cons rfl <| .cons rfl <| .cons rfl <| .nil _) ⟨⟨_, hF3.up rfl (by simp only [next_bump]; omega)⟩, hG3.up _ _ _ _ _ _ (by simp only [next_bump]; omega) rfl rfl, ?_, fun q hq => ?_, Nat.zero_le _⟩ (by show j - i - 0 < fuel; omega) ?_
      · have e : sizesP (mayF s rl gap) (j - i) i 0 = szF s rl gap (i + 1) j := by
          rw [sizesP_zero]
          unfold szF
          rw [show j - i - 1 = j - (i + 1) by omega]
        simp only
        rw [e]
        exact g1.frame (by simp only [next_bump]; omega) (fun _ _ => rfl)
      · rcases g2.2.2 q hq with r | r
        · cases r
        · have := hF2.lt _ (.head _)
          have := hF2.le
          simp only at *
          omega
      · rintro ⟨k, u⟩ H4 ⟨⟨T, hF4⟩, hG4, r4, o4, k4⟩
        simp only at hF4 hG4 r4 o4 k4 ⊢
        clear hF hF1 hFm hF2 hF3
        have hmay : ∀ {H : AHeap} (a b : Nat), GoodH s rl gap R kn fn H → a < s.length → b < s.length → ∃ v H', xcallK (KS s rl gap R kn fn) F fuel 1 43 [.ptr R 0, nA a, nA b] H = some (v, H') ∧ (v = .bool (mayF s rl gap a b) ∧ Same H H') := fun a b g ha hb => by
          obtain ⟨v, H', q1, q2⟩ := may_ok (cf := xcallK (KS s rl gap R kn fn) F fuel 0) (fuel := fuel) g.r hP.rl hP.sa (by omega) ha hb
          exact ⟨v, H', (cfstep ((KS_KN _ _ _ _ _ _ (by decide) (by decide)).trans rfl) rfl).trans q1, q2⟩
        repeat' (first | refine WK.seq ?_ | refine WK.skip ?_ | refine WK.exit ?_ | refine WK.block ?_ | (apply WK.reg; (· exact lnn)) | refine WKO.nil ?_ | ((first | apply WKO.op); (· first | exact k_mv rfl | (apply k_ldO; (· rfl); (· assumption); (· rfl); (· exact mmb); (· rfl)) | exact k_faddr rfl | exact opA); (· rfl)) | refine pN ?_ | refine pX ?_ | refine bX ?_ | (apply WK.condD; (· rfl); all_goals intro _) | fail)
        · refine WKO.callV rfl rfl rfl (hmay i (i + 1 + k) (hG4.up _ _ _ _ _ _ (by simp only [next_bump]; omega) rfl rfl) (by omega) (by omega)) ?_
          rintro v5 H5 ⟨rfl, s5⟩
          have hF5 := (hF4.up (H' := (H4.bump 4).bump 5) rfl (by simp only [next_bump]; omega)).call (mod' := []) (fun q h1 _ => s5.2 q h1) s5.1 (fun q hq => by cases hq) (fun p hp => by simp)
          have hn45 : H4.next ≤ H5.next := by have := s5.1; simp only [next_bump] at this; omega
          have hk45 : ∀ q, q < H4.next → H5.get q = H4.get q := fun q hq => s5.2 q (by simp only [next_bump]; omega)
          have hG5 : GoodH s rl gap R kn fn H5 := hG4.up _ _ _ _ _ _ hn45 (hk45 R hG4.rn) (hk45 kn hG4.kn)
          have r5 := r4.frame hn45 (fun q hq => hk45 q (r4.own_lt hq))
          cases hm : mayF s rl gap i (i + 1 + k) with
          | false =>
            repeat' (first | refine WK.skip ?_ | (apply WK.reg; (· exact lnn)) | refine WKO.nil ?_ | ((first | apply WKO.op); (· first | exact k_mv rfl | exact opA); (· rfl)) | refine pN ?_ | refine bN ?_ | (apply WK.condF; (· rfl); (· exact dcd)) | fail)
            refine ⟨(k + 1, u), (.cons rfl <| .cons rfl <| .cons rfl <| .cons rfl <| .nil _), ⟨⟨T, hF5.up rfl (by simp only [next_bump]; omega)⟩, hG5.up _ _ _ _ _ _ (by simp only [next_bump]; omega) rfl rfl, ?_, o4, by show k + 1 ≤ j - i - 1; omega⟩, by show j - i - (k + 1) < j - i - k; omega⟩
            simp only
            rw [sizesP_succ, if_neg (by rw [hm]; simp)]
            exact r5.frame (by simp only [next_bump]; omega) (fun _ _ => rfl)
          | true =>
            repeat' (first | refine WKO.nil ?_ | refine pN ?_ | (apply WK.condT; (· rfl); (· exact dcd)) | fail)
            refine WK.regT (k := 18) rfl ?_
            repeat' (first | ((first | apply WKT.op); (· first | exact k_mv rfl | (apply k_ldO; (· rfl); (· assumption); (· rfl); (· exact mmb); (· rfl)) | exact k_faddr rfl | exact opA); (· rfl)) | fail)
            refine WKT.callV rfl rfl rfl (hc28 (i + 1) (i + 1 + k) (by omega) (by omega) (by omega) _ (hG5.up _ _ _ _ _ _ (by simp only [next_bump]; omega) rfl rfl)) ?_
            rintro v6 H6 ⟨rfl, hG6, hk6, hn6⟩
            have hF6 := (hF5.up (H' := H5.bump 18) rfl (by simp only [next_bump]; omega)).call (mod' := [kn]) (fun q h1 h2 => hk6 q h1 (by simpa using h2)) hn6 (fun k hk => .inl hk) hknp
            repeat' (first | ((first | apply WKT.op); (· first | exact k_mv rfl | (apply k_ldO; (· rfl); (· assumption); (· rfl); (· exact mmb); (· rfl)) | exact k_faddr rfl | exact opA); (· rfl)) | fail)
            refine WKT.callV rfl rfl rfl (hc28 (i + 1 + k + 1) j (by omega) hj (by omega) _ hG6) ?_
            rintro v7 H7 ⟨rfl, hG7, hk7, hn7⟩
            have hF7 := hF6.call (mod' := [kn]) (fun q h1 h2 => hk7 q h1 (by simpa using h2)) hn7 (fun k hk => .inl hk) hknp
            have hA : szF s rl gap (i + 1) (i + 1 + k) = sizesN (mayF s rl gap) k (i + 1) := by unfold szF; rw [show i + 1 + k - (i + 1) = k by omega]
            have hB : szF s rl gap (i + 1 + k + 1) j = sizesN (mayF s rl gap) (j - i - 2 - k) (i + 2 + k) := by unfold szF; rw [show j - (i + 1 + k + 1) = j - i - 2 - k by omega, show i + 1 + k + 1 = i + 2 + k by omega]
            have hsu := sizesP_succ (mayF s rl gap) (j - i) i k
            rw [if_pos hm, ← hA, ← hB] at hsu
            have hsum := sizesP_sum (mayF s rl gap) (j - i) i (k + 1) (by omega) (by omega) (by omega)
            rw [hsu, plusF_sum] at hsum
            have hbig := pow8 (n := j - i) (by omega)
            have hts := timesF_sum (szF s rl gap (i + 1) (i + 1 + k)) (szF s rl gap (i + 1 + k + 1) j)
            have hAl : (szF s rl gap (i + 1) (i + 1 + k)).length ≤ 41 := by rw [hA]; have := lenN_le (mayF s rl gap) k (i + 1); unfold lenN at this; omega
            have hBl : (szF s rl gap (i + 1 + k + 1) j).length ≤ 41 := by rw [hB]; have := lenN_le (mayF s rl gap) (j - i - 2 - k) (i + 2 + k); unfold lenN at this; omega
            have hAs : (szF s rl gap (i + 1) (i + 1 + k)).sum < bigN := by rw [hA]; exact Nat.lt_of_le_of_lt (sizesN_sum _ _ _ (by omega)) (pow8 (by omega))
            have hBs : (szF s rl gap (i + 1 + k + 1) j).sum < bigN := by rw [hB]; exact Nat.lt_of_le_of_lt (sizesN_sum _ _ _ (by omega)) (pow8 (by omega))
            have hPl := lenP_le1 (mayF s rl gap) (j - i) i k (by omega) (by omega)
            have hTl := timesF_len (szF s rl gap (i + 1) (i + 1 + k)) (szF s rl gap (i + 1 + k + 1) j)
            have h46 := KS_46 s rl gap R kn fn (a := szF s rl gap (i + 1) (i + 1 + k)) (b := szF s rl gap (i + 1 + k + 1) j) ⟨by omega, by omega, hAs, hBs, by omega⟩
            repeat' (first | ((first | apply WKT.op); (· first | exact k_call rfl rfl (cfhit (h46 _))); (· rfl)) | fail)
            have hukn : ∀ q, u.own = some q → q ≠ kn := fun q hq => by have := o4 q hq; have := hG.kn; omega
            have r7 := ((r5.frame (H' := H5.bump 18) (by simp only [next_bump]; omega) (fun _ _ => rfl)).frame hn6 (fun q hq => hk6 q (Nat.lt_of_lt_of_le (r5.own_lt hq) (by simp only [next_bump]; omega)) (hukn q hq)))
            have r7' := r7.frame hn7 (fun q hq => hk7 q (r7.own_lt hq) (hukn q hq))
            refine WKT.callV rfl rfl rfl (plus_K (K := KS s rl gap R kn fn) (fun args H => (KS_KN _ _ _ _ _ _ (by decide) (by decide)).trans rfl) (fun H => (KS_KN _ _ _ _ _ _ (by decide) (by decide)).trans (KN_36 (by decide) H)) (fun hm hn H => (KS_KN _ _ _ _ _ _ (by decide) (by decide)).trans (KN_38 hm hn H)) hf r7' (rowI_rd H7 _) (fun q hq => by cases hq) (by omega) (by rw [hTl]; split <;> omega) (n := 1) (by omega) (by omega)) ?_
            rintro v8 H8 ⟨r8, k8⟩
            repeat' (first | refine WKT.nil ?_ | ((first | apply WKT.op); (· first | exact k_mv rfl); (· rfl)) | fail)
            have hF8 := hF7.call (mod' := ownL u) (fun q h1 h2 => k8.2.1 q h1 (fun e => h2 (mem_ownL.2 e))) k8.1 (fun q hq => .inr (by have := o4 q (mem_ownL.1 hq); omega)) (fun p hp => by
              simp only [List.mem_singleton] at hp
              subst hp
              intro hq
              have := o4 _ (mem_ownL.1 hq)
              simp only at this
              omega)
            have hG8 : GoodH s rl gap R kn fn H8 := hG7.up _ _ _ _ _ _ k8.1 (k8.2.1 R hG7.rn (fun e => by have := o4 R e; have := hG.rn; omega)) (k8.2.1 kn hG7.kn (fun e => by have := o4 kn e; have := hG.kn; omega))
            refine ⟨fun q hq => ?_, fun j hj => (by cases hj), (_, H8), rfl, ?_⟩
            · have hq' : q = (12, [7], []) := by simpa using hq
              subst hq'
              refine ⟨_, _, _, _, nA j, rfl, rfl, rfl, xop_ld rfl (hF6.obj _ (.head _)) rfl, fun w hw => ?_⟩
              have hw' : w = 12 ∨ w = 7 ∨ w = 8 := by simpa using hw
              rcases hw' with rfl | rfl | rfl
              · exact ⟨_, rfl, xop_ld rfl (hF6.obj _ (.head _)) rfl⟩
              · exact ⟨_, rfl, xop_ld (H := H5) (n := 0) rfl (hF5.obj _ (.head _)) rfl⟩
              · exact ⟨_, rfl, xop_ld rfl (hF6.obj _ (.head _)) rfl⟩
            · repeat' (first | (apply WK.reg; (· exact lnn)) | refine WKO.nil ?_ | ((first | apply WKO.op); (· first | exact k_mv rfl | exact opA); (· rfl)) | refine pN ?_ | refine bN ?_ | fail)
              refine ⟨(k + 1, v8), (.cons rfl <| .cons rfl <| .cons rfl <| .cons rfl <| .nil _), ⟨⟨_, hF8.up rfl (by simp only [next_bump]; omega)⟩, hG8.up _ _ _ _ _ _ (by simp only [next_bump]; omega) rfl rfl, ?_, fun q hq => ?_, by show k + 1 ≤ j - i - 1; omega⟩, by show j - i - (k + 1) < j - i - k; omega⟩
              · simp only
                rw [hsu]
                exact r8.frame (by simp only [next_bump]; omega) (fun _ _ => rfl)
              · rcases k8.2.2 q hq with e | e
                · exact o4 q e
                · have := hF7.lt _ (.head _)
                  have := hF7.le
                  simp only at *
                  omega
        · refine ⟨fun _ => ?_, fun q => absurd rfl q⟩
          obtain ⟨es4, he4, hm4⟩ := hG4.k
          obtain ⟨es5, hu5, hin5⟩ := upd_memo (u := u) (i := i) (j := j) (hm4.keys hsl)
          repeat' (first | refine WK.seq ?_ | (apply WK.regd0; (· exact lnn)) | ((first | apply WKO.op); (· first | exact k_mv rfl | exact k_ld0 rfl hG4.r rfl h18 | (apply k_ldA; (· rfl); (· assumption); (· rfl); (· exact mmb); (· first | rfl)) | exact k_faddr rfl | exact k_nilc rfl); (· rfl)) | fail)
          refine WKO.opn (k_upd0 rfl rfl rfl he4 rfl hkP hu5) rfl ?_
          repeat' (first | refine WK.seq ?_ | refine WK.ret ?_ | (apply WK.reg; (· exact lnn)) | refine WKO.nil ?_ | ((first | apply WKO.op); (· first | exact k_mv rfl); (· rfl)) | refine pN ?_ | fail)
          have hkj : k = j - i - 1 := by omega
          rw [hkj, ← sizesN_ge _ (by omega)] at r4
          have hpos := sizesN_pos (mayF s rl gap) (j - i) i
          have hn04 : H.next ≤ H4.next := Nat.le_trans hF4.base hF4.le
          rcases r4 with ⟨_, ⟨rfl, h0⟩ | ⟨q, full, rfl, hq, hfl, hfl2, hqn⟩⟩ | ⟨h0, _⟩
          · omega
          · have hqp := o4 q rfl
            have hqkn : q ≠ kn := by have := hG.kn; omega
            classical
            refine ⟨fun id q => (by cases q), _, rfl, ?_⟩
            refine alt_freeze (zs := es5.map fun e => (e, if e = (keyP i j, AV.sl q 0 (sizesN (mayF s rl gap) (j - i) i).length openCap) then rowI (sizesN (mayF s rl gap) (j - i) i) else e.2)) (l := sizesN (mayF s rl gap) (j - i) i) (full := full) (opn := some 2) hG hP.kR ?_ hfl rfl (by omega) ?_ (fun e he => ?_) (fun e he => ?_) (fun w hw1 hw2 => ?_) (by simp only [next_bump, next_set]; omega) rfl
            · simp only [get_bump]
              rw [AHeap.get_set, if_neg hqkn]
              simp only [get_bump]
              exact hq
            · simp only [get_bump]
              rw [AHeap.get_set, if_pos rfl, List.map_map]
              exact congrArg (fun l => some (AObj.map l)) (List.map_id _).symm
            · obtain ⟨e0, _, rfl⟩ := List.mem_map.1 he
              by_cases hc : e0 = (keyP i j, AV.sl q 0 (sizesN (mayF s rl gap) (j - i) i).length openCap)
              · exact .inr ⟨by rw [hc], if_pos hc⟩
              · exact .inl (if_neg hc)
            · rw [List.map_map] at he
              obtain ⟨e0, he0, rfl⟩ := List.mem_map.1 he
              simp only [Function.comp_apply]
              by_cases hc : e0 = (keyP i j, AV.sl q 0 (sizesN (mayF s rl gap) (j - i) i).length openCap)
              · rw [if_pos hc]
                exact ⟨i, j, hij, hj, by rw [hc]; rfl⟩
              · rw [if_neg hc]
                rcases hin5 e0 he0 with r | r
                · exact absurd r hc
                · exact hm4 e0 r
            · simp only [get_bump]
              rw [AHeap.get_set, if_neg hw2]
              simp only [get_bump]
              exact hF4.fr w hw1 (by simpa using hw2)
          · omega
  · obtain ⟨i', j', _, _, e⟩ := hmo _ (List.mem_of_getElem? hkk)
    obtain ⟨e1, e2⟩ := Prod.mk.injEq _ _ _ _ ▸ e
    obtain ⟨rfl, rfl⟩ := keyP_inj e1
    subst e2
    repeat' (first | refine WK.seq ?_ | refine WK.skip ?_ | refine WK.ret ?_ | (apply WK.reg; (· exact lnn)) | (apply WK.regC; (· rfl); (· exact lnn); (· decide)) | (apply WKO.boxO; (· rfl); (· assumption); (· rfl); (· exact nxx); (· exact nxx); (· exact nxx); intro _ _ _) | (apply WKO.bsO; (· rfl); (· rfl); (· assumption); (· rfl); (· exact nxx); (· exact nxx); (· exact nxx); intro _ _ _) | refine WKC.nil ?_ | refine WKO.nil ?_ | ((first | apply WKC.op | apply WKO.op); (· first | exact k_mv rfl | exact k_call rfl rfl (h36 _ (by decide) _) | (apply k_ldF; (· rfl); (· assumption); (· rfl); (· exact hR); (· exact hG.rn); (· simp); (· exact h18)) | (apply k_lookF; (· rfl); (· rfl); (· assumption); (· rfl); (· exact hes); (· exact hG.kn); (· simp); (· exact hkP); (· exact hfm)) | (apply k_ldO; (· rfl); (· assumption); (· rfl); (· exact mmb); (· rfl)) | (apply k_ldA; (· rfl); (· assumption); (· rfl); (· exact mmb); (· first | rfl)) | exact k_faddr rfl | exact k_nilc rfl | exact opA); (· rfl)) | refine pN ?_ | refine pR ?_ | (apply WK.condT; (· rfl); (· exact dcd)) | (apply WK.condD; (· rfl); all_goals intro _) | fail)
    · rename_i H1 hF1 hn1 hlt H2 hF2 hn2
      refine ⟨fun id q => (by cases q), _, rfl, ?_⟩
      obtain ⟨z1, z2⟩ := zs_same es
      refine alt_freeze (zs := es.map fun e => (e, e.2)) (l := [1]) hG hP.kR (hF2.obj _ (.head _)) rfl rfl (by have := hF1.base; have := hF1.le; simp only [next_bump]; omega) (by rw [z1, hF2.fr kn hG.kn (by simp)]; exact hes) (fun e he => ?_) (by rw [z2]; exact hmo) (fun k h1 _ => hF2.fr k h1 (by simp)) (Nat.le_trans hF2.base hF2.le) (by unfold szF; rw [sizesN_lt _ hlt])
      obtain ⟨e0, _, rfl⟩ := List.mem_map.1 he
      exact .inl rfl
    · rename_i H1 hF1 hn1 hlt
      have hn' : H.next ≤ H1.next := Nat.le_trans hF1.base hF1.le
      refine ⟨fun id q => (by cases q), _, rfl, rowI (szF s rl gap i j), _, id, rfl, hG.up _ _ _ _ _ _ (by simp only [next_bump]; omega) (hF1.fr R hG.rn (by simp)) (hF1.fr kn hG.kn (by simp)), fun k h1 _ => hF1.fr k h1 (by simp), by simp only [next_bump]; omega⟩
end
end Go.Proofs.YtfcgofffalmdfaaDoor.PA
namespace Go.Proofs.YtfcgofffalmdfaaDoor.PA
open Go Go.Eng Go.Proofs
section
variable {s : List UInt8} {rl : List Bool} {gap : Int} {R kn fn : Nat}
theorem sizes_ok (hP : RopeP s rl R kn fn) : ∀ n i j, j - i = n → i ≤ j → j ≤ s.length → ∀ H, GoodH s rl gap R kn fn H → ∃ v H', CallOK Tryd.prog 28 [.ptr R 0, keyP i j] H v H' ∧ Sp28 s rl gap R kn fn i j H v H' := by
  intro n
  induction n using Nat.strongRecOn with
  | _ n ih =>
    intro i j hn hij hj H hG
    obtain ⟨v, H1, h, v', H', hc, hsp⟩ := sizes_walk hP (fuel := 4000) (by omega) hij hj hG (fun i' j' a b c H g => KS_28 _ _ _ _ _ _ (ih (j' - i') (by omega) i' j' rfl a b H g))
    exact ⟨v', H', hc (xfunc_sound mixed (xcallK_sound mixed (KS_ok _ _ _ _ _ _) F_ok 4000 1) 4000 (F_ok 28 L28 rfl) h), hsp⟩
theorem sizes_K (hP : RopeP s rl R kn fn) {i j : Nat} (hij : i ≤ j) (hj : j ≤ s.length) {H : AHeap} (hG : GoodH s rl gap R kn fn H) : ∃ v H', KS s rl gap R kn fn 28 [.ptr R 0, keyP i j] H = some (v, H') ∧ Sp28 s rl gap R kn fn i j H v H' :=
  KS_28 _ _ _ _ _ _ (sizes_ok hP _ i j rfl hij hj H hG)
def mostF (s : List UInt8) (rl : List Bool) (gap : Int) (i j : Nat) : Nat := lenN (mayF s rl gap) (j - i) i - 1
def Sp47 (s : List UInt8) (rl : List Bool) (gap : Int) (R kn fn i j : Nat) (H : AHeap) (v : AV) (H' : AHeap) : Prop := v = nA (mostF s rl gap i j) ∧ GoodH s rl gap R kn fn H' ∧ (∀ q, q < H.next → q ≠ kn → H'.get q = H.get q) ∧ H.next ≤ H'.next
theorem most_ok (hP : RopeP s rl R kn fn) {cf : CF} {fuel : Nat} {i j : Nat} (hj : j ≤ s.length) {H : AHeap} (hG : GoodH s rl gap R kn fn H) (h28 : ∀ H, GoodH s rl gap R kn fn H → ∃ v H', cf 28 [.ptr R 0, keyP i j] H = some (v, H') ∧ Sp28 s rl gap R kn fn i j H v H') :
    ∃ v H', xfunc cf fuel L47 [.ptr R 0, keyP i j] H = some (v, H') ∧ Sp47 s rl gap R kn fn i j H v H' := by
  refine xfunc_ofK rfl (by show 2 ≤ 10; omega) ?_
  have hF := HF.start H
  unfold L47
  dsimp only
  repeat' (first | refine WK.seq ?_ | (apply WK.reg; (· exact lnn)) | (apply WKO.boxO; (· rfl); (· assumption); (· rfl); (· exact nxx); (· exact nxx); (· exact nxx); intro _ _ _) | refine WKO.nil ?_ | ((first | apply WKO.op); (· first | exact k_mv rfl | (apply k_ldA; (· rfl); (· assumption); (· rfl); (· exact mmb); (· first | rfl))); (· rfl)) | refine pN ?_ | fail)
  rename_i H1 hF1 hn1
  have hn' : H.next ≤ H1.next := Nat.le_trans hF1.base hF1.le
  have hG1 : GoodH s rl gap R kn fn H1 := hG.up _ _ _ _ _ _ hn' (hF1.fr R hG.rn (by simp)) (hF1.fr kn hG.kn (by simp))
  refine WKO.callV rfl rfl rfl (h28 _ (hG1.up _ _ _ _ _ _ (by simp only [next_bump]; omega) rfl rfl)) ?_
  rintro v2 H2 ⟨rfl, hG2, hk2, hn2⟩
  have hpos : 1 ≤ (szF s rl gap i j).length := sizesN_pos _ _ _
  have hle : (szF s rl gap i j).length ≤ 42 := by
    have := lenN_le (mayF s rl gap) (j - i) i
    have := hP.sl
    unfold lenN at *
    unfold szF
    omega
  simp only [next_bump] at hn2
  repeat' (first | refine WK.ret ?_ | refine WKO.nil ?_ | ((first | apply WKO.op); (· first | exact k_mv rfl | exact k_lenE rfl (rowI_rd H2 _) | exact opA); (· rfl)) | refine pN ?_ | fail)
  refine ⟨fun id q => (by cases q), _, rfl, rfl, hG2, fun q h1 h2 => ?_, by omega⟩
  rw [hk2 q (by simp only [next_bump]; omega) h2]
  exact hF1.fr q h1 (by simp)
end
end Go.Proofs.YtfcgofffalmdfaaDoor.PA
namespace Go.Eng
section
variable {cf : CF} {n : Nat} {l : KL0} {H : AHeap} {Q : List (KL0 × AHeap) → Prop}
theorem WKT.gop {d g : Nat} {b c : Bool} {op : XOp} {r : List XOper} {v : AV} {H1 : AHeap} (hg : look l g = some (.bool c)) (hc : c = b) (h : XV cf l H n op = some (v, H1)) (ha : allSm l op.opnds = true) (k : WKT cf r (n + 1) ((d, v) :: l) H1 fun ps => Q ((l, H) :: ps)) : WKT cf (⟨some d, op, some (g, b)⟩ :: r) n l H Q := fun tm ht => by
  obtain ⟨tr, ps, h1, h2, h3⟩ := k _ (ht.set d v)
  unfold XV at h
  have hw : wantedA tm ⟨some d, op, some (g, b)⟩ = some true := by simp only [wantedA, ht _ _ hg, hc]; simp
  exact ⟨_, _, by simp only [xtrace, xstep, hw, (xval_kw ht ha).trans h, putT, h1, Option.map_some], .cons ht h2, h3⟩
theorem WKT.gno {d g : Nat} {b c : Bool} {op : XOp} {r : List XOper} (hg : look l g = some (.bool c)) (hc : c = !b) (k : WKT cf r (n + 1) ((d, undefA) :: l) H fun ps => Q ((l, H) :: ps)) : WKT cf (⟨some d, op, some (g, b)⟩ :: r) n l H Q := fun tm ht => by
  obtain ⟨tr, ps, h1, h2, h3⟩ := k _ (ht.set d undefA)
  have hw : wantedA tm ⟨some d, op, some (g, b)⟩ = some false := by simp only [wantedA, ht _ _ hg, hc]; cases b <;> rfl
  exact ⟨_, _, by simp only [xtrace, xstep, hw, putT, undefA, h1, Option.map_some] <;> (simp only [undefA] at h1; rw [h1]; rfl), .cons ht h2, h3⟩
theorem WKT.gnoT {d g : Nat} {c : Bool} {op : XOp} {r : List XOper} (hg : look l g = some (.bool c)) (hc : c = false) (k : WKT cf r (n + 1) ((d, undefA) :: l) H fun ps => Q ((l, H) :: ps)) : WKT cf (⟨some d, op, some (g, true)⟩ :: r) n l H Q := WKT.gno hg hc k
theorem WKT.gnoF {d g : Nat} {c : Bool} {op : XOp} {r : List XOper} (hg : look l g = some (.bool c)) (hc : c = true) (k : WKT cf r (n + 1) ((d, undefA) :: l) H fun ps => Q ((l, H) :: ps)) : WKT cf (⟨some d, op, some (g, false)⟩ :: r) n l H Q := WKT.gno hg hc k
theorem WKT.gcallV {d f g : Nat} {b c : Bool} {x : XO} {xs : List XO} {cs av : List AV} {P : AV → AHeap → Prop} {r : List XOper} (hg : look l g = some (.bool c)) (hc : c = b) (hx : evK l x = some (.fn f cs)) (hl : evL (evK l) xs = some av) (ha : allSm l (x :: xs) = true) (h : ∃ v H', cf f (av ++ cs) H = some (v, H') ∧ P v H')
    (k : ∀ v H', P v H' → WKT cf r (n + 1) ((d, v) :: l) H' fun ps => Q ((l, H) :: ps)) : WKT cf (⟨some d, .call x xs, some (g, b)⟩ :: r) n l H Q := by
  obtain ⟨v, H', h1, h2⟩ := h
  exact WKT.gop (H1 := H') hg hc (k_any (op_call hx hl h1)) ha (k v H' h2)
end
def LooseQ (ops : List XOper) (ps : List (KL0 × AHeap)) (base : Nat) (nn : List Nat) (q : Nat × List Nat × List Nat) : Prop :=
  (∃ d op g b l H, ops[q.1]? = some ⟨d, op, some (g, b)⟩ ∧ ps[q.1]? = some (l, H) ∧ look l g = some (.bool (!b))) ∨
  (∃ d op g b l H v, ops[q.1]? = some ⟨d, op, some (g, b)⟩ ∧ ps[q.1]? = some (l, H) ∧ look l g = some (.bool b) ∧ allSm l op.opnds = true ∧ xop (evK l) H 0 op = .v v ∧
    ∀ j ∈ q.1 :: (q.2.1 ++ q.2.1.map (· + 1)), ∃ p, ps[j]? = some p ∧ xop (evK l) ((p.2.less base q.2.2).less base (nn.filter fun k => Nat.ble j k)) 0 op = .v v)
theorem WK.regQ {cf : CF} {fuel : Nat} {l : KL0} {H : AHeap} {ops : List XOper} {lo : List (Nat × List Nat × List Nat)} {k : Nat} {R : XE → KL0 → AHeap → Prop} (hk : ops.length = k)
    (h : WKT cf ops H.next l (H.bump k) fun ps => (∀ q ∈ lo, LooseQ ops ps H.next [] q) ∧ ∃ p, ps.getLast? = some p ∧ R .normal p.1 p.2) : WK cf fuel (.regd ops lo []) l H R := by
  unfold WK
  intro tm ht
  obtain ⟨tr, ps, h1, h2, h3, p, h5, h6⟩ := h tm ht
  obtain ⟨tm', g1, g2⟩ := h2.last h5
  refine W.regd k hk ⟨tr, h1, ?_, rfl, _, g1, p.1, g2, h6⟩
  rw [List.all_eq_true]
  intro q hq
  rcases h3 q hq with ⟨d, op, g, b, l1, H1, q1, q2, q3⟩ | ⟨d, op, g, b, l1, H1, v, q1, q2, q0, q3, q4, q5⟩
  · obtain ⟨t1, r1, r2⟩ := h2.at q2
    unfold looseOk
    rw [q1, r1]
    have hw : wantedA t1 ⟨d, op, some (g, b)⟩ = some false := by simp only [wantedA, r2 _ _ q3]; cases b <;> rfl
    simp only [hw]
  · obtain ⟨t1, r1, r2⟩ := h2.at q2
    have hev : ∀ (H' : AHeap), xop (St.ev t1) H' 0 op = xop (evK l1) H' 0 op := fun H' => xop_congr fun x hx => by
      have := List.all_eq_true.1 q3 x hx
      cases e : evK l1 x with
      | none => rw [e] at this; cases this
      | some u => exact r2.ev e
    unfold looseOk
    rw [q1, r1]
    have hw : wantedA t1 ⟨d, op, some (g, b)⟩ = some true := by simp only [wantedA, r2 _ _ q0]; simp
    simp only [hw]
    rw [hev, q4]
    simp only
    rw [List.all_eq_true]
    intro j hj
    obtain ⟨pj, s1, s2⟩ := q5 j hj
    obtain ⟨tj, s3, _⟩ := h2.at s1
    rw [s3]
    simp only
    rw [hev, s2]
    exact AV.beq_refl v
end Go.Eng
namespace Go.Proofs.YtfcgofffalmdfaaDoor.PA
open Go Go.Eng Go.Proofs
section
variable {cf : CF} {n : Nat} {H : AHeap} {l : KL0} {x y : XO} {a b : List UInt8}
theorem k_catS (hx : evK l x = some (.str a)) (hy : evK l y = some (.str b)) (h : a.length + b.length < 1000000) : XV cf l H n (.bin .add x y) = some (.str (a ++ b), H) :=
  k_bin hx hy (by
    show (if a.length + b.length < 2 ^ 40 then some (AV.str (a ++ b)) else none) = _
    rw [if_pos (by omega)])
theorem k_emS (hx : evK l x = some (.str a)) : XV cf l H n (.bin .eql x (.k (.str []))) = some (.bool (decide (a = [])), H) :=
  k_bin hx rfl (by
    show some (AV.bool (a == [])) = _
    congr 2
    rw [Bool.eq_iff_iff]
    simp)
end
section
variable (s : List UInt8) (rl : List Bool) (gap : Int) (R kn fn : Nat)
def fsF (i j : Nat) : List UInt8 := firstN (mayF s rl gap) (j - i) i
def FMemo (es : List (AV × AV)) : Prop := ∀ e ∈ es, ∃ i j, i ≤ j ∧ j ≤ s.length ∧ e = (keyP i j, .str (fsF s rl gap i j))
structure GoodF (H : AHeap) : Prop where
  g : GoodH s rl gap R kn fn H
  f : ∃ es, H.get fn = some (.map es) ∧ FMemo s rl gap es
  fnl : fn < H.next
def Sp30 (i j : Nat) (H : AHeap) (v : AV) (H' : AHeap) : Prop := v = .str (fsF s rl gap i j) ∧ GoodF s rl gap R kn fn H' ∧ (∀ q, q < H.next → q ≠ kn → q ≠ fn → H'.get q = H.get q) ∧ H.next ≤ H'.next
variable {s rl gap R kn fn}
theorem GoodF.of {H H' : AHeap} (h : GoodF s rl gap R kn fn H) (g : GoodH s rl gap R kn fn H') (hn : H.next ≤ H'.next) (hf : H'.get fn = H.get fn) : GoodF s rl gap R kn fn H' :=
  ⟨g, by obtain ⟨es, q1, q2⟩ := h.f; exact ⟨es, hf.trans q1, q2⟩, Nat.lt_of_lt_of_le h.fnl hn⟩
theorem GoodF.up {H H' : AHeap} (h : GoodF s rl gap R kn fn H) (hn : H.next ≤ H'.next) (h1 : H'.get R = H.get R) (h2 : H'.get kn = H.get kn) (h3 : H'.get fn = H.get fn) : GoodF s rl gap R kn fn H' :=
  h.of (h.g.up _ _ _ _ _ _ hn h1 h2) hn h3
theorem FMemo.keys {es : List (AV × AV)} (h : FMemo s rl gap es) (hl : s.length ≤ 40) : ∀ e ∈ es, ∃ i' j', i' < 1000000 ∧ j' < 1000000 ∧ e.1 = keyP i' j' := fun e he => by
  obtain ⟨i, j, h1, h2, rfl⟩ := h e he
  exact ⟨i, j, by omega, by omega, rfl⟩
theorem fsF_len (i j : Nat) : (fsF s rl gap i j).length = j - i := (firstN_top (mayF s rl gap) (j - i) i).2.1
variable (s rl gap R kn fn)
open Classical in
noncomputable def KF : CF := fun f args H =>
  if f = 30 then (if h : ∃ (r : AV × AHeap) (i j : Nat), args = [.ptr R 0, keyP i j] ∧ CallOK Tryd.prog 30 args H r.1 r.2 ∧ Sp30 s rl gap R kn fn i j H r.1 r.2 then some h.choose else none) else KS s rl gap R kn fn f args H
theorem KF_ok : CFok Tryd.prog (KF s rl gap R kn fn) := by
  intro f args H v H' h
  unfold KF at h
  split at h
  · rename_i hf
    subst hf
    split at h
    · rename_i q
      obtain ⟨i, j, h1, h2, h3⟩ := q.choose_spec
      simp only [Option.some.injEq] at h
      rw [h] at h2
      exact h2
    · cases h
  · exact KS_ok _ _ _ _ _ _ _ _ _ _ _ h
theorem KF_30 {i j : Nat} {H : AHeap} (h : ∃ v H', CallOK Tryd.prog 30 [.ptr R 0, keyP i j] H v H' ∧ Sp30 s rl gap R kn fn i j H v H') : ∃ v H', KF s rl gap R kn fn 30 [.ptr R 0, keyP i j] H = some (v, H') ∧ Sp30 s rl gap R kn fn i j H v H' := by
  obtain ⟨v, H', h1, h2⟩ := h
  have q : ∃ (r : AV × AHeap) (i' j' : Nat), [AV.ptr R 0, keyP i j] = [.ptr R 0, keyP i' j'] ∧ CallOK Tryd.prog 30 [.ptr R 0, keyP i j] H r.1 r.2 ∧ Sp30 s rl gap R kn fn i' j' H r.1 r.2 := ⟨(v, H'), i, j, rfl, h1, h2⟩
  refine ⟨_, _, (by unfold KF; rw [if_pos rfl, dif_pos q]), ?_⟩
  obtain ⟨i', j', e, _, h3⟩ := q.choose_spec
  obtain ⟨rfl, rfl⟩ := keyP_inj (i := i) (j := j) (by simpa using e)
  exact h3
theorem KF_KS {f : Nat} {args : List AV} {H : AHeap} (h1 : f ≠ 30) : KF s rl gap R kn fn f args H = KS s rl gap R kn fn f args H := by
  unfold KF
  rw [if_neg h1]
end
section
variable {s : List UInt8} {rl : List Bool} {gap : Int} {R kn fn : Nat}
theorem most_F (hP : RopeP s rl R kn fn) {fuel k : Nat} {i j : Nat} (hij : i ≤ j) (hj : j ≤ s.length) {H : AHeap} (hG : GoodH s rl gap R kn fn H) : ∃ v H', xcallK (KF s rl gap R kn fn) F fuel (k + 1) 47 [.ptr R 0, keyP i j] H = some (v, H') ∧ Sp47 s rl gap R kn fn i j H v H' := by
  obtain ⟨v, H', h1, h2⟩ := most_ok (cf := xcallK (KF s rl gap R kn fn) F fuel k) (fuel := fuel) hP hj hG (fun H g => by
    obtain ⟨v, H', q1, q2⟩ := sizes_K hP hij hj g
    exact ⟨v, H', cfhit ((KF_KS _ _ _ _ _ _ (by decide)).trans q1), q2⟩)
  exact ⟨v, H', (cfstep ((KF_KS _ _ _ _ _ _ (by decide)).trans ((KS_KN _ _ _ _ _ _ (by decide) (by decide)).trans rfl)) rfl).trans h1, h2⟩
theorem may_F (hP : RopeP s rl R kn fn) {fuel k : Nat} {a b : Nat} {H : AHeap} (hG : GoodH s rl gap R kn fn H) (ha : a < s.length) (hb : b < s.length) : ∃ v H', xcallK (KF s rl gap R kn fn) F fuel (k + 1) 43 [.ptr R 0, nA a, nA b] H = some (v, H') ∧ (v = .bool (mayF s rl gap a b) ∧ Same H H') := by
  obtain ⟨v, H', q1, q2⟩ := may_ok (cf := xcallK (KF s rl gap R kn fn) F fuel k) (fuel := fuel) hG.r hP.rl hP.sa (by have := hP.sl; omega) ha hb
  exact ⟨v, H', (cfstep ((KF_KS _ _ _ _ _ _ (by decide)).trans ((KS_KN _ _ _ _ _ _ (by decide) (by decide)).trans rfl)) rfl).trans q1, q2⟩
end
end Go.Proofs.YtfcgofffalmdfaaDoor.PA
namespace Go.Proofs.YtfcgofffalmdfaaDoor.PA
open Go Go.Eng Go.Proofs
theorem le_b1 (H : AHeap) (a : Nat) : H.next ≤ (H.bump a).next := by simp only [next_bump]; omega
theorem le_b2 (H : AHeap) (a b : Nat) : H.next ≤ ((H.bump a).bump b).next := by simp only [next_bump]; omega
theorem le_b3 (H : AHeap) (a b c : Nat) : H.next ≤ (((H.bump a).bump b).bump c).next := by simp only [next_bump]; omega
theorem xop_ldn {ev : XO → Option AV} {H : AHeap} {n i m : Nat} {x : XO} {c : List AV} {opn : Option Nat} (hx : ev x = some (.ptr i 0)) (hg : H.get i = some (.cells c opn)) (hc : c.length = m) : xop ev H n (.load (some m) x) = .v (.agg c) := by
  simp only [xop, hx, Option.bind_some, loadA, cellsAt, hg, List.drop_zero]
  rw [if_pos (by omega), List.take_of_length_le (by omega)]
  rfl
section
variable {s : List UInt8} {rl : List Bool} {gap : Int} {R kn fn : Nat}
set_option maxHeartbeats 4000000 in
theorem first_walk (hP : RopeP s rl R kn fn) {fuel : Nat} (hf : 3000 < fuel) {i j : Nat} (hij : i ≤ j) (hj : j ≤ s.length) {H : AHeap} (hG : GoodF s rl gap R kn fn H)
    (ih : ∀ i' j', i' ≤ j' → j' ≤ s.length → j' - i' < j - i → ∀ H, GoodF s rl gap R kn fn H → ∃ v H', KF s rl gap R kn fn 30 [.ptr R 0, keyP i' j'] H = some (v, H') ∧ Sp30 s rl gap R kn fn i' j' H v H') :
    ∃ v H', xfunc (xcallK (KF s rl gap R kn fn) F fuel 2) fuel L30 [.ptr R 0, keyP i j] H = some (v, H') ∧ Sp30 s rl gap R kn fn i j H v H' := by
  refine xfunc_ofK rfl (by show 2 ≤ 105; omega) ?_
  have hF := HF.start H
  obtain ⟨es, hes, hmo⟩ := hG.f
  have hsl := hP.sl
  have hR := hG.g.r
  have h19 := (ropeA_17 (s := s) (gap := gap) (k := .map kn) (f := .map fn) hP.rl).2.2
  have hkP := keyA_P (i := i) (j := j) (by omega) (by omega)
  unfold L30
  dsimp only
  rcases find_memo i j es 0 (hmo.keys hsl) with hfm | ⟨kk, vv, hfm, hkk⟩
  · repeat' (first | refine WK.seq ?_ | refine WK.skip ?_ | refine WK.ret ?_ | refine WK.block ?_ | (apply WK.reg; (· exact lnn)) | (apply WK.regC; (· rfl); (· exact lnn); (· decide)) | (apply WKO.boxO; (· rfl); (· assumption); (· rfl); (· exact nxx); (· exact nxx); (· exact nxx); intro _ _ _) | refine WKC.nil ?_ | refine WKO.nil ?_ | ((first | apply WKC.op | apply WKO.op); (· first | exact k_mv rfl | (apply k_ldF; (· rfl); (· assumption); (· rfl); (· exact hR); (· exact hG.g.rn); (· simp); (· exact h19)) | (apply k_lookF; (· rfl); (· rfl); (· assumption); (· rfl); (· exact hes); (· exact hG.fnl); (· simp); (· exact hkP); (· exact hfm)) | (apply k_ldO; (· rfl); (· assumption); (· rfl); (· exact mmb); (· rfl)) | (apply k_ldA; (· rfl); (· assumption); (· rfl); (· exact mmb); (· first | rfl)) | exact k_faddr rfl | exact k_nilc rfl | exact opA); (· rfl)) | refine pN ?_ | refine pR ?_ | (apply WK.condF; (· rfl); (· exact dcd)) | (apply WK.condD; (· rfl); all_goals intro _) | fail)
    · rename_i H1 hF1 hn1 hlt
      have hn' : H.next ≤ H1.next := Nat.le_trans hF1.base hF1.le
      refine ⟨fun id q => (by cases q), _, rfl, ?_, hG.up (by simp only [next_bump]; omega) (hF1.fr R hG.g.rn (by simp)) (hF1.fr kn hG.g.kn (by simp)) (hF1.fr fn hG.fnl (by simp)), fun q h1 _ _ => hF1.fr q h1 (by simp), by simp only [next_bump]; omega⟩
      show AV.str [] = .str (fsF s rl gap i j)
      unfold fsF
      rw [show j - i = 0 by omega, firstN_zero]
    · rename_i H1 hF1 hn1 hne
      have hn' : H.next ≤ H1.next := Nat.le_trans hF1.base hF1.le
      have hFm := hF1.weak (mod' := [kn, fn]) (by simp)
      have hG1 : GoodF s rl gap R kn fn H1 := hG.up hn' (hF1.fr R hG.g.rn (by simp)) (hF1.fr kn hG.g.kn (by simp)) (hF1.fr fn hG.fnl (by simp))
      have hpkn : H.next ≠ kn := by have := hG.g.kn; omega
      have hpfn : H.next ≠ fn := by have := hG.fnl; omega
      have hc30 : ∀ {k : Nat} (i' j' : Nat), i' ≤ j' → j' ≤ s.length → j' - i' < j - i → ∀ H, GoodF s rl gap R kn fn H → ∃ v H', xcallK (KF s rl gap R kn fn) F fuel k 30 [.ptr R 0, keyP i' j'] H = some (v, H') ∧ Sp30 s rl gap R kn fn i' j' H v H' := fun i' j' a b c H g => by
        obtain ⟨v, H', q1, q2⟩ := ih i' j' a b c H g
        exact ⟨v, H', cfhit q1, q2⟩
      have hknp : ∀ p ∈ [(H.next, AObj.cells (keyP i j).cells none)], p.1 ∉ [kn] := fun p hp => by
        simp only [List.mem_singleton] at hp
        subst hp
        simpa using hpkn
      have hkfp : ∀ p ∈ [(H.next, AObj.cells (keyP i j).cells none)], p.1 ∉ [kn, fn] := fun p hp => by
        simp only [List.mem_singleton] at hp
        subst hp
        simp [hpkn, hpfn]
      refine WK.loop (α := Nat) (fun k => [(0, .ptr R 0), (3, .ptr H.next 0), (7, .str (firstP (mayF s rl gap) (j - i) i k)), (8, nA (i + 1 + k))]) (fun k H' => (∃ T, HF H [kn, fn] T [(H.next, .cells [nA i, nA j] none)] H') ∧ GoodF s rl gap R kn fn H' ∧ k ≤ j - i - 1) (fun k => j - i - k) 0 (.cons rfl <| .cons rfl <| .cons rfl <| .cons rfl <| .nil _) ⟨⟨_, hFm.up rfl (by simp only [next_bump]; omega)⟩, hG1.up (by simp only [next_bump]; omega) rfl rfl rfl, Nat.zero_le _⟩ (by show j - i - 0 < fuel; omega) ?_
      rintro k H4 ⟨⟨T, hF4⟩, hG4, k4⟩
      clear hF hF1 hFm
      repeat' (first | refine WK.seq ?_ | refine WK.skip ?_ | refine WK.exit ?_ | refine WK.block ?_ | (apply WK.reg; (· exact lnn)) | (apply WK.regd0; (· exact lnn)) | refine WKO.nil ?_ | ((first | apply WKO.op); (· first | exact k_mv rfl | exact k_emS rfl | (apply k_ldO; (· rfl); (· assumption); (· rfl); (· exact mmb); (· rfl)) | exact k_faddr rfl | exact k_nilc rfl | exact opA); (· rfl)) | refine pN ?_ | refine pX ?_ | refine bX ?_ | (apply WK.condD; (· rfl); all_goals intro _) | fail)
      · refine WK.regQ (k := 27) rfl ?_
        repeat' (first | ((first | apply WKT.op); (· first | exact k_mv rfl | (apply k_ldO; (· rfl); (· assumption); (· rfl); (· exact mmb); (· rfl)) | exact k_faddr rfl); (· rfl)) | fail)
        refine WKT.callV rfl rfl rfl (may_F hP (a := i) (b := i + 1 + k) (hG4.g.up _ _ _ _ _ _ (by simp only [next_bump]; omega) rfl rfl) (by omega) (by omega)) ?_
        rintro v5 H5 ⟨rfl, s5⟩
        have hF5 := (hF4.up (H' := (H4.bump 4).bump 27) rfl (by simp only [next_bump]; omega)).call (mod' := []) (fun q h1 _ => s5.2 q h1) s5.1 (fun q hq => by cases hq) (fun p hp => by simp)
        have hn45 : H4.next ≤ H5.next := by have := s5.1; simp only [next_bump] at this; omega
        have hk45 : ∀ q, q < H4.next → H5.get q = H4.get q := fun q hq => s5.2 q (by simp only [next_bump]; omega)
        have hG5 : GoodF s rl gap R kn fn H5 := hG4.up hn45 (hk45 R hG4.g.rn) (hk45 kn hG4.g.kn) (hk45 fn hG4.fnl)
        have hnext : ∀ {H' : AHeap} {T' : Nat} {f : List UInt8} {l' : KL0}, HF H [kn, fn] T' [(H.next, .cells [nA i, nA j] none)] H' → GoodF s rl gap R kn fn H' → f = firstP (mayF s rl gap) (j - i) i (k + 1) → i + 1 + k < j → Go.Eng.Sub l' [(0, .ptr R 0), (3, .ptr H.next 0), (7, .str f), (8, nA (i + 1 + (k + 1)))] →
            ∃ k', Go.Eng.Sub l' [(0, .ptr R 0), (3, .ptr H.next 0), (7, .str (firstP (mayF s rl gap) (j - i) i k')), (8, nA (i + 1 + k'))] ∧ ((∃ T, HF H [kn, fn] T [(H.next, .cells [nA i, nA j] none)] H') ∧ GoodF s rl gap R kn fn H' ∧ k' ≤ j - i - 1) ∧ j - i - k' < j - i - k := fun a b c d e => by
          subst c
          exact ⟨k + 1, e, ⟨⟨_, a⟩, b, by omega⟩, by omega⟩
        cases hm : mayF s rl gap i (i + 1 + k) with
        | false =>
          repeat' (first | refine WKT.nil ?_ | ((first | apply WKT.op); (· first | exact k_mv rfl | exact opA); (· rfl)) | ((first | apply WKT.gnoT); (· rfl); (· exact dcd)) | fail)
          refine ⟨fun q hq => ?_, _, rfl, ?_⟩
          · have hq' : q = (18, [12], []) ∨ q = (23, [12, 20], []) := by simpa using hq
            rcases hq' with rfl | rfl <;> exact .inl ⟨_, _, _, _, _, _, rfl, rfl, rfl⟩
          · repeat' (first | refine WK.skip ?_ | (apply WK.reg; (· exact lnn)) | refine WKO.nil ?_ | ((first | apply WKO.op); (· first | exact k_mv rfl | exact opA); (· rfl)) | refine pN ?_ | refine bN ?_ | (apply WK.condF; (· rfl); (· exact dcd)) | fail)
            refine hnext (hF5.up rfl (Nat.le_add_right _ _)) (hG5.up (Nat.le_add_right _ _) rfl rfl rfl) ?_ (by assumption) (.cons rfl <| .cons rfl <| .cons rfl <| .cons rfl <| .nil _)
            rw [firstP_succ, if_neg (by rw [hm]; simp)]
        | true =>
          have hMb : ∀ a b, b ≤ s.length → mostF s rl gap a b ≤ 41 := fun a b hb => by
            have := lenN_le (mayF s rl gap) (b - a) a
            unfold mostF
            omega
          have hM1 := hMb (i + 1) (i + 1 + k) (by omega)
          have hM2 := hMb (i + 1 + k + 1) j hj
          have hM3 := hMb i j hj
          repeat' (first | ((first | apply WKT.op | ((first | apply WKT.gop); (· rfl); (· exact dcd))); (· first | exact k_mv rfl | (apply k_ldO; (· rfl); (· assumption); (· rfl); (· exact mmb); (· rfl)) | exact k_faddr rfl | exact opA); (· rfl)) | fail)
          refine WKT.gcallV rfl rfl rfl rfl rfl (most_F hP (i := i + 1) (j := i + 1 + k) (by omega) (by omega) hG5.g) ?_
          rintro v6 H6 ⟨rfl, hG6, hk6, hn6⟩
          have hF6 := hF5.call (mod' := [kn]) (fun q h1 h2 => hk6 q h1 (by simpa using h2)) hn6 (fun k hk => .inl (by simp at hk; simp [hk])) hknp
          have hGF6 := hG5.of hG6 hn6 (hk6 fn hG5.fnl hP.fk)
          repeat' (first | ((first | ((first | apply WKT.gop); (· rfl); (· exact dcd))); (· first | exact k_mv rfl | (apply k_ldO; (· rfl); (· assumption); (· rfl); (· exact mmb); (· rfl)) | exact k_faddr rfl | exact opA); (· rfl)) | fail)
          refine WKT.gcallV rfl rfl rfl rfl rfl (most_F hP (i := i + 1 + k + 1) (j := j) (by omega) hj hG6) ?_
          rintro v7 H7 ⟨rfl, hG7, hk7, hn7⟩
          have hF7 := hF6.call (mod' := [kn]) (fun q h1 h2 => hk7 q h1 (by simpa using h2)) hn7 (fun k hk => .inl (by simp at hk; simp [hk])) hknp
          have hGF7 := hGF6.of hG7 hn7 (hk7 fn hGF6.fnl hP.fk)
          repeat' (first | ((first | ((first | apply WKT.gop); (· rfl); (· exact dcd))); (· first | exact k_mv rfl | (apply k_ldA; (· rfl); (· assumption); (· rfl); (· exact mmb); (· first | rfl)) | exact opA); (· rfl)) | fail)
          refine WKT.gcallV rfl rfl rfl rfl rfl (most_F hP (i := i) (j := j) hij hj hG7) ?_
          rintro v8 H8 ⟨rfl, hG8, hk8, hn8⟩
          have hF8 := hF7.call (mod' := [kn]) (fun q h1 h2 => hk8 q h1 (by simpa using h2)) hn8 (fun k hk => .inl (by simp at hk; simp [hk])) hknp
          have hGF8 := hGF7.of hG8 hn8 (hk8 fn hGF7.fnl hP.fk)
          repeat' (first | refine WKT.nil ?_ | ((first | apply WKT.op | ((first | apply WKT.gop); (· rfl); (· exact dcd))); (· first | exact opA); (· rfl)) | fail)
          refine ⟨fun q hq => ?_, _, rfl, ?_⟩
          · have hq' : q = (18, [12], []) ∨ q = (23, [12, 20], []) := by simpa using hq
            rcases hq' with rfl | rfl
            · refine .inr ⟨_, _, _, _, _, _, nA j, rfl, rfl, rfl, rfl, xop_ld rfl (hF6.obj _ (.head _)) rfl, fun w hw => ?_⟩
              have hw' : w = 18 ∨ w = 12 ∨ w = 13 := by simpa using hw
              rcases hw' with rfl | rfl | rfl
              · exact ⟨_, rfl, xop_ld rfl (hF6.obj _ (.head _)) rfl⟩
              · exact ⟨_, rfl, xop_ld rfl (hF5.obj _ (.head _)) rfl⟩
              · exact ⟨_, rfl, xop_ld rfl (hF6.obj _ (.head _)) rfl⟩
            · refine .inr ⟨_, _, _, _, _, _, .agg [nA i, nA j], rfl, rfl, rfl, rfl, xop_ldn rfl (hF7.obj _ (.head _)) rfl, fun w hw => ?_⟩
              have hw' : w = 23 ∨ w = 12 ∨ w = 20 ∨ w = 13 ∨ w = 21 := by simpa using hw
              rcases hw' with rfl | rfl | rfl | rfl | rfl
              · exact ⟨_, rfl, xop_ldn rfl (hF7.obj _ (.head _)) rfl⟩
              · exact ⟨_, rfl, xop_ldn rfl (hF5.obj _ (.head _)) rfl⟩
              · exact ⟨_, rfl, xop_ldn rfl (hF6.obj _ (.head _)) rfl⟩
              · exact ⟨_, rfl, xop_ldn rfl (hF6.obj _ (.head _)) rfl⟩
              · exact ⟨_, rfl, xop_ldn rfl (hF7.obj _ (.head _)) rfl⟩
          · have hL : ∀ a b, 1 ≤ lenN (mayF s rl gap) a b := fun a b => lenN_pos _ a b
            have hL1 := hL (i + 1 + k - (i + 1)) (i + 1)
            have hL2 := hL (j - (i + 1 + k + 1)) (i + 1 + k + 1)
            have hL3 := hL (j - i) i
            have hcond : 1 + mostF s rl gap (i + 1) (i + 1 + k) + mostF s rl gap (i + 1 + k + 1) j = mostF s rl gap i j ↔ lenN (mayF s rl gap) k (i + 1) + lenN (mayF s rl gap) (j - i - 2 - k) (i + 2 + k) = lenN (mayF s rl gap) (j - i) i := by
              unfold mostF
              rw [show i + 1 + k - (i + 1) = k by omega, show j - (i + 1 + k + 1) = j - i - 2 - k by omega, show i + 1 + k + 1 = i + 2 + k by omega] at *
              omega
            repeat' (first | refine WK.seq ?_ | refine WK.skip ?_ | (apply WK.reg; (· exact lnn)) | refine WKO.nil ?_ | ((first | apply WKO.op); (· first | exact k_mv rfl | exact opA); (· rfl)) | refine pN ?_ | refine bN ?_ | (apply WK.condD; (· rfl); all_goals intro _) | fail)
            · refine WK.regT (k := 18) rfl ?_
              repeat' (first | ((first | apply WKT.op); (· first | exact k_mv rfl | (apply k_ldO; (· rfl); (· assumption); (· rfl); (· exact mmb); (· rfl)) | exact k_faddr rfl | exact opA); (· rfl)) | fail)
              refine WKT.callV rfl rfl rfl (hc30 (i + 1) (i + 1 + k) (by omega) (by omega) (by omega) _ (hGF8.up (Nat.le_add_right _ _) rfl rfl rfl)) ?_
              rintro v9 H9 ⟨rfl, hG9, hk9, hn9⟩
              have hF9 := (hF8.up (H' := H8.bump 18) rfl (Nat.le_add_right _ _)).call (mod' := [kn, fn]) (fun q h1 h2 => hk9 q h1 (by simp at h2; exact h2.1) (by simp at h2; exact h2.2)) hn9 (fun k hk => .inl hk) hkfp
              have hl1 := fsF_len (s := s) (rl := rl) (gap := gap) (i + 1) (i + 1 + k)
              have hl2 := fsF_len (s := s) (rl := rl) (gap := gap) (i + 1 + k + 1) j
              repeat' (first | ((first | apply WKT.op); (· first | exact k_mv rfl | exact k_catS rfl rfl (by simp only [List.length_append, List.length_cons, List.length_nil]; omega) | (apply k_ldO; (· rfl); (· assumption); (· rfl); (· exact mmb); (· rfl)) | exact k_faddr rfl | exact opA); (· rfl)) | fail)
              refine WKT.callV rfl rfl rfl (hc30 (i + 1 + k + 1) j (by omega) (by omega) (by omega) _ hG9) ?_
              rintro v10 H10 ⟨rfl, hG10, hk10, hn10⟩
              have hF10 := hF9.call (mod' := [kn, fn]) (fun q h1 h2 => hk10 q h1 (by simp at h2; exact h2.1) (by simp at h2; exact h2.2)) hn10 (fun k hk => .inl hk) hkfp
              repeat' (first | refine WKT.nil ?_ | ((first | apply WKT.op); (· first | exact k_mv rfl | exact k_catS rfl rfl (by simp only [List.length_append, List.length_cons, List.length_nil]; omega)); (· rfl)) | fail)
              refine ⟨fun q hq => ?_, fun j hj => (by cases hj), _, rfl, ?_⟩
              · have hq' : q = (13, [6], []) := by simpa using hq
                subst hq'
                refine ⟨_, _, _, _, nA j, rfl, rfl, rfl, xop_ld rfl (hF9.obj _ (.head _)) rfl, fun w hw => ?_⟩
                have hw' : w = 13 ∨ w = 6 ∨ w = 7 := by simpa using hw
                rcases hw' with rfl | rfl | rfl
                · exact ⟨_, rfl, xop_ld rfl (hF9.obj _ (.head _)) rfl⟩
                · exact ⟨_, rfl, xop_ld (H := H8) (n := 0) rfl (hF8.obj _ (.head _)) rfl⟩
                · exact ⟨_, rfl, xop_ld rfl (hF9.obj _ (.head _)) rfl⟩
              · have hcand : ([UInt8.ofNat 40] ++ fsF s rl gap (i + 1) (i + 1 + k) ++ [UInt8.ofNat 41] ++ fsF s rl gap (i + 1 + k + 1) j) = 40 :: (firstN (mayF s rl gap) k (i + 1) ++ 41 :: firstN (mayF s rl gap) (j - i - 2 - k) (i + 2 + k)) := by
                  unfold fsF
                  rw [show i + 1 + k - (i + 1) = k by omega, show j - (i + 1 + k + 1) = j - i - 2 - k by omega, show i + 1 + k + 1 = i + 2 + k by omega]
                  simp
                repeat' (first | refine WK.seq ?_ | refine WK.skip ?_ | (apply WK.reg; (· exact lnn)) | refine WKO.nil ?_ | ((first | apply WKO.op | ((first | apply WKO.gop); (· rfl); (· exact dcd))); (· first | exact k_mv rfl | exact k_emS rfl | exact opA); (· rfl)) | ((first | apply WKO.gnoF); (· rfl); (· exact dcd)) | ((first | apply WKO.gsp); (· rfl); all_goals ((fail_if_success (refine known ?_ ?_; (· assumption))); intro _)) | refine pN ?_ | refine bN ?_ | (apply WK.condT; (· rfl); (· exact dcd)) | (apply WK.condB; (· rfl); all_goals intro _) | fail)
                · rename_i hlt heq hem
                  refine hnext (hF10.up rfl (by first | exact le_b1 _ _ | exact le_b2 _ _ _ | exact le_b3 _ _ _ _)) (hG10.up (by first | exact le_b1 _ _ | exact le_b2 _ _ _ | exact le_b3 _ _ _ _) rfl rfl rfl) ?_ hlt (.cons rfl <| .cons rfl <| .cons rfl <| .cons rfl <| .nil _)
                  rw [firstP_succ, if_pos ⟨hm, hcond.1 heq⟩, hcand]
                  unfold better
                  rw [if_pos (.inl hem)]
                · rename_i hlt heq hem hbl
                  refine hnext (hF10.up rfl (by first | exact le_b1 _ _ | exact le_b2 _ _ _ | exact le_b3 _ _ _ _)) (hG10.up (by first | exact le_b1 _ _ | exact le_b2 _ _ _ | exact le_b3 _ _ _ _) rfl rfl rfl) ?_ hlt (.cons rfl <| .cons rfl <| .cons rfl <| .cons rfl <| .nil _)
                  rw [hcand] at hbl
                  rw [firstP_succ, if_pos ⟨hm, hcond.1 heq⟩, hcand]
                  unfold better
                  rw [if_pos (.inr hbl)]
                · rename_i hlt heq hem hbl
                  refine hnext (hF10.up rfl (by first | exact le_b1 _ _ | exact le_b2 _ _ _ | exact le_b3 _ _ _ _)) (hG10.up (by first | exact le_b1 _ _ | exact le_b2 _ _ _ | exact le_b3 _ _ _ _) rfl rfl rfl) ?_ hlt (.cons rfl <| .cons rfl <| .cons rfl <| .cons rfl <| .nil _)
                  rw [hcand] at hbl
                  rw [firstP_succ, if_pos ⟨hm, hcond.1 heq⟩]
                  unfold better
                  rw [if_neg (by rw [hbl]; simp [hem])]
            · rename_i hlt hne'
              refine hnext (hF8.up rfl (by first | exact le_b1 _ _ | exact le_b2 _ _ _ | exact le_b3 _ _ _ _)) (hGF8.up (by first | exact le_b1 _ _ | exact le_b2 _ _ _ | exact le_b3 _ _ _ _) rfl rfl rfl) ?_ hlt (.cons rfl <| .cons rfl <| .cons rfl <| .cons rfl <| .nil _)
              rw [firstP_succ, if_neg (fun w => hne' (hcond.2 w.2))]
      · rename_i hlt hem
        have hk : k = j - i - 1 := by omega
        have hfs := firstN_pos (mayF s rl gap) (n := j - i) (i := i) (by omega)
        rw [← hk, if_pos hem] at hfs
        have hw : [UInt8.ofNat 46] ++ fsF s rl gap (i + 1) j = fsF s rl gap i j := by
          unfold fsF
          rw [hfs, show j - (i + 1) = k by omega]
          rfl
        refine WKO.callV rfl rfl rfl (hc30 (i + 1) j (by omega) hj (by omega) _ (hG4.up (by simp only [next_bump]; omega) rfl rfl rfl)) ?_
        rintro v5 H5 ⟨rfl, hG5, hk5, hn5⟩
        have hF5 := (hF4.up (H' := ((H4.bump 4).bump 2).bump 10) rfl (by simp only [next_bump]; omega)).call (mod' := [kn, fn]) (fun q h1 h2 => hk5 q h1 (by simp at h2; exact h2.1) (by simp at h2; exact h2.2)) hn5 (fun k hk => .inl hk) hkfp
        have hl1 := fsF_len (s := s) (rl := rl) (gap := gap) (i + 1) j
        repeat' (first | refine WK.seq ?_ | (apply WK.regd0; (· exact lnn)) | refine WKO.nil ?_ | ((first | apply WKO.op); (· first | exact k_mv rfl | exact k_catS rfl rfl (by simp only [List.length_append, List.length_cons, List.length_nil]; omega)); (· rfl)) | refine pN ?_ | fail)
        obtain ⟨es4, he4, hm4⟩ := hG5.f
        obtain ⟨es5, hu5, hin5⟩ := upd_memo (u := .str ([UInt8.ofNat 46] ++ fsF s rl gap (i + 1) j)) (i := i) (j := j) (hm4.keys hsl)
        repeat' (first | ((first | apply WKO.op); (· first | exact k_mv rfl | exact k_ld0 rfl hG5.g.r rfl h19 | (apply k_ldA; (· rfl); (· exact hF5); (· rfl); (· exact .head _); (· rfl)) | exact k_faddr rfl | exact k_nilc rfl); (· rfl)) | fail)
        refine WKO.opn (k_upd0 rfl rfl rfl he4 rfl hkP hu5) rfl ?_
        repeat' (first | refine WK.seq ?_ | refine WK.ret ?_ | (apply WK.reg; (· exact lnn)) | refine WKO.nil ?_ | ((first | apply WKO.op); (· first | exact k_mv rfl); (· rfl)) | refine pN ?_ | fail)
        have hn0 : H.next ≤ H5.next := Nat.le_trans hF5.base hF5.le
        refine ⟨fun id q => (by cases q), _, rfl, by rw [← hw]; rfl, ?_, fun q h1 h2 h3 => ?_, by simp only [next_bump, next_set]; omega⟩
        · refine ⟨hG5.g.up _ _ _ _ _ _ (by simp only [next_bump, next_set]; omega) ?_ ?_, ⟨es5, ?_, fun e he => ?_⟩, by simp only [next_bump, next_set]; have := hG5.fnl; omega⟩
          · simp only [get_bump]
            rw [AHeap.get_set, if_neg (fun e => hP.fR e.symm)]
            simp only [get_bump]
          · simp only [get_bump]
            rw [AHeap.get_set, if_neg (fun e => hP.fk e.symm)]
            simp only [get_bump]
          · simp only [get_bump]
            rw [AHeap.get_set, if_pos rfl]
          · rcases hin5 e he with r | r
            · exact ⟨i, j, hij, hj, by rw [r, hw]⟩
            · exact hm4 e r
        · simp only [get_bump]
          rw [AHeap.get_set, if_neg h3]
          simp only [get_bump]
          exact hF5.fr q h1 (by simp [h2, h3])
      · rename_i hlt hem
        have hk : k = j - i - 1 := by omega
        have hfs := firstN_pos (mayF s rl gap) (n := j - i) (i := i) (by omega)
        rw [← hk, if_neg hem] at hfs
        have hw : firstP (mayF s rl gap) (j - i) i k = fsF s rl gap i j := by
          unfold fsF
          rw [hfs]
        obtain ⟨es4, he4, hm4⟩ := hG4.f
        obtain ⟨es5, hu5, hin5⟩ := upd_memo (u := .str (firstP (mayF s rl gap) (j - i) i k)) (i := i) (j := j) (hm4.keys hsl)
        repeat' (first | ((first | apply WKO.op); (· first | exact k_mv rfl | exact k_ld0 rfl hG4.g.r rfl h19 | (apply k_ldA; (· rfl); (· exact hF4); (· rfl); (· exact .head _); (· rfl))); (· rfl)) | fail)
        refine WKO.opn (k_upd0 rfl rfl rfl he4 rfl hkP hu5) rfl ?_
        repeat' (first | refine WK.seq ?_ | refine WK.ret ?_ | (apply WK.reg; (· exact lnn)) | refine WKO.nil ?_ | ((first | apply WKO.op); (· first | exact k_mv rfl); (· rfl)) | refine pN ?_ | fail)
        have hn0 : H.next ≤ H4.next := Nat.le_trans hF4.base hF4.le
        refine ⟨fun id q => (by cases q), _, rfl, by rw [← hw]; rfl, ?_, fun q h1 h2 h3 => ?_, by simp only [next_bump, next_set]; omega⟩
        · refine ⟨hG4.g.up _ _ _ _ _ _ (by simp only [next_bump, next_set]; omega) ?_ ?_, ⟨es5, ?_, fun e he => ?_⟩, by simp only [next_bump, next_set]; have := hG4.fnl; omega⟩
          · simp only [get_bump]
            rw [AHeap.get_set, if_neg (fun e => hP.fR e.symm)]
            simp only [get_bump]
          · simp only [get_bump]
            rw [AHeap.get_set, if_neg (fun e => hP.fk e.symm)]
            simp only [get_bump]
          · simp only [get_bump]
            rw [AHeap.get_set, if_pos rfl]
          · rcases hin5 e he with r | r
            · exact ⟨i, j, hij, hj, by rw [r, hw]⟩
            · exact hm4 e r
        · simp only [get_bump]
          rw [AHeap.get_set, if_neg h3]
          simp only [get_bump]
          exact hF4.fr q h1 (by simp [h2, h3])
  · obtain ⟨i', j', _, _, e⟩ := hmo _ (List.mem_of_getElem? hkk)
    obtain ⟨e1, e2⟩ := Prod.mk.injEq _ _ _ _ ▸ e
    obtain ⟨rfl, rfl⟩ := keyP_inj e1
    subst e2
    repeat' (first | refine WK.seq ?_ | refine WK.skip ?_ | refine WK.ret ?_ | (apply WK.reg; (· exact lnn)) | (apply WK.regC; (· rfl); (· exact lnn); (· decide)) | (apply WKO.boxO; (· rfl); (· assumption); (· rfl); (· exact nxx); (· exact nxx); (· exact nxx); intro _ _ _) | refine WKC.nil ?_ | refine WKO.nil ?_ | ((first | apply WKC.op | apply WKO.op); (· first | exact k_mv rfl | (apply k_ldF; (· rfl); (· assumption); (· rfl); (· exact hR); (· exact hG.g.rn); (· simp); (· exact h19)) | (apply k_lookF; (· rfl); (· rfl); (· assumption); (· rfl); (· exact hes); (· exact hG.fnl); (· simp); (· exact hkP); (· exact hfm)) | (apply k_ldO; (· rfl); (· assumption); (· rfl); (· exact mmb); (· rfl)) | (apply k_ldA; (· rfl); (· assumption); (· rfl); (· exact mmb); (· first | rfl)) | exact k_faddr rfl | exact k_nilc rfl | exact opA); (· rfl)) | refine pN ?_ | refine pR ?_ | (apply WK.condT; (· rfl); (· exact dcd)) | (apply WK.condD; (· rfl); all_goals intro _) | fail)
    · rename_i H1 hF1 hn1 hlt
      have hn' : H.next ≤ H1.next := Nat.le_trans hF1.base hF1.le
      refine ⟨fun id q => (by cases q), _, rfl, ?_, hG.up (by simp only [next_bump]; omega) (hF1.fr R hG.g.rn (by simp)) (hF1.fr kn hG.g.kn (by simp)) (hF1.fr fn hG.fnl (by simp)), fun q h1 _ _ => hF1.fr q h1 (by simp), by simp only [next_bump]; omega⟩
      show AV.str [] = .str (fsF s rl gap i j)
      unfold fsF
      rw [show j - i = 0 by omega, firstN_zero]
    · rename_i H1 hF1 hn1 hne
      have hn' : H.next ≤ H1.next := Nat.le_trans hF1.base hF1.le
      exact ⟨fun id q => (by cases q), _, rfl, rfl, hG.up (by simp only [next_bump]; omega) (hF1.fr R hG.g.rn (by simp)) (hF1.fr kn hG.g.kn (by simp)) (hF1.fr fn hG.fnl (by simp)), fun q h1 _ _ => hF1.fr q h1 (by simp), by simp only [next_bump]; omega⟩
end
end Go.Proofs.YtfcgofffalmdfaaDoor.PA
namespace Go.Proofs.YtfcgofffalmdfaaDoor.PA
open Go Go.Eng Go.Proofs
section
variable {s : List UInt8} {rl : List Bool} {gap : Int} {R kn fn : Nat}
theorem first_ok (hP : RopeP s rl R kn fn) : ∀ n i j, j - i = n → i ≤ j → j ≤ s.length → ∀ H, GoodF s rl gap R kn fn H → ∃ v H', CallOK Tryd.prog 30 [.ptr R 0, keyP i j] H v H' ∧ Sp30 s rl gap R kn fn i j H v H' := by
  intro n
  induction n using Nat.strongRecOn with
  | _ n ih =>
    intro i j hn hij hj H hG
    obtain ⟨v, H1, h, hsp⟩ := first_walk hP (fuel := 4000) (by omega) hij hj hG (fun i' j' a b c H g => KF_30 _ _ _ _ _ _ (ih (j' - i') (by omega) i' j' rfl a b H g))
    exact ⟨v, H1, xfunc_sound mixed (xcallK_sound mixed (KF_ok _ _ _ _ _ _) F_ok 4000 2) 4000 (F_ok 30 L30 rfl) h, hsp⟩
end
theorem map_bool_inj : ∀ {a b : List Bool}, a.map AV.bool = b.map AV.bool → a = b
  | [], [], _ => rfl
  | [], _ :: _, h => by simp at h
  | _ :: _, [], h => by simp at h
  | x :: a, y :: b, h => by
    simp only [List.map_cons, List.cons.injEq, AV.bool.injEq] at h
    rw [h.1, map_bool_inj h.2]
theorem ropeA_inj {s s' : List UInt8} {rl rl' : List Bool} {gap gap' : Int} {k f k' f' : Nat} (h1 : rl.length = 16) (h2 : rl'.length = 16) (h : ropeA s rl gap (.map k) (.map f) = ropeA s' rl' gap' (.map k') (.map f')) : s = s' ∧ rl = rl' ∧ gap = gap' ∧ k = k' ∧ f = f' := by
  unfold ropeA at h
  simp only [List.cons.injEq, AV.str.injEq] at h
  obtain ⟨rfl, h⟩ := h
  have h3 := List.append_inj h (by simp [h1, h2])
  simp only [List.cons.injEq, AV.int.injEq, AV.map.injEq, true_and, and_true] at h3
  exact ⟨rfl, map_bool_inj h3.1, h3.2.1, h3.2.2.1, h3.2.2.2⟩
open Classical in
noncomputable def KM : CF := fun f args H =>
  if f = 24 then xcallK K0 F 2000 50 24 args H else
  if f = 28 then (if h : ∃ (r : AV × AHeap) (s : List UInt8) (rl : List Bool) (gap : Int) (R kn fn i j : Nat), args = [.ptr R 0, keyP i j] ∧ RopeP s rl R kn fn ∧ GoodH s rl gap R kn fn H ∧ CallOK Tryd.prog 28 args H r.1 r.2 ∧ Sp28 s rl gap R kn fn i j H r.1 r.2 then some h.choose else none) else
  if f = 30 then (if h : ∃ (r : AV × AHeap) (s : List UInt8) (rl : List Bool) (gap : Int) (R kn fn i j : Nat), args = [.ptr R 0, keyP i j] ∧ RopeP s rl R kn fn ∧ GoodF s rl gap R kn fn H ∧ CallOK Tryd.prog 30 args H r.1 r.2 ∧ Sp30 s rl gap R kn fn i j H r.1 r.2 then some h.choose else none) else none
theorem KM_ok : CFok Tryd.prog KM := by
  intro f args H v H' h
  unfold KM at h
  split at h
  · rename_i hf
    subst hf
    exact K0_ok 50 _ _ _ _ _ h
  · split at h
    · rename_i hf
      subst hf
      split at h
      · rename_i q
        obtain ⟨_, _, _, _, _, _, _, _, _, _, _, h2, _⟩ := q.choose_spec
        simp only [Option.some.injEq] at h
        rw [h] at h2
        exact h2
      · cases h
    · split at h
      · rename_i hf
        subst hf
        split at h
        · rename_i q
          obtain ⟨_, _, _, _, _, _, _, _, _, _, _, h2, _⟩ := q.choose_spec
          simp only [Option.some.injEq] at h
          rw [h] at h2
          exact h2
        · cases h
      · cases h
section
variable {s : List UInt8} {rl : List Bool} {gap : Int} {R kn fn : Nat}
theorem KM_28 (hP : RopeP s rl R kn fn) {i j : Nat} (hij : i ≤ j) (hj : j ≤ s.length) {H : AHeap} (hG : GoodH s rl gap R kn fn H) : ∃ v H', KM 28 [.ptr R 0, keyP i j] H = some (v, H') ∧ Sp28 s rl gap R kn fn i j H v H' := by
  obtain ⟨v, H', h1, h2⟩ := sizes_ok hP _ i j rfl hij hj H hG
  have q : ∃ (r : AV × AHeap) (s : List UInt8) (rl : List Bool) (gap : Int) (R' kn fn i' j' : Nat), [AV.ptr R 0, keyP i j] = [.ptr R' 0, keyP i' j'] ∧ RopeP s rl R' kn fn ∧ GoodH s rl gap R' kn fn H ∧ CallOK Tryd.prog 28 [.ptr R 0, keyP i j] H r.1 r.2 ∧ Sp28 s rl gap R' kn fn i' j' H r.1 r.2 := ⟨(v, H'), s, rl, gap, R, kn, fn, i, j, rfl, hP, hG, h1, h2⟩
  refine ⟨_, _, (by unfold KM; rw [if_neg (by decide), if_pos rfl, dif_pos q]), ?_⟩
  obtain ⟨s', rl', gap', R', kn', fn', i', j', e, hP', hG', _, h3⟩ := q.choose_spec
  have e1 : R = R' := by simp only [List.cons.injEq, AV.ptr.injEq] at e; exact e.1.1
  subst e1
  obtain ⟨rfl, rfl⟩ := keyP_inj (i := i) (j := j) (i' := i') (j' := j') (by simpa using e)
  have hr := hG.r
  rw [hG'.r] at hr
  obtain ⟨rfl, rfl, rfl, rfl, rfl⟩ := ropeA_inj hP'.rl hP.rl (by simpa using hr)
  exact h3
theorem KM_30 (hP : RopeP s rl R kn fn) {i j : Nat} (hij : i ≤ j) (hj : j ≤ s.length) {H : AHeap} (hG : GoodF s rl gap R kn fn H) : ∃ v H', KM 30 [.ptr R 0, keyP i j] H = some (v, H') ∧ Sp30 s rl gap R kn fn i j H v H' := by
  obtain ⟨v, H', h1, h2⟩ := first_ok hP _ i j rfl hij hj H hG
  have q : ∃ (r : AV × AHeap) (s : List UInt8) (rl : List Bool) (gap : Int) (R' kn fn i' j' : Nat), [AV.ptr R 0, keyP i j] = [.ptr R' 0, keyP i' j'] ∧ RopeP s rl R' kn fn ∧ GoodF s rl gap R' kn fn H ∧ CallOK Tryd.prog 30 [.ptr R 0, keyP i j] H r.1 r.2 ∧ Sp30 s rl gap R' kn fn i' j' H r.1 r.2 := ⟨(v, H'), s, rl, gap, R, kn, fn, i, j, rfl, hP, hG, h1, h2⟩
  refine ⟨_, _, (by unfold KM; rw [if_neg (by decide), if_neg (by decide), if_pos rfl, dif_pos q]), ?_⟩
  obtain ⟨s', rl', gap', R', kn', fn', i', j', e, hP', hG', _, h3⟩ := q.choose_spec
  have e1 : R = R' := by simp only [List.cons.injEq, AV.ptr.injEq] at e; exact e.1.1
  subst e1
  obtain ⟨rfl, rfl⟩ := keyP_inj (i := i) (j := j) (i' := i') (j' := j') (by simpa using e)
  have hr := hG.g.r
  rw [hG'.g.r] at hr
  obtain ⟨rfl, rfl, rfl, rfl, rfl⟩ := ropeA_inj hP'.rl hP.rl (by simpa using hr)
  exact h3
end
theorem KM_24 (s : List UInt8) (l : List (Int × Int)) (gap : Int) (H : AHeap) : ∃ v H', KM 24 [.str s, .imm (encPairs l) l.length false, .int .i64 gap] H = some (v, H') ∧ ReadQ s l gap v H' := by
  obtain ⟨v, H', h1, h2⟩ := read_ok (k := 46) (H := H) (s := s) (l := l) (gap := gap)
  refine ⟨v, H', ?_, h2⟩
  unfold KM
  rw [if_pos rfl]
  exact (xcallK_F (k := 49) (by omega) (show F 24 = some L24 from rfl)).trans h1
theorem KM_none {f : Nat} {args : List AV} {H : AHeap} (h1 : f ≠ 24) (h2 : f ≠ 28) (h3 : f ≠ 30) : KM f args H = none := by
  unfold KM
  rw [if_neg h1, if_neg h2, if_neg h3]
theorem readE_zero {s : List UInt8} {l : List (Int × Int)} {gap : Int} (h : readE s l gap = 0) : s.length ≤ 40 ∧ s.all inS' = true ∧ l.any badP = false ∧ 0 ≤ gap ∧ gap ≤ 5 := by
  unfold readE at h
  split at h
  · omega
  · split at h
    · omega
    · rename_i hb
      split at h
      · omega
      · split at h
        · rename_i ha
          exact ⟨by omega, ha, by simpa using hb, by omega, by omega⟩
        · omega
theorem read_good {s : List UInt8} {l : List (Int × Int)} {gap : Int} {R kn fn : Nat} {H : AHeap} (h0 : readE s l gap = 0) (h1 : H.get R = some (.cells (ropeA s (rulesOf l) gap (.map kn) (.map fn)) none)) (h2 : R < H.next) (h3 : H.get kn = some (.map [])) (h4 : H.get fn = some (.map [])) (h5 : kn < fn) (h6 : fn < R) : RopeP s (rulesOf l) R kn fn ∧ GoodF s (rulesOf l) gap R kn fn H := by
  obtain ⟨a, b, _⟩ := readE_zero h0
  exact ⟨⟨rulesOf_len l, b, a, by omega, by omega, by omega⟩, ⟨h1, ⟨[], h3, fun e he => by cases he⟩, h2, by omega⟩, ⟨[], h4, fun e he => by cases he⟩, by omega⟩
theorem whole_ok {cf : CF} {fuel : Nat} {H : AHeap} {R : Nat} {c : List AV} {s : List UInt8} (hR : H.get R = some (.cells c none)) (hc : c[0]? = some (.str s)) (hlt : R < H.next) (hl : s.length < 1000000) : ∃ v H', xfunc cf fuel L29 [.ptr R 0] H = some (v, H') ∧ (v = keyP 0 s.length ∧ H.next ≤ H'.next ∧ ∀ q, q < H.next → H'.get q = H.get q) := by
  refine xfunc_ofK rfl (by show 1 ≤ 9; omega) ?_
  have hF := HF.start H
  have hsl : ∀ {cf : CF} {n : Nat} {H : AHeap} {K : KL0} {x : XO}, evK K x = some (.str s) → XV cf K H n (.slen x) = some (nA s.length, H) := fun hx => k_any (op_slen hx)
  unfold L29
  dsimp only
  repeat' (first | refine WK.seq ?_ | refine WK.ret ?_ | (apply WK.reg; (· exact lnn)) | (apply WKO.alO; (· assumption); (· rfl); (· exact nxx); (· exact nxx); (· exact nxx); intro _ _ _) | (apply WKO.stO0; (· rfl); (· rfl); (· assumption); (· rfl); (· exact nxx); (· first | exact .inr nxx); (· rfl); (· rfl); (· first | decide); intro _ _ _) | refine WKO.nil ?_ | ((first | apply WKO.op); (· first | exact k_mv rfl | (apply k_ldF; (· rfl); (· assumption); (· rfl); (· exact hR); (· exact hlt); (· simp); (· exact hc)) | exact hsl rfl | exact k_faddr rfl | exact k_nilc rfl | exact opA); (· rfl)) | refine pN ?_ | fail)
  rename_i H1 hF1 hn1 H2 hF2 hn2
  exact ⟨fun id q => (by cases q), _, resK_obj rfl (hF2.obj _ (.head _)) rfl, rfl, Nat.le_trans hF2.base hF2.le, fun q hq => hF2.fr q hq (by simp)⟩
end Go.Proofs.YtfcgofffalmdfaaDoor.PA
namespace Go.Proofs.YtfcgofffalmdfaaDoor.PA
open Go Go.Eng Go.Proofs
def pairsI (l : List (Int × Int)) : AV := .imm (encPairs l) l.length false
def MostV (s : List UInt8) (l : List (Int × Int)) (gap : Int) : Nat × Int := if readE s l gap = 0 then (mostF s (rulesOf l) gap 0 s.length, 0) else (0, readE s l gap)
def FirstV (s : List UInt8) (l : List (Int × Int)) (gap : Int) : List UInt8 × Int := if readE s l gap = 0 then (fsF s (rulesOf l) gap 0 s.length, 0) else ([], readE s l gap)
theorem k_neE {cf : CF} {n : Nat} {H : AHeap} {l : KL0} {x : XO} {e : Int} (hx : evK l x = some (.int .i64 e)) : XV cf l H n (.bin .neq x (.k (.int .i64 (.ofNat 0)))) = some (.bool (decide (e ≠ 0)), H) :=
  k_bin hx rfl (by
    show some (AV.bool (e != Int.ofNat 0)) = _
    congr 2
    rw [Bool.eq_iff_iff]
    simp)
theorem Most_walk (s : List UInt8) (l : List (Int × Int)) (gap : Int) : ∃ v H', xfunc (xcallK KM F 2000 1) 2000 L16 [.str s, pairsI l, .int .i64 gap] ⟨.e, 0⟩ = some (v, H') ∧ v = .tup [nA (MostV s l gap).1, .int .i64 (MostV s l gap).2] := by
  refine xfunc_ofK rfl (by show 3 ≤ 26; omega) ?_
  unfold L16
  dsimp only
  repeat' (first | refine WK.seq ?_ | (apply WK.reg; (· exact lnn)) | refine WKO.nil ?_ | ((first | apply WKO.op); (· first | exact k_mv rfl); (· rfl)) | refine pN ?_ | fail)
  obtain ⟨v, H1, h1, hq⟩ := KM_24 s l gap ((⟨.e, 0⟩ : AHeap).bump 2 |>.bump 9)
  refine WKO.callV rfl rfl rfl ⟨v, H1, cfhit h1, hq⟩ ?_
  rintro v H1 (⟨hE, rfl⟩ | ⟨hE, R, kn, fn, rfl, g1, g2, g3, g4, g5, g6⟩)
  · have hV : MostV s l gap = (0, readE s l gap) := by unfold MostV; rw [if_neg hE]
    rw [hV]
    repeat' (first | refine WK.seq ?_ | refine WK.ret ?_ | (apply WK.reg; (· exact lnn)) | refine WKO.nil ?_ | ((first | apply WKO.op); (· first | exact k_mv rfl | exact k_neE rfl | exact opA); (· rfl)) | refine pN ?_ | refine pR ?_ | (apply WK.condT; (· rfl); (· exact dcd)) | fail)
    exact ⟨fun id q => (by cases q), _, rfl, rfl⟩
  · have hV : MostV s l gap = (mostF s (rulesOf l) gap 0 s.length, 0) := by unfold MostV; rw [if_pos hE]
    obtain ⟨hP, hG⟩ := read_good hE g1 g2 g3 g4 g5 g6
    have hsl := hP.sl
    rw [hV]
    repeat' (first | refine WK.seq ?_ | refine WK.skip ?_ | (apply WK.reg; (· exact lnn)) | refine WKO.nil ?_ | ((first | apply WKO.op); (· first | exact k_mv rfl | exact k_neE rfl | exact opA); (· rfl)) | refine pN ?_ | (apply WK.condF; (· rfl); (· exact dcd)) | fail)
    refine WKO.callV rfl rfl rfl (show ∃ v H', xcallK KM F 2000 1 29 [.ptr R 0] ((H1.bump 2).bump 8) = some (v, H') ∧ _ from by
      obtain ⟨v, H', q1, q2⟩ := whole_ok (cf := xcallK KM F 2000 0) (fuel := 2000) (H := (H1.bump 2).bump 8) (R := R) (c := ropeA s (rulesOf l) gap (.map kn) (.map fn)) (s := s) g1 rfl (by simp only [next_bump]; omega) (by omega)
      exact ⟨v, H', (cfstep (KM_none (by decide) (by decide) (by decide)) rfl).trans q1, q2⟩) ?_
    rintro v2 H2 ⟨rfl, hn2, hk2⟩
    have hG2 : GoodF s (rulesOf l) gap R kn fn H2 := (hG.up (H' := (H1.bump 2).bump 8) (by simp only [next_bump]; omega) rfl rfl rfl).up hn2 (hk2 R (by simp only [next_bump]; omega)) (hk2 kn (by have := hG.g.kn; simp only [next_bump]; omega)) (hk2 fn (by have := hG.fnl; simp only [next_bump]; omega))
    obtain ⟨v3, H3, e3, q3⟩ := KM_28 hP (i := 0) (j := s.length) (Nat.zero_le _) (Nat.le_refl _) hG2.g
    refine WKO.callV rfl rfl rfl ⟨v3, H3, cfhit e3, q3⟩ ?_
    rintro v3 H3 ⟨rfl, _, _, _⟩
    have hpos : 1 ≤ (szF s (rulesOf l) gap 0 s.length).length := sizesN_pos _ _ _
    have hle : (szF s (rulesOf l) gap 0 s.length).length ≤ 42 := by
      have := lenN_le (mayF s (rulesOf l) gap) (s.length - 0) 0
      unfold lenN at this
      unfold szF
      omega
    repeat' (first | refine WK.ret ?_ | refine WKO.nil ?_ | ((first | apply WKO.op); (· first | exact k_mv rfl | exact k_lenE rfl (rowI_rd H3 _) | exact opA); (· rfl)) | refine pN ?_ | fail)
    exact ⟨fun id q => (by cases q), _, rfl, rfl⟩
theorem First_walk (s : List UInt8) (l : List (Int × Int)) (gap : Int) : ∃ v H', xfunc (xcallK KM F 2000 1) 2000 L17 [.str s, pairsI l, .int .i64 gap] ⟨.e, 0⟩ = some (v, H') ∧ v = .tup [.str (FirstV s l gap).1, .int .i64 (FirstV s l gap).2] := by
  refine xfunc_ofK rfl (by show 3 ≤ 24; omega) ?_
  unfold L17
  dsimp only
  repeat' (first | refine WK.seq ?_ | (apply WK.reg; (· exact lnn)) | refine WKO.nil ?_ | ((first | apply WKO.op); (· first | exact k_mv rfl); (· rfl)) | refine pN ?_ | fail)
  obtain ⟨v, H1, h1, hq⟩ := KM_24 s l gap ((⟨.e, 0⟩ : AHeap).bump 2 |>.bump 9)
  refine WKO.callV rfl rfl rfl ⟨v, H1, cfhit h1, hq⟩ ?_
  rintro v H1 (⟨hE, rfl⟩ | ⟨hE, R, kn, fn, rfl, g1, g2, g3, g4, g5, g6⟩)
  · have hV : FirstV s l gap = ([], readE s l gap) := by unfold FirstV; rw [if_neg hE]
    rw [hV]
    repeat' (first | refine WK.seq ?_ | refine WK.ret ?_ | (apply WK.reg; (· exact lnn)) | refine WKO.nil ?_ | ((first | apply WKO.op); (· first | exact k_mv rfl | exact k_neE rfl | exact opA); (· rfl)) | refine pN ?_ | refine pR ?_ | (apply WK.condT; (· rfl); (· exact dcd)) | fail)
    exact ⟨fun id q => (by cases q), _, rfl, rfl⟩
  · have hV : FirstV s l gap = (fsF s (rulesOf l) gap 0 s.length, 0) := by unfold FirstV; rw [if_pos hE]
    obtain ⟨hP, hG⟩ := read_good hE g1 g2 g3 g4 g5 g6
    have hsl := hP.sl
    rw [hV]
    repeat' (first | refine WK.seq ?_ | refine WK.skip ?_ | (apply WK.reg; (· exact lnn)) | refine WKO.nil ?_ | ((first | apply WKO.op); (· first | exact k_mv rfl | exact k_neE rfl | exact opA); (· rfl)) | refine pN ?_ | (apply WK.condF; (· rfl); (· exact dcd)) | fail)
    refine WKO.callV rfl rfl rfl (show ∃ v H', xcallK KM F 2000 1 29 [.ptr R 0] ((H1.bump 2).bump 6) = some (v, H') ∧ _ from by
      obtain ⟨v, H', q1, q2⟩ := whole_ok (cf := xcallK KM F 2000 0) (fuel := 2000) (H := (H1.bump 2).bump 6) (R := R) (c := ropeA s (rulesOf l) gap (.map kn) (.map fn)) (s := s) g1 rfl (by simp only [next_bump]; omega) (by omega)
      exact ⟨v, H', (cfstep (KM_none (by decide) (by decide) (by decide)) rfl).trans q1, q2⟩) ?_
    rintro v2 H2 ⟨rfl, hn2, hk2⟩
    have hG2 : GoodF s (rulesOf l) gap R kn fn H2 := (hG.up (H' := (H1.bump 2).bump 6) (by simp only [next_bump]; omega) rfl rfl rfl).up hn2 (hk2 R (by simp only [next_bump]; omega)) (hk2 kn (by have := hG.g.kn; simp only [next_bump]; omega)) (hk2 fn (by have := hG.fnl; simp only [next_bump]; omega))
    obtain ⟨v3, H3, e3, q3⟩ := KM_30 hP (i := 0) (j := s.length) (Nat.zero_le _) (Nat.le_refl _) hG2
    refine WKO.callV rfl rfl rfl ⟨v3, H3, cfhit e3, q3⟩ ?_
    rintro v3 H3 ⟨rfl, _, _, _⟩
    repeat' (first | refine WK.ret ?_ | refine WKO.nil ?_ | ((first | apply WKO.op); (· first | exact k_mv rfl); (· rfl)) | refine pN ?_ | fail)
    exact ⟨fun id q => (by cases q), _, rfl, rfl⟩
theorem Most_call (s : List UInt8) (l : List (Int × Int)) (gap : Int) : ∃ H', CallOK Tryd.prog 16 [.str s, pairsI l, .int .i64 gap] ⟨.e, 0⟩ (.tup [nA (MostV s l gap).1, .int .i64 (MostV s l gap).2]) H' := by
  obtain ⟨v, H', h, rfl⟩ := Most_walk s l gap
  exact ⟨H', xfunc_sound mixed (xcallK_sound mixed KM_ok F_ok 2000 1) 2000 (F_ok 16 L16 rfl) h⟩
theorem First_call (s : List UInt8) (l : List (Int × Int)) (gap : Int) : ∃ H', CallOK Tryd.prog 17 [.str s, pairsI l, .int .i64 gap] ⟨.e, 0⟩ (.tup [.str (FirstV s l gap).1, .int .i64 (FirstV s l gap).2]) H' := by
  obtain ⟨v, H', h, rfl⟩ := First_walk s l gap
  exact ⟨H', xfunc_sound mixed (xcallK_sound mixed KM_ok F_ok 2000 1) 2000 (F_ok 17 L17 rfl) h⟩
theorem Is_call (s : List UInt8) (l : List (Int × Int)) (gap : Int) (f : List UInt8) (hf : f.length ≤ 1000) : ∃ H', CallOK Tryd.prog 12 [.str s, pairsI l, .int .i64 gap, .str f] ⟨.e, 0⟩ (.tup [.bool (IsV s l gap f).1, .int .i64 (IsV s l gap f).2]) H' := by
  obtain ⟨v, H', h, rfl⟩ := Is_top s l gap f hf
  exact ⟨H', K0_ok 43 _ _ _ _ _ h⟩
end Go.Proofs.YtfcgofffalmdfaaDoor.PA
namespace Go.Proofs.YtfcgofffalmdfaaDoor.PA
open Go Go.Eng Go.Proofs
def bA (n : Nat) : AV := .int .u8 (n : Int)
section
variable {cf : CF} {n : Nat} {H : AHeap} {l : KL0} {x y : XO} {f : List UInt8} {a b : Nat}
theorem k_slen (hx : evK l x = some (.str f)) : XV cf l H n (.slen x) = some (nA f.length, H) := k_any (op_slen hx)
theorem k_sidx (hx : evK l x = some (.str f)) (hy : evK l y = some (nA a)) (h : a < f.length) : XV cf l H n (.sidx x y) = some (bA (f.getD a 97).toNat, H) :=
  k_any (op_sidx hx hy (by rw [List.getD_eq_getElem?_getD, List.getElem?_eq_getElem h]; rfl))
theorem k_eq8 {c : Nat} (hx : evK l x = some (bA a)) : XV cf l H n (.bin .eql x (.k (.int .u8 (.ofNat c)))) = some (.bool (decide (a = c)), H) :=
  k_bin hx rfl (by
    show some (AV.bool ((a : Int) == (c : Int))) = _
    congr 2
    rw [Bool.eq_iff_iff]
    simp
    omega)
theorem k_ne8 {c : Nat} (hx : evK l x = some (bA a)) : XV cf l H n (.bin .neq x (.k (.int .u8 (.ofNat c)))) = some (.bool (decide (a ≠ c)), H) :=
  k_bin hx rfl (by
    show some (AV.bool ((a : Int) != (c : Int))) = _
    congr 2
    rw [Bool.eq_iff_iff]
    simp
    omega)
theorem k_eq88 (hx : evK l x = some (bA a)) (hy : evK l y = some (bA b)) : XV cf l H n (.bin .eql x y) = some (.bool (decide (a = b)), H) :=
  k_bin hx hy (by
    show some (AV.bool ((a : Int) == (b : Int))) = _
    congr 2
    rw [Bool.eq_iff_iff]
    simp
    omega)
theorem k_to8 (hx : evK l x = some (nA a)) (h : a < 256) : XV cf l H n (.conv .u8 x) = some (bA a, H) := by
  refine k_any ?_
  simp only [xval, xop, hx, nA, AR.ofV]
  have : wrapA .u8 (a : Int) = (a : Int) := by
    simp only [wrapA, IntKind.wrap, IntKind.bits, IntKind.signed]
    simp
    omega
  rw [this]
  rfl
theorem k_ldP {cs : List AV} {p : Nat} {v : AV} (hx : evK l x = some (.iptr cs p)) (h : cs[p]? = some v) : XV cf l H n (.load none x) = some (v, H) :=
  k_load hx (by
    show (cs.drop p)[0]? = _
    rw [List.getElem?_drop, Nat.add_zero, h])
theorem k_faP {cs : List AV} {p o : Nat} (hx : evK l x = some (.iptr cs p)) : XV cf l H n (.faddr o x) = some (.iptr cs (p + o), H) := k_any (op_faddrI hx)
theorem k_gtrZ {c : Int} (hx : evK l x = some (nA a)) (hy : evK l y = some (.int .i64 c)) : XV cf l H n (.bin .gtr x y) = some (.bool (decide ((a : Int) > c)), H) := k_bin hx hy rfl
end
theorem encP_get {l : List (Int × Int)} {k : Nat} {p : Int × Int} (h : l[k]? = some p) : (encPairs l)[k * 2]? = some (.int .i64 p.1) ∧ (encPairs l)[k * 2 + 1]? = some (.int .i64 p.2) := by
  have := encPairs_at l k p h
  constructor
  · have h1 : (((encPairs l).drop (k * 2)).take 2)[0]? = some (.int .i64 p.1) := by rw [this]; rfl
    rw [List.getElem?_take, if_pos (by omega), List.getElem?_drop] at h1
    exact h1
  · have h1 : (((encPairs l).drop (k * 2)).take 2)[1]? = some (.int .i64 p.2) := by rw [this]; rfl
    rw [List.getElem?_take, if_pos (by omega), List.getElem?_drop] at h1
    exact h1
theorem Size_ok {cf : CF} {fuel : Nat} {H : AHeap} (f : List UInt8) (hf : f.length < fuel) (hl : f.length ≤ 1000) : ∃ v H', xfunc cf fuel L18 [.str f] H = some (v, H') ∧ (v = nA (sizeF f) ∧ H'.m = H.m ∧ H.next ≤ H'.next) := by
  refine xfunc_ofK rfl (by show 1 ≤ 18; omega) ?_
  unfold L18
  dsimp only
  repeat' (first | refine WK.seq ?_ | refine WK.block ?_ | (apply WK.reg; (· exact lnn)) | refine WKO.nil ?_ | ((first | apply WKO.op); (· first | exact k_mv rfl); (· rfl)) | refine pN ?_ | fail)
  refine WK.loop (α := Nat) (fun i => [(0, .str f), (3, nA (sizeF (f.take i))), (4, nA i)]) (fun i H' => H'.m = H.m ∧ H.next ≤ H'.next ∧ i ≤ f.length) (fun i => f.length - i) 0 (.cons rfl <| .cons rfl <| .cons rfl <| .nil _) ⟨rfl, by simp only [next_bump]; omega, Nat.zero_le _⟩ (by omega) ?_
  rintro i H1 ⟨h1, h2, h3⟩
  have hc : sizeF (f.take i) ≤ i := by
    have := List.countP_le_length (p := fun x : UInt8 => x == 40) (l := f.take i)
    rw [List.length_take] at this
    unfold sizeF
    omega
  have hs : i < f.length → sizeF (f.take (i + 1)) = sizeF (f.take i) + if (f.getD i 97).toNat = 40 then 1 else 0 := fun h => by
    rw [List.take_add_one, List.getElem?_eq_getElem h, sizeF_app, List.getD_eq_getElem?_getD, List.getElem?_eq_getElem h]
    unfold sizeF
    simp only [Option.toList_some, List.countP_cons, List.countP_nil, Option.getD_some, Nat.zero_add]
    congr 1
    have e : (f[i] == 40) = decide (f[i].toNat = 40) := by
      rw [Bool.eq_iff_iff]
      simp only [beq_iff_eq, decide_eq_true_eq]
      exact ⟨fun q => by rw [q]; rfl, fun q => UInt8.toNat_inj.1 q⟩
    rw [e]
    by_cases q : f[i].toNat = 40 <;> simp [q]
  repeat' (first | refine WK.seq ?_ | refine WK.skip ?_ | refine WK.ret ?_ | refine WK.exit ?_ | refine WK.block ?_ | (apply WK.reg; (· exact lnn)) | refine WKO.nil ?_ | ((first | apply WKO.op); (· first | exact k_mv rfl | exact k_slen rfl | exact k_sidx rfl rfl (by omega) | exact k_eq8 rfl | exact opA); (· rfl)) | refine pN ?_ | refine pX ?_ | refine bN ?_ | refine bX ?_ | (apply WK.condD; (· rfl); all_goals intro _) | fail)
  · rename_i h4 h5
    refine ⟨i + 1, .cons rfl <| .cons (by rw [hs h4, if_pos h5]; rfl) <| .cons rfl <| .nil _, ⟨h1, by simp only [next_bump]; omega, by omega⟩, by omega⟩
  · rename_i h4 h5
    refine ⟨i + 1, .cons rfl <| .cons (by rw [hs h4, if_neg h5]; rfl) <| .cons rfl <| .nil _, ⟨h1, by simp only [next_bump]; omega, by omega⟩, by omega⟩
  · have hi : i = f.length := by omega
    refine ⟨fun id q => (by cases q), _, rfl, by rw [hi, List.take_length]; rfl, h1, by simp only [next_bump]; omega⟩
theorem may_iff {s : List UInt8} {l : List (Int × Int)} {gap : Int} {i j : Nat} (hb : l.any badP = false) (hs : s.all inS' = true) (hi : i < s.length) (hj : j < s.length) :
    mayF s (rulesOf l) gap i j = (decide ((j : Int) - (i : Int) > gap) && l.any (hit ((s.getD i 97).toNat - 97) ((s.getD j 97).toNat - 97))) := by
  have hx : ∀ i, i < s.length → 97 ≤ (s.getD i 97).toNat ∧ (s.getD i 97).toNat ≤ 100 := fun i hi => by
    have := List.all_eq_true.1 hs (s.getD i 97) (by rw [List.getD_eq_getElem?_getD, List.getElem?_eq_getElem hi]; exact List.getElem_mem hi)
    simpa [inS'] using this
  have h1 := hx i hi
  have h2 := hx j hj
  unfold mayF ruleOf
  congr 1
  have := rules_hit l (List.replicate 16 false) ((s.getD i 97).toNat - 97) ((s.getD j 97).toNat - 97) (by simp) (by omega) (by omega) hb
  unfold rulesOf
  rw [this, List.getD_eq_getElem?_getD, List.getElem?_replicate]
  split <;> simp
set_option maxHeartbeats 2000000 in
theorem RMay_ok {cf : CF} {fuel : Nat} {H : AHeap} {s : List UInt8} {l : List (Int × Int)} {gap : Int} {i j : Nat} (hb : l.any badP = false) (hs : s.all inS' = true) (hi : i < s.length) (hj : j < s.length) (hij : i < j) (hl : l.length < fuel) (hl2 : l.length ≤ 1000) (hsl : s.length ≤ 1000) :
    ∃ v H', xfunc cf fuel L27 [.str s, pairsI l, .int .i64 gap, nA i, nA j] H = some (v, H') ∧ (v = .bool (mayF s (rulesOf l) gap i j) ∧ H'.m = H.m ∧ H.next ≤ H'.next) := by
  refine xfunc_ofK rfl (by show 5 ≤ 67; omega) ?_
  rw [may_iff hb hs hi hj]
  have hx : ∀ i, i < s.length → 97 ≤ (s.getD i 97).toNat ∧ (s.getD i 97).toNat ≤ 100 := fun i hi => by
    have := List.all_eq_true.1 hs (s.getD i 97) (by rw [List.getD_eq_getElem?_getD, List.getElem?_eq_getElem hi]; exact List.getElem_mem hi)
    simpa [inS'] using this
  have hxi := hx i hi
  have hxj := hx j hj
  unfold L27
  dsimp only
  repeat' (first | refine WK.seq ?_ | refine WK.block ?_ | (apply WK.reg; (· exact lnn)) | refine WKO.nil ?_ | ((first | apply WKO.op); (· first | exact k_mv rfl); (· rfl)) | refine pN ?_ | fail)
  refine WK.loop (α := Nat) (fun k => [(0, .str s), (1, pairsI l), (2, .int .i64 gap), (3, nA i), (4, nA j), (11, nA k)]) (fun k H' => H'.m = H.m ∧ H.next ≤ H'.next ∧ k ≤ l.length ∧ (decide ((j : Int) - (i : Int) > gap) && (l.take k).any (hit ((s.getD i 97).toNat - 97) ((s.getD j 97).toNat - 97))) = false) (fun k => l.length - k) 0 (.cons rfl <| .cons rfl <| .cons rfl <| .cons rfl <| .cons rfl <| .cons rfl <| .nil _) ⟨rfl, by simp only [next_bump]; omega, Nat.zero_le _, by simp⟩ (by omega) ?_
  rintro k H1 ⟨h1, h2, h3, h4⟩
  by_cases hk : k < l.length
  · obtain ⟨p, hp⟩ : ∃ p, l[k]? = some p := ⟨_, List.getElem?_eq_getElem hk⟩
    have hbp : badP p = false := by
      rw [List.any_eq_false] at hb
      simpa using hb p (List.mem_of_getElem? hp)
    obtain ⟨⟨a, b⟩, hab⟩ : ∃ q : Nat × Nat, p = ((q.1 : Int), (q.2 : Int)) := by
      simp only [badP, Bool.or_eq_false_iff, decide_eq_false_iff_not] at hbp
      exact ⟨(p.1.toNat, p.2.toNat), by obtain ⟨p1, p2⟩ := p; simp only [Prod.mk.injEq] at hbp ⊢; omega⟩
    subst hab
    have hab4 : a < 4 ∧ b < 4 := by
      simp only [badP, Bool.or_eq_false_iff, decide_eq_false_iff_not] at hbp
      omega
    obtain ⟨e1, e2⟩ := encP_get hp
    have hany : ∀ z, z = hit ((s.getD i 97).toNat - 97) ((s.getD j 97).toNat - 97) ((a : Int), (b : Int)) → (l.take (k + 1)).any (hit ((s.getD i 97).toNat - 97) ((s.getD j 97).toNat - 97)) = ((l.take k).any (hit ((s.getD i 97).toNat - 97) ((s.getD j 97).toNat - 97)) || z) := fun z hz => by
      rw [List.take_add_one, hp, List.any_append, hz]
      simp
    have hiff : hit ((s.getD i 97).toNat - 97) ((s.getD j 97).toNat - 97) ((a : Int), (b : Int)) = decide ((97 + a = (s.getD i 97).toNat ∧ 97 + b = (s.getD j 97).toNat) ∨ (97 + a = (s.getD j 97).toNat ∧ 97 + b = (s.getD i 97).toNat)) := by
      rw [Bool.eq_iff_iff]
      simp only [hit, Bool.or_eq_true, Bool.and_eq_true, beq_iff_eq, decide_eq_true_eq]
      omega
    have hgo : ∀ {H' : AHeap}, H'.m = H1.m → H1.next ≤ H'.next → (decide ((j : Int) - (i : Int) > gap) && hit ((s.getD i 97).toNat - 97) ((s.getD j 97).toNat - 97) ((a : Int), (b : Int))) = false → H'.m = H.m ∧ H.next ≤ H'.next ∧ k + 1 ≤ l.length ∧ (decide ((j : Int) - (i : Int) > gap) && (l.take (k + 1)).any (hit ((s.getD i 97).toNat - 97) ((s.getD j 97).toNat - 97))) = false := fun a1 a2 a3 => by
      refine ⟨a1.trans h1, by omega, by omega, ?_⟩
      rw [hany _ rfl, Bool.and_or_distrib_left, h4, a3]
      rfl
    have hret : hit ((s.getD i 97).toNat - 97) ((s.getD j 97).toNat - 97) ((a : Int), (b : Int)) = true → l.any (hit ((s.getD i 97).toNat - 97) ((s.getD j 97).toNat - 97)) = true := fun q => List.any_eq_true.2 ⟨_, List.mem_of_getElem? hp, q⟩
    repeat' (first | refine WK.seq ?_ | refine WK.skip ?_ | refine WK.ret ?_ | refine WK.block ?_ | (apply WK.reg; (· exact lnn)) | (apply WK.regC; (· rfl); (· exact lnn); (· decide)) | refine WKC.nil ?_ | refine WKO.nil ?_ | ((first | apply WKC.op | apply WKO.op | ((first | apply WKO.gop); (· rfl); (· exact dcd))); (· first | exact k_mv rfl | exact k_lenE rfl (RdR.imm (H := H1) (encPairs_length l)) | exact k_iaM rfl rfl (by omega) | exact k_faP rfl | exact k_ldP rfl e1 | exact k_ldP rfl e2 | exact k_to8 rfl (by omega) | exact k_sidx rfl rfl (by omega) | exact k_eq88 rfl rfl | exact k_gtrZ rfl rfl | exact opA); (· rfl)) | ((first | apply WKO.gnoT | apply WKO.gnoF); (· rfl); (· exact dcd)) | ((first | apply WKO.gnu); (· rfl)) | ((first | apply WKO.gsp); (· rfl); all_goals ((fail_if_success (refine known ?_ ?_; (· assumption))); intro _)) | refine pN ?_ | refine pR ?_ | refine bN ?_ | refine bR ?_ | (apply WK.condT; (· rfl); (· exact dcd)) | (apply WK.condF; (· rfl); (· exact dcd)) | (apply WK.condD; (· rfl); all_goals intro _) | fail)
    all_goals simp only at *
    all_goals first
      | exact ⟨fun id q => (by cases q), _, rfl, by
          have hh := hret (by rw [hiff]; exact decide_eq_true (by omega))
          rw [hh, decide_eq_true (show (j : Int) - (i : Int) > gap by omega)]
          rfl, h1, by simp only [next_bump]; omega⟩
      | exact ⟨k + 1, (.cons rfl <| .cons rfl <| .cons rfl <| .cons rfl <| .cons rfl <| .cons rfl <| .nil _), hgo rfl (by simp only [next_bump]; omega) (by
          rw [hiff, ← Bool.decide_and, decide_eq_false_iff_not]
          omega), by omega⟩
  · repeat' (first | refine WK.seq ?_ | refine WK.ret ?_ | refine WK.exit ?_ | (apply WK.reg; (· exact lnn)) | refine WKO.nil ?_ | ((first | apply WKO.op); (· first | exact k_mv rfl | exact k_lenE rfl (RdR.imm (H := H1) (encPairs_length l)) | exact opA); (· rfl)) | refine pN ?_ | refine pX ?_ | refine bX ?_ | (apply WK.condF; (· rfl); (· exact dcd)) | fail)
    have hkl : k = l.length := by omega
    rw [hkl, List.take_length] at h4
    exact ⟨fun id q => (by cases q), _, rfl, by rw [h4]; rfl, h1, by simp only [next_bump]; omega⟩
end Go.Proofs.YtfcgofffalmdfaaDoor.PA
namespace Go.Proofs.YtfcgofffalmdfaaDoor.PA
open Go Go.Eng Go.Proofs
section
variable {cf : CF} {n m : Nat} {H H' : AHeap} {l : KL0} {x y a : XO} {v w val : AV} {cs ds : List AV} {r : List XOper} {R : KL0 → AHeap → Prop}
theorem bump_get {H H' : AHeap} (hm : H'.m = H.m) (q : Nat) : H'.get q = H.get q := by unfold AHeap.get; rw [hm]
theorem WKO.ap1 {d1 d2 : Nat} {z0 : AV} (hR : RowE 1 H v m cs) (hm : H'.m = H.m) (hn : H.next ≤ n) (hlt : n < H'.next) (hl : m < 1000000) (hy : evK l y = some val) (hc : val.cells = [val]) (ho : val.oneCell = true) (hx : evK ((d1, .sl n 0 1 1) :: l) x = some v)
    (k : ∀ v' H1, RowE 1 H1 v' (m + 1) (cs ++ [val]) → H'.next ≤ H1.next → (∀ q, q < H.next → v.own ≠ some q → H1.get q = H.get q) → (∀ i, v'.own = some i → v.own = some i ∨ H.next ≤ i) → WKO cf r (n + 1 + 1) ((d2, v') :: (d1, .sl n 0 1 1) :: l) H1 R) :
    WKO cf (⟨some d1, .bslice [z0] [(0, 1, y)] 1, none⟩ :: ⟨some d2, .app 1 8 x (.t d1), none⟩ :: r) n l H' R := by
  have hR' : RowE 1 H' v m cs := hR.frame (by omega) (fun i _ => bump_get hm i)
  refine WKO.append1E (m := m) (v := v) (cs := cs) (new := [val]) hR' hx ?_ (by simp [allSm, XOp.opnds, hy]) (by omega) (by omega) (by decide) rfl (by simp [ho]) hlt (fun e => ?_) (fun v' H1 q1 q2 q3 q4 => k v' H1 (.inl q1) q2 (fun q h1 h2 => ?_) (fun i hi => ?_))
  · simp only [evParts, hy, bind, Option.bind_some, fillA, hc]
    simp
  · have := hR.own_lt e
    omega
  · rw [q3 q (by omega) (by omega) h2]
    exact bump_get hm q
  · rcases q4 i hi with q | q
    · exact .inl q
    · exact .inr (by omega)
theorem WKO.ap1n {d1 d2 : Nat} {z0 : AV} (hR : RowE 1 H v m cs) (hm : H'.m = H.m) (hn : H.next ≤ H'.next) (hlt : n < H'.next) (hf : v.own ≠ some n) (hl : m < 1000000) (hy : evK l y = some val) (hc : val.cells = [val]) (ho : val.oneCell = true) (hx : evK ((d1, .sl n 0 1 1) :: l) x = some v)
    (k : ∀ v' H1, RowE 1 H1 v' (m + 1) (cs ++ [val]) → H'.next ≤ H1.next → (∀ q, q < H'.next → q ≠ n → v.own ≠ some q → H1.get q = H'.get q) → (∀ i, v'.own = some i → v.own = some i ∨ H'.next ≤ i) → WKO cf r (n + 1 + 1) ((d2, v') :: (d1, .sl n 0 1 1) :: l) H1 R) :
    WKO cf (⟨some d1, .bslice [z0] [(0, 1, y)] 1, none⟩ :: ⟨some d2, .app 1 8 x (.t d1), none⟩ :: r) n l H' R := by
  have hR' : RowE 1 H' v m cs := hR.frame hn (fun i _ => bump_get hm i)
  refine WKO.append1E (m := m) (v := v) (cs := cs) (new := [val]) hR' hx ?_ (by simp [allSm, XOp.opnds, hy]) (by omega) (by omega) (by decide) rfl (by simp [ho]) hlt hf (fun v' H1 q1 q2 q3 q4 => k v' H1 (.inl q1) q2 (fun q h1 h2 h3 => q3 q h1 h2 h3) q4)
  simp only [evParts, hy, bind, Option.bind_some, fillA, hc]
  simp
theorem WKO.bs0 {d : Nat} {z : List AV} (hlt : n < H'.next) (k : ∀ H1, RowE 1 H1 (.sl n 0 0 0) 0 [] → H1.next = H'.next → (∀ q, q ≠ n → H1.get q = H'.get q) → WKO cf r (n + 1) ((d, .sl n 0 0 0) :: l) H1 R) : WKO cf (⟨some d, .bslice z [] 0, none⟩ :: r) n l H' R :=
  WKO.op (v := .sl n 0 0 0) (H1 := H'.set n (some (.cells [] none))) (k_any (by simp [xval, xop, evParts, fillA])) rfl (k _ (.inr ⟨rfl, rfl, n, rfl, by rw [next_set]; exact hlt, by rw [AHeap.get_set, if_pos rfl]⟩) rfl (fun q hq => by rw [AHeap.get_set, if_neg hq]))
theorem WKO.appE {d m2 : Nat} (hR : RowE 1 H v m cs) (hS : RowE 1 H w m2 ds) (hm : H'.m = H.m) (hn : H.next ≤ H'.next) (ho : ds.all AV.oneCell = true) (hl : m + m2 < 1000000) (hx : evK l x = some v) (hy : evK l y = some w)
    (k : ∀ v' H1, RowE 1 H1 v' (m + m2) (cs ++ ds) → H'.next ≤ H1.next → (∀ q, q < H.next → v.own ≠ some q → H1.get q = H.get q) → (∀ i, v'.own = some i → v.own = some i ∨ H.next ≤ i) → WKO cf r (n + 1) ((d, v') :: l) H1 R) : WKO cf (⟨some d, .app 1 8 x y, none⟩ :: r) n l H' R := by
  have hR' : RowE 1 H' v m cs := hR.frame (by omega) (fun i _ => bump_get hm i)
  have hS' : RowE 1 H' w m2 ds := hS.frame (by omega) (fun i _ => bump_get hm i)
  obtain ⟨v', H1, e1, e2, e3, e4, e5⟩ := hR'.app0 (bytes := 8) (by omega) (by omega) (by decide) hS'.len hS'.src hS'.csl ho
  refine WKO.op (v := v') (H1 := H1) (k_any (by simp only [xval, xop, hx, hy, e1])) (by simp [allSm, XOp.opnds, hx, hy]) (k v' H1 e2 e3 (fun q h1 h2 => ?_) (fun i hi => ?_))
  · rw [e4 q (by omega) h2]
    exact bump_get hm q
  · rcases e5 i hi with q | q
    · exact .inl q
    · exact .inr (by omega)
theorem WKO.cutE {d m2 : Nat} (hR : RowE 1 H v m cs) (hm : H'.m = H.m) (h : m2 ≤ m) (hx : evK l x = some v) (hy : evK l y = some (nA m2))
    (k : ∀ v', RowE 1 H v' m2 (cs.take m2) → v'.own = v.own → WKO cf r (n + 1) ((d, v') :: l) H' R) : WKO cf (⟨some d, .cut 1 x none (some y) none, none⟩ :: r) n l H' R := by
  obtain ⟨v', e1, e2, e3⟩ := frontE hR h (evK l) y .i64 hy
  rw [Nat.mul_one] at e2
  exact WKO.op (v := v') (H1 := H') (k_any (by simp only [xval, xop, hx, Option.bind_some, e1, AR.ofV])) (by simp [allSm, XOp.opnds, hx, hy]) (k v' e2 e3)
theorem WKO.st1 {j : Nat} (hR : RowE 1 H v m cs) (hm : H'.m = H.m) (hn : H.next ≤ H'.next) (hj : j < m) (ha : evK l a = some (adE v (j * 1))) (hx : evK l x = some val) (hc : val.cells = [val]) (ho : val.oneCell = true)
    (k : ∀ H1, RowE 1 H1 v m (cs.set j val) → H1.next = H'.next → (∀ q, v.own ≠ some q → H1.get q = H'.get q) → WKO cf r (n + 1) l H1 R) : WKO cf (⟨none, .store 1 a x, none⟩ :: r) n l H' R := by
  rcases hR with ⟨h0, ⟨rfl, h⟩ | ⟨i, full, rfl, hg, hf, hfl, hi⟩⟩ | ⟨h, _⟩
  · omega
  · have hg' : H'.get i = some (.cells full (some 1)) := (bump_get hm i).trans hg
    have ha' : evK l a = some (.ptr i j) := by
      rw [ha]
      show some (AV.ptr i (0 + j * 1)) = _
      rw [Nat.zero_add, Nat.mul_one]
    have hst := op_store (cf := cf) (m := n) (n := 1) (i := i) (o := j) (v := val) (H := H') (ev := evK l) ha' hx hg' (by rw [hc]; rfl) (by rw [hc]; simp [ho]) (by omega)
    have e : overA full j [val] = full.set j val := by
      rw [overA, List.set_eq_take_append_cons_drop, if_pos (by omega)]
      simp
    rw [hc, e] at hst
    refine WKO.opn (k_any hst) (by simp [allSm, XOp.opnds, ha, hx]) (k _ (.inl ⟨by rw [List.length_set]; exact h0, .inr ⟨i, _, rfl, by rw [AHeap.get_set, if_pos rfl], ?_, by rw [List.length_set]; exact hfl, by rw [next_set]; omega⟩⟩) rfl (fun q hq => by rw [AHeap.get_set, if_neg (fun e => hq (by rw [e]; rfl))]))
    rw [List.take_set, hf]
  · omega
theorem k_ld1 {j len : Nat} {X : AV} (hx : evK l x = some (adE X (j * 1))) (hE : RowE 1 H X len cs) (hm : H'.m = H.m) (h : cs[j]? = some val) : XV cf l H' n (.load none x) = some (val, H') := by
  have hE' := RdR.of hE
  have hj : j < len := by
    obtain ⟨q, _⟩ := List.getElem?_eq_some_iff.1 h
    have := hE.csl
    omega
  obtain ⟨c, h1, h2⟩ := hE'.at (H' := H') (p := j * 1) (fun i _ => bump_get hm i) (by omega)
  refine k_load hx ?_
  have h3 : c[0]? = some val := by
    have : (c.take (len * 1 - j * 1))[0]? = some val := by rw [h2, List.getElem?_drop, Nat.add_zero, Nat.mul_one, h]
    rw [List.getElem?_take] at this
    split at this
    · exact this
    · cases this
  simp only [loadA, h1, h3]
end
end Go.Proofs.YtfcgofffalmdfaaDoor.PA
namespace Go.Proofs.YtfcgofffalmdfaaDoor.PA
open Go Go.Eng Go.Proofs
def iA (z : Int) : AV := .int .i64 z
def MatesQ (f : List UInt8) (v : AV) (H' : AHeap) : Prop :=
  (scanL f 0 [] [] 0 = none ∧ v = .tup [.nils, .bool false]) ∨
  ∃ op out d m u, scanL f 0 [] [] 0 = some (op, out, d) ∧ v = .tup [u, .bool (decide (op.length = 0))] ∧ RowE 1 H' u m.length (m.map iA) ∧ SInv f.length op out ∧ MP out m ∧ m.length = f.length
structure MSt where
  i : Nat
  op : List Nat
  out : List (Nat × Nat)
  d : Nat
  m : List Int
  u : AV
  w : AV
structure MP0 (f : List UInt8) (t : MSt) (H : AHeap) : Prop where
  ru : RowE 1 H t.u t.m.length (t.m.map iA)
  rw' : RowE 1 H t.w t.op.length (t.op.map nA)
  ne : ∀ q, t.u.own = some q → t.w.own ≠ some q
  i : t.i ≤ f.length
  sc : scanL (f.drop t.i) t.i t.op t.out t.d = scanL f 0 [] [] 0
  si : SInv t.i t.op t.out
  mp : MP t.out t.m
  ml : t.m.length = t.i
  ol : t.op.length ≤ t.i
set_option maxHeartbeats 4000000 in
theorem Mates_ok {cf : CF} {fuel : Nat} {H : AHeap} (f : List UInt8) (hf : f.length < fuel) (hl : f.length ≤ 1000) : ∃ v H', xfunc cf fuel L8 [.str f] H = some (v, H') ∧ (MatesQ f v H' ∧ H.next ≤ H'.next) := by
  refine xfunc_ofK rfl (by show 1 ≤ 62; omega) ?_
  unfold L8
  dsimp only
  repeat' (first | refine WK.seq ?_ | (apply WK.reg; (· exact lnn)) | refine WKO.nil ?_ | ((first | apply WKO.op); (· first | exact k_mv rfl); (· rfl)) | refine pN ?_ | fail)
  refine WKO.bs0 (by simp only [next_bump]; omega) ?_
  intro H1 r1 n1 g1
  refine WKO.bs0 (by simp only [next_bump] at *; omega) ?_
  intro H2 r2 n2 g2
  have r1' : RowE 1 H2 (.sl (H.bump 2).next 0 0 0) 0 [] := r1.frame (by omega) (fun q hq => g2 q (by simp only [AV.own, Option.some.injEq] at hq; omega))
  repeat' (first | refine WK.seq ?_ | refine WK.block ?_ | (apply WK.reg; (· exact lnn)) | refine WKO.nil ?_ | ((first | apply WKO.op); (· first | exact k_mv rfl); (· rfl)) | refine pN ?_ | fail)
  refine WK.loop (α := MSt) (fun t => [(0, .str f), (4, t.u), (5, t.w), (6, nA t.i)]) (fun t H' => MP0 f t H' ∧ H.next ≤ H'.next) (fun t => f.length - t.i) ⟨0, [], [], 0, [], .sl (H.bump 2).next 0 0 0, .sl ((H.bump 2).next + 1) 0 0 0⟩ (.cons rfl <| .cons rfl <| .cons rfl <| .cons rfl <| .nil _) ⟨⟨r1'.frame (by simp only [next_bump]; omega) (fun _ _ => rfl), r2.frame (by simp only [next_bump]; omega) (fun _ _ => rfl), fun q h => by simp [AV.own] at h ⊢; omega, Nat.zero_le _, rfl, SInv.start, fun k hk => by simp at hk, rfl, Nat.zero_le _⟩, by simp only [next_bump] at *; omega⟩ (by show f.length - 0 < fuel; omega) ?_
  rintro ⟨i, op, out, d, m, u, w⟩ H3 ⟨⟨ru, rw', ne, hi, sc, si, mp, ml, ol⟩, hn3⟩
  simp only at ru rw' ne hi sc si mp ml ol ⊢
  repeat' (first | refine WK.seq ?_ | refine WK.skip ?_ | refine WK.exit ?_ | refine WK.block ?_ | (apply WK.reg; (· exact lnn)) | refine WKO.nil ?_ | ((first | apply WKO.op); (· first | exact k_mv rfl | exact k_slen rfl | exact opA); (· rfl)) | refine pN ?_ | refine pX ?_ | refine bX ?_ | (apply WK.condD; (· rfl); all_goals intro _) | fail)
  · refine WKO.ap1 (val := iA (-1)) ru rfl nxx nxx (by omega) rfl rfl rfl rfl ?_
    intro u2 H4 q1 q2 q3 q4
    simp only [next_bump] at q2
    have rw4 : RowE 1 H4 w op.length (op.map nA) := rw'.frame (by omega) (fun q hq => q3 q (rw'.own_lt hq) (fun e => ne q e hq))
    have ne4 : ∀ q, u2.own = some q → w.own ≠ some q := fun q hq e => by
      rcases q4 q hq with r | r
      · exact ne q r e
      · have := rw'.own_lt e; omega
    have hsf : ∃ b, f[i]? = some b := ⟨_, List.getElem?_eq_getElem (by omega)⟩
    obtain ⟨b, hb⟩ := hsf
    have hbD : f.getD i 97 = b := by rw [List.getD_eq_getElem?_getD, hb]; rfl
    have hdrop : f.drop i = b :: f.drop (i + 1) := by
      rw [List.drop_eq_getElem_cons (by omega)]
      congr 1
      rw [List.getElem?_eq_getElem (by omega)] at hb
      exact Option.some.inj hb
    rw [hdrop] at sc
    have hbb : ∀ c : UInt8, b.toNat = c.toNat ↔ b = c := fun c => UInt8.toNat_inj
    have mp4 := mp.grow si ml
    have q1' : RowE 1 H4 u2 (m ++ [-1]).length ((m ++ [-1]).map iA) := by
      rw [List.length_append, List.map_append]
      exact q1
    repeat' (first | refine WK.seq ?_ | refine WK.skip ?_ | refine WK.ret ?_ | refine WK.block ?_ | (apply WK.reg; (· exact lnn)) | refine WKO.nil ?_ | ((first | apply WKO.op); (· first | exact k_mv rfl | exact k_sidx rfl rfl (by omega) | exact k_eq8 rfl | exact opA); (· rfl)) | refine pN ?_ | refine pR ?_ | refine bN ?_ | refine bR ?_ | (apply WK.condD; (· rfl); all_goals intro _) | fail)
    · -- '('
      rename_i hlt h40
      have hb40 : b = 40 := (hbb 40).1 (by rw [← hbD]; exact h40)
      refine WKO.bs0 nxx ?_
      intro H5 r5 n5 g5
      have rw5 : RowE 1 H5 w op.length (op.map nA) := rw4.frame (by simp only [next_bump] at n5; omega) (fun q hq => g5 q (by have := rw4.own_lt hq; simp only [next_bump]; omega))
      have ru5 : RowE 1 H5 u2 (m ++ [-1]).length ((m ++ [-1]).map iA) := q1'.frame (by simp only [next_bump] at n5; omega) (fun q hq => g5 q (by have := q1'.own_lt hq; simp only [next_bump]; omega))
      repeat' (first | ((first | apply WKO.op); (· first | exact k_mv rfl); (· rfl)) | fail)
      refine WKO.appE (H := H5) r5 rw5 rfl (Nat.le_refl _) (by simp [nA, AV.oneCell]) (by omega) rfl rfl ?_
      intro w1 H6 a1 a2 a3 a4
      rw [Nat.zero_add, List.nil_append] at a1
      have hw1 : ∀ q, w1.own = some q → q = ((H4.bump 3).bump 2).next ∨ H5.next ≤ q := fun q hq => by
        rcases a4 q hq with r | r
        · simp only [AV.own, Option.some.injEq] at r
          exact .inl r.symm
        · exact .inr r
      have hu2 : ∀ q, u2.own = some q → q < H4.next := fun q hq => q1'.own_lt hq
      have ru6 : RowE 1 H6 u2 (m ++ [-1]).length ((m ++ [-1]).map iA) := ru5.frame a2 (fun q hq => a3 q (ru5.own_lt hq) (fun e => by
        simp only [AV.own, Option.some.injEq, next_bump] at e
        have := hu2 q hq
        omega))
      repeat' (first | ((first | apply WKO.op); (· first | exact k_mv rfl); (· rfl)) | fail)
      refine WKO.ap1n (H := H6) (val := nA i) a1 rfl (Nat.le_refl _) (by simp only [next_bump] at *; omega) (fun e => by
        rcases hw1 _ e with r | r
        · omega
        · simp only [next_bump] at *
          omega) (by omega) rfl rfl rfl rfl ?_
      intro w2 H7 b1 b2 b3 b4
      repeat' (first | (apply WK.reg; (· exact lnn)) | refine WKO.nil ?_ | ((first | apply WKO.op); (· first | exact k_mv rfl | exact opA); (· rfl)) | refine pN ?_ | refine bN ?_ | fail)
      have hnb : ∀ q, u2.own = some q → w2.own ≠ some q := fun q hq e => by
        have h1 := hu2 q hq
        rcases b4 q e with r | r
        · rcases hw1 q r with r2 | r2
          · simp only [next_bump] at r2; omega
          · simp only [next_bump] at n5; omega
        · simp only [next_bump] at n5; omega
      refine ⟨⟨i + 1, op ++ [i], out, max d (op.length + 1), m ++ [-1], u2, w2⟩, (.cons rfl <| .cons rfl <| .cons rfl <| .cons rfl <| .nil _), ⟨⟨?_, ?_, hnb, by show i + 1 ≤ f.length; omega, ?_, si.push, mp4, by simp [ml], by simp; omega⟩, ?_⟩, by show f.length - (i + 1) < f.length - i; omega⟩
      · exact (ru6.frame b2 (fun q hq => b3 q (ru6.own_lt hq) (by have := hu2 q hq; simp only [next_bump] at *; omega) (fun e => by
          have h1 := hu2 q hq
          rcases hw1 q e with r2 | r2
          · simp only [next_bump] at r2; omega
          · simp only [next_bump] at n5; omega))).frame (by simp only [next_bump]; omega) (fun _ _ => rfl)
      · simp only [List.length_append, List.map_append, List.length_singleton, List.map_cons, List.map_nil]
        exact b1.frame (by simp only [next_bump]; omega) (fun _ _ => rfl)
      · simp only
        rw [← sc, scanL, if_pos hb40]
      · simp only [next_bump] at *
        omega
    · -- ')'
      rename_i hlt h40 h41
      have hb40 : ¬ b = 40 := fun q => h40 (by rw [hbD]; exact (hbb 40).2 q)
      have hb41 : b = 41 := (hbb 41).1 (by rw [← hbD]; exact h41)
      rcases List.eq_nil_or_concat op with rfl | ⟨op', a, rfl⟩
      · repeat' (first | refine WK.seq ?_ | refine WK.ret ?_ | (apply WK.reg; (· exact lnn)) | refine WKO.nil ?_ | ((first | apply WKO.op); (· first | exact k_mv rfl | exact k_lenE rfl (RdR.of rw4) | exact opA); (· rfl)) | refine pN ?_ | refine pR ?_ | refine bR ?_ | (apply WK.condT; (· rfl); (· exact dcd)) | fail)
        refine ⟨fun id q => (by cases q), _, rfl, .inl ⟨?_, rfl⟩, by simp only [next_bump] at *; omega⟩
        rw [← sc, scanL, if_neg hb40, if_pos hb41]
        rfl
      · rw [List.concat_eq_append] at *
        have hol : (op' ++ [a]).length = op'.length + 1 := by simp
        have hget : ((op' ++ [a]).map nA)[(op' ++ [a]).length - 1]? = some (nA a) := by
          rw [hol, List.map_append, Nat.add_sub_cancel, List.getElem?_append_right (by simp)]
          simp
        have hai : a < i := si.opl a (by simp)
        repeat' (first | refine WK.seq ?_ | refine WK.skip ?_ | (apply WK.reg; (· exact lnn)) | refine WKO.nil ?_ | ((first | apply WKO.op); (· first | exact k_mv rfl | exact k_lenE rfl (RdR.of rw4) | exact k_iaE rfl rfl (RdR.of rw4) (by omega) | exact k_ld1 rfl rw4 rfl hget | exact opA); (· rfl)) | refine pN ?_ | (apply WK.condF; (· rfl); (· exact dcd)) | fail)
        refine WKO.bs0 nxx ?_
        intro H5 r5 n5 g5
        have rw5 : RowE 1 H5 w (op' ++ [a]).length ((op' ++ [a]).map nA) := rw4.frame (by simp only [next_bump] at n5; omega) (fun q hq => g5 q (by have := rw4.own_lt hq; simp only [next_bump]; omega))
        have ru5 : RowE 1 H5 u2 (m ++ [-1]).length ((m ++ [-1]).map iA) := q1'.frame (by simp only [next_bump] at n5; omega) (fun q hq => g5 q (by have := q1'.own_lt hq; simp only [next_bump]; omega))
        have hu2 : ∀ q, u2.own = some q → q < H4.next := fun q hq => q1'.own_lt hq
        repeat' (first | ((first | apply WKO.op); (· first | exact k_mv rfl | exact k_lenE rfl (RdR.of rw5) | exact opA); (· rfl)) | fail)
        refine WKO.cutE (m2 := (op' ++ [a]).length - 1) rw5 rfl (by omega) rfl rfl ?_
        intro w0 c1 c2
        have c1' : RowE 1 H5 w0 op'.length (op'.map nA) := by
          have e1 : ((op' ++ [a]).map nA).take ((op' ++ [a]).length - 1) = op'.map nA := by
            rw [hol, Nat.add_sub_cancel, List.map_append, List.take_append_of_le_length (by simp)]
            rw [List.take_of_length_le (by simp)]
          have e2 : (op' ++ [a]).length - 1 = op'.length := by omega
          rw [e1, e2] at c1
          exact c1
        refine WKO.appE (H := H5) r5 c1' rfl (Nat.le_refl _) (by simp [nA, AV.oneCell]) (by omega) rfl rfl ?_
        intro w1 H6 a1 a2 a3 a4
        rw [Nat.zero_add, List.nil_append] at a1
        have ru6 : RowE 1 H6 u2 (m ++ [-1]).length ((m ++ [-1]).map iA) := ru5.frame a2 (fun q hq => a3 q (ru5.own_lt hq) (fun e => by
          simp only [AV.own, Option.some.injEq, next_bump] at e
          have := hu2 q hq
          omega))
        have hw1 : ∀ q, w1.own = some q → H4.next ≤ q := fun q hq => by
          rcases a4 q hq with r | r
          · simp only [AV.own, Option.some.injEq, next_bump] at r; omega
          · simp only [next_bump] at n5; omega
        have hml : (m ++ [-1]).length = i + 1 := by simp [ml]
        repeat' (first | (apply WK.reg; (· exact lnn)) | refine WKO.nil ?_ | ((first | apply WKO.op); (· first | exact k_mv rfl | exact k_iaE rfl rfl (RdR.of ru6) (by omega)); (· rfl)) | refine pN ?_ | fail)
        refine WKO.st1 (H := H6) (val := nA i) ru6 rfl nxx (by omega) rfl rfl rfl rfl ?_
        intro H7 s1 t1 t2
        repeat' (first | ((first | apply WKO.op); (· first | exact k_iaE rfl rfl (RdR.of ru6) (by omega)); (· rfl)) | fail)
        refine WKO.st1 (H := H7) (val := nA a) s1 rfl nxx (by omega) rfl rfl rfl rfl ?_
        intro H8 s2 t3 t4
        repeat' (first | (apply WK.reg; (· exact lnn)) | refine WKO.nil ?_ | ((first | apply WKO.op); (· first | exact k_mv rfl | exact opA); (· rfl)) | refine pN ?_ | refine bN ?_ | fail)
        have hset : (((m ++ [-1]).map iA).set a (nA i)).set i (nA a) = (((m ++ [-1]).set a (i : Int)).set i (a : Int)).map iA := by
          rw [List.map_set, List.map_set]
          rfl
        have hw7 : ∀ q, w1.own = some q → u2.own ≠ some q := fun q h1 h2 => by
          have := hw1 q h1
          have := hu2 q h2
          omega
        refine ⟨⟨i + 1, op', out ++ [(a, i)], d, ((m ++ [-1]).set a (i : Int)).set i (a : Int), u2, w1⟩, (.cons rfl <| .cons rfl <| .cons rfl <| .cons rfl <| .nil _), ⟨⟨?_, ?_, fun q h1 h2 => hw7 q h2 h1, by show i + 1 ≤ f.length; omega, ?_, ?_, ?_, by simp [ml], by simp at ol ⊢; omega⟩, ?_⟩, by show f.length - (i + 1) < f.length - i; omega⟩
        · simp only
          rw [hset] at s2
          have : (((m ++ [-1]).set a (i : Int)).set i (a : Int)).length = (m ++ [-1]).length := by simp
          rw [this]
          exact s2.frame (by simp only [next_bump]; omega) (fun _ _ => rfl)
        · simp only
          refine a1.frame (by simp only [next_bump] at *; omega) (fun q hq => ?_)
          show H8.get q = H6.get q
          rw [t4 q (fun e => hw7 q hq e)]
          show H7.get q = H6.get q
          rw [t2 q (fun e => hw7 q hq e)]
          rfl
        · simp only
          rw [← sc, scanL, if_neg hb40, if_pos hb41]
          simp only [List.getLast?_concat, List.dropLast_concat]
        · have := si.pop (a := a) (by simp)
          simpa using this
        · exact MP.pair si hai ml mp
        · simp only [next_bump] at *
          omega
    · -- '.'
      rename_i hlt h40 h41 h46
      have hb40 : ¬ b = 40 := fun q => h40 (by rw [hbD]; exact (hbb 40).2 q)
      have hb41 : ¬ b = 41 := fun q => h41 (by rw [hbD]; exact (hbb 41).2 q)
      have hb46 : b = 46 := (hbb 46).1 (by rw [← hbD]; exact h46)
      refine ⟨⟨i + 1, op, out, d, m ++ [-1], u2, w⟩, (.cons rfl <| .cons rfl <| .cons rfl <| .cons rfl <| .nil _), ⟨⟨q1'.frame (by simp only [next_bump]; omega) (fun _ _ => rfl), rw4.frame (by simp only [next_bump]; omega) (fun _ _ => rfl), ne4, by show i + 1 ≤ f.length; omega, ?_, si.point, mp4, by simp [ml], by simp only; omega⟩, by simp only [next_bump] at *; omega⟩, by show f.length - (i + 1) < f.length - i; omega⟩
      simp only
      rw [← sc, scanL, if_neg hb40, if_neg hb41, if_pos hb46]
    · -- none of these
      rename_i hlt h40 h41 h46
      have hb40 : ¬ b = 40 := fun q => h40 (by rw [hbD]; exact (hbb 40).2 q)
      have hb41 : ¬ b = 41 := fun q => h41 (by rw [hbD]; exact (hbb 41).2 q)
      have hb46 : ¬ b = 46 := fun q => h46 (by rw [hbD]; exact (hbb 46).2 q)
      refine ⟨fun id q => (by cases q), _, rfl, .inl ⟨?_, rfl⟩, by simp only [next_bump] at *; omega⟩
      rw [← sc, scanL, if_neg hb40, if_neg hb41, if_neg hb46]
  · refine ⟨fun _ => ?_, fun q => absurd rfl q⟩
    have hif : i = f.length := by omega
    rw [hif, List.drop_length, scanL] at sc
    repeat' (first | refine WK.seq ?_ | refine WK.ret ?_ | (apply WK.reg; (· exact lnn)) | refine WKO.nil ?_ | ((first | apply WKO.op); (· first | exact k_mv rfl | exact k_lenE rfl (RdR.of rw') | exact opA); (· rfl)) | refine pN ?_ | fail)
    refine ⟨fun id q => (by cases q), _, rfl, .inr ⟨op, out, d, m, u, sc.symm, rfl, ru.frame (by simp only [next_bump]; omega) (fun _ _ => rfl), by rw [← hif]; exact si, mp, by omega⟩, by simp only [next_bump]; omega⟩
end Go.Proofs.YtfcgofffalmdfaaDoor.PA
namespace Go.Proofs.YtfcgofffalmdfaaDoor.PA
open Go Go.Eng Go.Proofs
theorem comps_one : ∀ (out : List (Nat × Nat)), (comps out).Nodup → ∀ p ∈ out, ∀ q ∈ out, ∀ x, (x = p.1 ∨ x = p.2) → (x = q.1 ∨ x = q.2) → p = q
  | [], _, p, hp, _, _, _, _, _ => by cases hp
  | r :: out, h, p, hp, q, hq, x, hx, hy => by
    have e : comps (r :: out) = r.1 :: r.2 :: comps out := by simp [comps]
    rw [e, List.nodup_cons, List.nodup_cons] at h
    obtain ⟨h1, h2, h3⟩ := h
    have hmem : ∀ s ∈ out, ∀ x, (x = s.1 ∨ x = s.2) → x ∈ comps out := fun s hs x hx => mem_comps.2 ⟨s, hs, hx⟩
    rcases List.mem_cons.1 hp with rfl | hp' <;> rcases List.mem_cons.1 hq with rfl | hq'
    · rfl
    · exfalso
      have := hmem q hq' x hy
      rcases hx with rfl | rfl
      · exact h1 (List.mem_cons_of_mem _ this)
      · exact h2 this
    · exfalso
      have := hmem p hp' x hx
      rcases hy with rfl | rfl
      · exact h1 (List.mem_cons_of_mem _ this)
      · exact h2 this
    · exact comps_one out h3 p hp' q hq' x hx hy
theorem mates_iff {out : List (Nat × Nat)} {m : List Int} {n : Nat} {may : Nat → Nat → Bool} (hS : SInv n [] out) (hM : MP out m) (hl : m.length = n) :
    (∀ k j : Nat, k < n → m[k]? = some (j : Int) → k < j → may k j = true) ↔ ∀ p ∈ out, may p.1 p.2 = true := by
  have hnd : (comps out).Nodup := by simpa using hS.nd
  constructor
  · intro h p hp
    have hlt := hS.lt p hp
    have h1 : p.1 < n := hS.outl p.1 (mem_comps.2 ⟨p, hp, .inl rfl⟩)
    refine h p.1 p.2 h1 ?_ hlt
    rcases hM p.1 (by omega) with ⟨j, q1, q2⟩ | ⟨a, q1, q2⟩ | ⟨q1, _⟩
    · have := comps_one out hnd p hp _ q1 p.1 (.inl rfl) (.inl rfl)
      rw [q2, show j = p.2 by rw [this]]
    · have := comps_one out hnd p hp _ q1 p.1 (.inl rfl) (.inr rfl)
      have h4 : p.2 = p.1 := congrArg Prod.snd this
      omega
    · exact absurd (mem_comps.2 ⟨p, hp, .inl rfl⟩) q1
  · intro h k j hk hm hkj
    rcases hM k (by omega) with ⟨j', q1, q2⟩ | ⟨a, q1, q2⟩ | ⟨_, q2⟩
    · rw [hm] at q2
      have : j = j' := by simp at q2; omega
      subst this
      exact h _ q1
    · rw [hm] at q2
      have := hS.lt _ q1
      simp at q2
      simp only at this
      omega
    · rw [hm] at q2
      simp at q2
theorem k_gtrI2 {cf : CF} {n a : Nat} {z : Int} {H : AHeap} {l : KL0} {x y : XO} (hx : evK l x = some (iA z)) (hy : evK l y = some (nA a)) : XV cf l H n (.bin .gtr x y) = some (.bool (decide (z > (a : Int))), H) := k_bin hx hy rfl
set_option maxHeartbeats 2000000 in
theorem RIs_ok {cf : CF} {fuel : Nat} {H : AHeap} {s f : List UInt8} {l : List (Int × Int)} {gap : Int} (hE : readE s l gap = 0) (hf : f.length ≤ 1000) (hfu : 1001 < fuel)
    (h8 : ∀ H, ∃ v H', cf 8 [.str f] H = some (v, H') ∧ (MatesQ f v H' ∧ H.next ≤ H'.next))
    (h27 : ∀ H i j, i < j → j < s.length → ∃ v H', cf 27 [.str s, pairsI l, .int .i64 gap, nA i, nA j] H = some (v, H') ∧ (v = .bool (mayF s (rulesOf l) gap i j) ∧ H'.m = H.m ∧ H.next ≤ H'.next)) :
    ∃ v H', xfunc cf fuel L14 [.str s, pairsI l, .int .i64 gap, .str f] H = some (v, H') ∧ (v = .bool (isF s (rulesOf l) gap f) ∧ H.next ≤ H'.next) := by
  refine xfunc_ofK rfl (by show 4 ≤ 50; omega) ?_
  have hsl := (readE_zero hE).1
  unfold L14
  dsimp only
  repeat' (first | refine WK.seq ?_ | (apply WK.reg; (· exact lnn)) | refine WKO.nil ?_ | ((first | apply WKO.op); (· first | exact k_mv rfl); (· rfl)) | refine pN ?_ | fail)
  refine WKO.callV rfl rfl rfl (h8 _) ?_
  rintro v H1 ⟨⟨hn, rfl⟩ | ⟨op, out, d, m, u, hs, rfl, hR, hS, hM, hml⟩, hn1⟩
  · simp only [next_bump] at hn1
    repeat' (first | refine WK.seq ?_ | refine WK.ret ?_ | (apply WK.reg; (· exact lnn)) | refine WKO.nil ?_ | ((first | apply WKO.op); (· first | exact k_mv rfl | exact opA); (· rfl)) | ((first | apply WKO.gnoF); (· rfl); (· exact dcd)) | refine pN ?_ | refine pR ?_ | (apply WK.condT; (· rfl); (· exact dcd)) | fail)
    refine ⟨fun id q => (by cases q), _, rfl, ?_, by simp only [next_bump]; omega⟩
    unfold isF
    rw [hn]
    rfl
  · simp only [next_bump] at hn1
    have hnot : ∀ {p : Prop} [Decidable p], ∀ {cf : CF} {n : Nat} {H : AHeap} {K : KL0} {x : XO}, evK K x = some (.bool (decide p)) → XV cf K H n (.un .not x) = some (.bool (decide (¬ p)), H) := fun hx => k_notD hx
    repeat' (first | refine WK.seq ?_ | refine WK.skip ?_ | refine WK.ret ?_ | refine WK.block ?_ | (apply WK.reg; (· exact lnn)) | refine WKO.nil ?_ | ((first | apply WKO.op | ((first | apply WKO.gop); (· rfl); (· exact dcd))); (· first | exact k_mv rfl | exact k_slen rfl | exact opA); (· rfl)) | ((first | apply WKO.gnoF); (· rfl); (· exact dcd)) | ((first | apply WKO.gsp); (· rfl); all_goals ((fail_if_success (refine known ?_ ?_; (· assumption))); intro _)) | refine pN ?_ | refine pR ?_ | (apply WK.condT; (· rfl); (· exact dcd)) | (apply WK.condD; (· rfl); all_goals intro _) | fail)
    · rename_i h1
      refine ⟨fun id q => (by cases q), _, rfl, ?_, by simp only [next_bump]; omega⟩
      unfold isF
      rw [hs]
      cases op with
      | nil => exact absurd rfl h1
      | cons x op => rfl
    · rename_i h1 h2
      refine ⟨fun id q => (by cases q), _, rfl, ?_, by simp only [next_bump]; omega⟩
      unfold isF
      rw [hs]
      cases op with
      | nil =>
        simp only
        rw [decide_eq_false h2]
        rfl
      | cons x op => rfl
    · rename_i h1 h2
      have hop : op = [] := List.eq_nil_of_length_eq_zero (by omega)
      subst hop
      have hfs : f.length = s.length := by omega
      have hisF : isF s (rulesOf l) gap f = decide (∀ p ∈ out, mayF s (rulesOf l) gap p.1 p.2 = true) := by
        unfold isF
        rw [hs]
        simp only [hfs, decide_true, Bool.true_and]
        rw [Bool.eq_iff_iff, Bool.not_eq_true', any_sort, decide_eq_true_eq]
      have hiff := mates_iff (may := mayF s (rulesOf l) gap) hS hM hml
      rw [hisF]
      refine WK.loop (α := Nat) (fun k => [(0, .str s), (1, pairsI l), (2, .int .i64 gap), (9, u), (11, nA k)]) (fun k H' => RowE 1 H' u m.length (m.map iA) ∧ H.next ≤ H'.next ∧ k ≤ m.length ∧ ∀ i j : Nat, i < k → m[i]? = some (j : Int) → i < j → mayF s (rulesOf l) gap i j = true) (fun k => m.length - k) 0 (.cons rfl <| .cons rfl <| .cons rfl <| .cons rfl <| .cons rfl <| .nil _) ⟨hR.frame (by simp only [next_bump]; omega) (fun _ _ => rfl), by simp only [next_bump]; omega, Nat.zero_le _, fun i j hi => by omega⟩ (by show m.length - 0 < fuel; omega) ?_
      rintro k H2 ⟨r2, n2, k2, a2⟩
      by_cases hk : k < m.length
      · obtain ⟨z, hz⟩ : ∃ z, m[k]? = some z := ⟨_, List.getElem?_eq_getElem hk⟩
        have hz' : (m.map iA)[k]? = some (iA z) := by rw [List.getElem?_map, hz]; rfl
        by_cases hzk : z > (k : Int)
        · obtain ⟨j, rfl⟩ : ∃ j : Nat, z = j := ⟨z.toNat, by omega⟩
          have hkj : k < j := by omega
          have hjs : j < s.length := by
            rcases hM k hk with ⟨j', q1, q2⟩ | ⟨a, q1, q2⟩ | ⟨_, q2⟩
            · rw [hz] at q2
              have := hS.outl j' (mem_comps.2 ⟨_, q1, .inr rfl⟩)
              simp at q2
              omega
            · rw [hz] at q2
              have := hS.lt _ q1
              simp at q2
              simp only at this
              omega
            · rw [hz] at q2
              simp at q2
          repeat' (first | refine WK.seq ?_ | refine WK.skip ?_ | refine WK.ret ?_ | refine WK.block ?_ | (apply WK.reg; (· exact lnn)) | (refine WKO.gcallV rfl dcd rfl rfl rfl (h27 _ k j hkj hjs) ?_; rintro v H3 ⟨rfl, m3, n3⟩) | refine WKO.nil ?_ | ((first | apply WKO.op | ((first | apply WKO.gop); (· rfl); (· exact dcd))); (· first | exact k_mv rfl | exact k_lenE rfl (RdR.of r2) | exact k_iaE rfl rfl (RdR.of r2) (by omega) | exact k_ld1 rfl r2 rfl hz' | exact k_gtrI2 rfl rfl | exact opA); (· rfl)) | refine pN ?_ | refine pR ?_ | refine bN ?_ | refine bR ?_ | (apply WK.condT; (· rfl); (· exact dcd)) | (apply WK.condN; (· rfl); all_goals intro _) | fail)
          · rename_i hmf
            refine ⟨fun id q => (by cases q), _, rfl, ?_, by simp only [next_bump] at *; omega⟩
            rw [decide_eq_false (fun q => by
              have := hiff.2 q k j (by omega) hz hkj
              rw [hmf] at this
              cases this)]
            rfl
          · rename_i hmt
            refine ⟨k + 1, (.cons rfl <| .cons rfl <| .cons rfl <| .cons rfl <| .cons rfl <| .nil _), ⟨r2.frame (by simp only [next_bump] at *; omega) (fun q _ => bump_get m3 q), by simp only [next_bump] at *; omega, by omega, fun i j' hi hm hij => ?_⟩, by omega⟩
            by_cases e : i = k
            · subst e
              rw [hz] at hm
              have : j = j' := by simp at hm; omega
              subst this
              exact hmt
            · exact a2 i j' (by omega) hm hij
        · repeat' (first | refine WK.seq ?_ | refine WK.skip ?_ | refine WK.block ?_ | (apply WK.reg; (· exact lnn)) | refine WKO.nil ?_ | ((first | apply WKO.op); (· first | exact k_mv rfl | exact k_lenE rfl (RdR.of r2) | exact k_iaE rfl rfl (RdR.of r2) (by omega) | exact k_ld1 rfl r2 rfl hz' | exact k_gtrI2 rfl rfl | exact opA); (· rfl)) | ((first | apply WKO.gnoT); (· rfl); (· exact dcd)) | refine pN ?_ | refine bN ?_ | (apply WK.condT; (· rfl); (· exact dcd)) | (apply WK.condF; (· rfl); (· exact dcd)) | fail)
          refine ⟨k + 1, (.cons rfl <| .cons rfl <| .cons rfl <| .cons rfl <| .cons rfl <| .nil _), ⟨r2.frame (by simp only [next_bump]; omega) (fun _ _ => rfl), by simp only [next_bump]; omega, by omega, fun i j' hi hm hij => ?_⟩, by omega⟩
          by_cases e : i = k
          · subst e
            rw [hz] at hm
            simp at hm
            omega
          · exact a2 i j' (by omega) hm hij
      · repeat' (first | refine WK.seq ?_ | refine WK.ret ?_ | refine WK.exit ?_ | (apply WK.reg; (· exact lnn)) | refine WKO.nil ?_ | ((first | apply WKO.op); (· first | exact k_mv rfl | exact k_lenE rfl (RdR.of r2) | exact opA); (· rfl)) | refine pN ?_ | refine pX ?_ | refine bX ?_ | (apply WK.condF; (· rfl); (· exact dcd)) | fail)
        have hkm : k = m.length := by omega
        refine ⟨fun id q => (by cases q), _, rfl, ?_, by simp only [next_bump]; omega⟩
        rw [decide_eq_true (hiff.1 (fun i j hi => a2 i j (by omega)))]
        rfl
theorem RIs_call {s f : List UInt8} {l : List (Int × Int)} {gap : Int} (hE : readE s l gap = 0) (hf : f.length ≤ 1000) : ∃ H', CallOK Tryd.prog 14 [.str s, pairsI l, .int .i64 gap, .str f] ⟨.e, 0⟩ (.bool (isF s (rulesOf l) gap f)) H' := by
  obtain ⟨hs1, hs2, hb, _⟩ := readE_zero hE
  have hl : l.length ≤ 16 := by
    unfold readE at hE
    split at hE
    · omega
    · omega
  obtain ⟨v, H', h, rfl, _⟩ := RIs_ok (cf := xcallK Kno F 2000 1) (fuel := 2000) (H := ⟨.e, 0⟩) hE hf (by omega)
    (fun H => by
      obtain ⟨v, H', q1, q2⟩ := Mates_ok (cf := xcallK Kno F 2000 0) (fuel := 2000) (H := H) f (by omega) hf
      exact ⟨v, H', (cfstep rfl rfl).trans q1, q2⟩)
    (fun H i j hij hj => by
      obtain ⟨v, H', q1, q2⟩ := RMay_ok (cf := xcallK Kno F 2000 0) (fuel := 2000) (H := H) (gap := gap) hb hs2 (show i < s.length by omega) hj hij (by omega) (by omega) (by omega)
      exact ⟨v, H', (cfstep rfl rfl).trans q1, q2⟩)
  exact ⟨H', xfunc_sound mixed (xcallK_sound mixed Kno_ok F_ok 2000 1) 2000 (F_ok 14 L14 rfl) h⟩
end Go.Proofs.YtfcgofffalmdfaaDoor.PA
namespace Go.Proofs.YtfcgofffalmdfaaDoor.PA
open Go Go.Eng Go.Proofs
section
variable {cf : CF} {n : Nat} {H H' : AHeap} {l : KL0} {x y : XO} {a b : Nat} {v : AV} {r : List XOper} {R : KL0 → AHeap → Prop}
theorem k_shrU {z : Int} {k : IntKind} (hx : evK l x = some (.int k z)) (hy : evK l y = some (nA a)) : XV cf l H n (.bin .shr x y) = some (.int k (z.fdiv (2 ^ (min a k.bits))), H) :=
  k_bin hx hy (by
    show (if (a : Int) < 0 then none else some (AV.int k (z.fdiv (2 ^ (min (a : Int).toNat k.bits))))) = _
    rw [if_neg (by omega), Int.toNat_natCast])
theorem k_rem4 (hx : evK l x = some (bA a)) : XV cf l H n (.bin .rem x (.k (.int .u8 (.ofNat 4)))) = some (bA (a % 4), H) :=
  k_bin hx rfl (by
    show (if (Int.ofNat 4 : Int) = 0 then none else some (AV.int .u8 ((a : Int).tmod (Int.ofNat 4)))) = _
    rw [if_neg (by decide)]
    show some (AV.int .u8 ((a : Int).tmod ((4 : Nat) : Int))) = _
    rw [← Int.ofNat_tmod]
    rfl)
theorem k_add8 (hx : evK l x = some (bA a)) (h : a + 1 < 256) : XV cf l H n (.bin .add x (.k (.int .u8 (.ofNat 1)))) = some (bA (a + 1), H) :=
  k_bin hx rfl (by
    show some (AV.int .u8 (wrapA .u8 ((a : Int) + Int.ofNat 1))) = _
    have : wrapA .u8 ((a : Int) + Int.ofNat 1) = ((a + 1 : Nat) : Int) := by
      simp only [wrapA, IntKind.wrap, IntKind.bits, IntKind.signed]
      simp
      omega
    rw [this]
    rfl)
theorem k_of8 (hx : evK l x = some (bA a)) (h : a < 256) : XV cf l H n (.conv .i64 x) = some (nA a, H) := by
  refine k_any ?_
  simp only [xval, xop, hx, bA, AR.ofV]
  rw [wrapI _ (by omega) (by omega)]
  rfl
theorem k_scut4 (hx : evK l x = some (bA a)) (hy : evK l y = some (bA (a + 1))) (h : a < 4) : XV cf l H n (.scut (.k (.str [UInt8.ofNat 97, UInt8.ofNat 98, UInt8.ofNat 99, UInt8.ofNat 100])) (some x) (some y)) = some (.str [UInt8.ofNat (97 + a)], H) := by
  have e0 : evK l (.k (.str [UInt8.ofNat 97, UInt8.ofNat 98, UInt8.ofNat 99, UInt8.ofNat 100])) = some (.str [UInt8.ofNat 97, UInt8.ofNat 98, UInt8.ofNat 99, UInt8.ofNat 100]) := rfl
  have : a = 0 ∨ a = 1 ∨ a = 2 ∨ a = 3 := by omega
  rcases this with rfl | rfl | rfl | rfl <;> exact k_any (by simp only [xval, xop, scutA, bounds, obnd, hiBnd, hx, hy, e0, Option.bind_some]; rfl)
theorem WKO.ap2n {d1 d2 m bytes : Nat} {zs : List AV} {cs : List AV} {p q : AV} (hb : bytes ≤ 2 ^ 16) (hR : RowE 2 H v m cs) (hm : H'.m = H.m) (hn : H.next ≤ H'.next) (hlt : n < H'.next) (hf : v.own ≠ some n) (hl : m < 1000000) (hz : zs.length = 2) (hy : evK l y = some (.agg [p, q])) (ho : p.oneCell = true) (ho2 : q.oneCell = true) (hx : evK ((d1, .sl n 0 1 1) :: l) x = some v)
    (k : ∀ v' H1, RowE 2 H1 v' (m + 1) (cs ++ [p, q]) → H'.next ≤ H1.next → (∀ q, q < H'.next → q ≠ n → v.own ≠ some q → H1.get q = H'.get q) → (∀ i, v'.own = some i → v.own = some i ∨ H'.next ≤ i) → WKO cf r (n + 1 + 1) ((d2, v') :: (d1, .sl n 0 1 1) :: l) H1 R) :
    WKO cf (⟨some d1, .bslice zs [(0, 2, y)] 1, none⟩ :: ⟨some d2, .app 2 bytes x (.t d1), none⟩ :: r) n l H' R := by
  have hR' : RowE 2 H' v m cs := hR.frame hn (fun i _ => bump_get hm i)
  refine WKO.append1E (m := m) (v := v) (cs := cs) (new := [p, q]) hR' hx ?_ (by simp [allSm, XOp.opnds, hy]) (by omega) (by omega) hb rfl (by simp [ho, ho2]) hlt hf (fun v' H1 q1 q2 q3 q4 => k v' H1 (.inl q1) q2 (fun q h1 h2 h3 => q3 q h1 h2 h3) q4)
  simp only [evParts, hy, bind, Option.bind_some, fillA, AV.cells]
  simp [hz]
end
def cordA (P : Int) (g : Nat) (bs : List Nat) : List AV := [.int .u16 P, bA g, .imm (bs.map bA) bs.length false]
structure MdSt where
  i : Nat
  at_ : Nat
  l : List (Int × Int)
  u : AV
structure Md0 (H : AHeap) (B : Nat) (c : List AV) (t : MdSt) (H' : AHeap) : Prop where
  h : ∃ T, HF H [] T [(B, .cells c none)] H'
  r : RowE 2 H' t.u t.l.length (encPairs t.l)
  o : ∀ q, t.u.own = some q → B < q
  b : t.l.any badP = false
  n : t.l.length ≤ t.at_
theorem encPairs_snoc (l : List (Int × Int)) (p : Int × Int) : encPairs (l ++ [p]) = encPairs l ++ [.int .i64 p.1, .int .i64 p.2] := by simp [encPairs]
set_option maxHeartbeats 4000000 in
theorem RMade_ok {cf : CF} {fuel : Nat} {H : AHeap} {P : Int} {g : Nat} {bs : List Nat} (hg : g < 256) (hbs : ∀ b ∈ bs, b < 256) (hfu : 100 < fuel) :
    ∃ v H', xfunc cf fuel L15 [.agg (cordA P g bs), nA 40] H = some (v, H') ∧ ∃ s l gap u, v = .tup [.str s, u, .int .i64 gap] ∧ RowE 2 H' u l.length (encPairs l) ∧ readE s l gap = 0 ∧ H.next ≤ H'.next ∧ ∀ q, q < H.next → H'.get q = H.get q := by
  refine xfunc_ofK rfl (by show 2 ≤ 71; omega) ?_
  have hF := HF.start H
  unfold L15
  dsimp only
  repeat' (first | refine WK.seq ?_ | refine WK.block ?_ | (apply WK.reg; (· exact lnn)) | (apply WKO.boxO; (· rfl); (· assumption); (· rfl); (· exact nxx); (· exact nxx); (· exact nxx); intro _ _ _) | (apply WKO.bsO; (· rfl); (· rfl); (· assumption); (· rfl); (· exact nxx); (· exact nxx); (· exact nxx); intro _ _ _) | refine WKO.nil ?_ | ((first | apply WKO.op); (· first | exact k_mv rfl); (· rfl)) | refine pN ?_ | fail)
  rename_i H0 hF0 hn0 H1 hF1 hn1
  have hB : H.next < H0.next := by have := hF0.lt _ (.head _); have := hF0.le; simp only at *; omega
  have hshr : ∀ {cf : CF} {n : Nat} {Hq : AHeap} {K : KL0} {x : XO} {z : Int}, evK K x = some (.int .u16 z) → ∃ w : Int, XV cf K Hq n (.bin .and x (.k (.int .u16 (.ofNat 1)))) = some (.int .u16 w, Hq) := fun hx => ⟨_, k_bin hx rfl rfl⟩
  refine WK.loop (α := MdSt) (fun t => [(1, nA 40), (2, .ptr H.next 0), (7, .str []), (8, t.u), (9, nA t.at_), (10, nA t.i)]) (fun t H' => Md0 H H.next (cordA P g bs) t H' ∧ t.i ≤ 4 ∧ t.at_ ≤ 4 * t.i) (fun t => 4 - t.i) ⟨0, 0, [], .sl H0.next 0 0 0⟩ (.cons rfl <| .cons rfl <| .cons rfl <| .cons rfl <| .cons rfl <| .cons rfl <| .nil _)
    ⟨⟨⟨_, (hF1.sub (gs := [(H.next, .cells (cordA P g bs) none)]) (.cons _ (.refl _)) (Nat.le_refl _) hF1.le).up rfl (by simp only [next_bump]; omega)⟩, .inr ⟨rfl, rfl, H0.next, rfl, by simp only [next_bump] at *; omega, hF1.obj _ (.head _)⟩, fun q h => by simp [AV.own] at h; omega, rfl, Nat.le_refl _⟩, by show 0 ≤ 4; omega, by show 0 ≤ 4 * 0; omega⟩ (by show 4 - 0 < fuel; omega) ?_
  rintro ⟨i, at_, l, u⟩ H2 ⟨⟨⟨T, hF2⟩, ru, ro, rb, rn⟩, hi, hat⟩
  simp only at hF2 ru ro rb rn hi hat ⊢
  clear hF hF0 hF1
  repeat' (first | refine WK.seq ?_ | refine WK.skip ?_ | refine WK.exit ?_ | refine WK.block ?_ | (apply WK.reg; (· exact lnn)) | refine WKO.nil ?_ | ((first | apply WKO.op); (· first | exact k_mv rfl | exact opA); (· rfl)) | refine pN ?_ | refine pX ?_ | refine bX ?_ | (apply WK.condD; (· rfl); all_goals intro _) | fail)
  · refine WK.loop (α := MdSt) (fun t => [(1, nA 40), (2, .ptr H.next 0), (7, .str []), (8, t.u), (9, nA t.at_), (10, nA i), (11, nA t.i)]) (fun t H' => Md0 H H.next (cordA P g bs) t H' ∧ t.i ≤ i + 1 ∧ t.at_ ≤ 4 * i + t.i) (fun t => i + 1 - t.i) ⟨0, at_, l, u⟩ (.cons rfl <| .cons rfl <| .cons rfl <| .cons rfl <| .cons rfl <| .cons rfl <| .cons rfl <| .nil _) ⟨⟨⟨_, hF2.up rfl (by simp only [next_bump]; omega)⟩, ru.frame (by simp only [next_bump]; omega) (fun _ _ => rfl), ro, rb, rn⟩, Nat.zero_le _, by show at_ ≤ 4 * i + 0; omega⟩ (by show i + 1 - 0 < fuel; omega) ?_
    rintro ⟨j, at2, l2, u2⟩ H3 ⟨⟨⟨T3, hF3⟩, ru3, ro3, rb3, rn3⟩, hj, hat3⟩
    simp only at hF3 ru3 ro3 rb3 rn3 hj hat3 ⊢
    clear hF2
    repeat' (first | refine WK.seq ?_ | refine WK.skip ?_ | refine WK.exit ?_ | refine WK.block ?_ | (apply WK.reg; (· exact lnn)) | refine WKO.nil ?_ | ((first | apply WKO.op); (· first | exact k_mv rfl | exact k_shrU rfl rfl | (apply k_ldO; (· rfl); (· assumption); (· rfl); (· exact mmb); (· rfl)) | exact k_faddr rfl | exact opA); (· rfl)) | refine pN ?_ | refine pX ?_ | refine bN ?_ | refine bX ?_ | (apply WK.condD; (· rfl); all_goals intro _) | fail)
    · refine WKO.ap2n (p := nA i) (q := nA j) (by decide) ru3 rfl nxx nxx (fun e => by have := ru3.own_lt e; simp only [next_bump] at this; omega) (by omega) rfl rfl rfl rfl rfl ?_
      intro u4 H4 q1 q2 q3 q4
      simp only [next_bump] at q2 q3 q4
      have hF4 := (hF3.up (H' := ((H3.bump 3).bump 6).bump 7) rfl (by simp only [next_bump]; omega)).call (H' := H4) (mod' := (H3.next + 3 + 6 + 1 + 1 + 1 + 1) :: ownL u2) (fun q h1 h2 => by
        simp only [List.mem_cons, not_or] at h2
        exact q3 q (by simp only [next_bump] at h1; omega) h2.1 (fun e => h2.2 (mem_ownL.2 e))) (by simp only [next_bump]; omega) (fun q hq => .inr (by
        have hb := hF3.base
        have hl := hF3.le
        rcases List.mem_cons.1 hq with r | r
        · omega
        · have := ro3 q (mem_ownL.1 r); omega)) (fun p hp => by
        simp only [List.mem_singleton] at hp
        subst hp
        have hb := hF3.base
        have hl := hF3.le
        intro hq
        rcases List.mem_cons.1 hq with r | r
        · simp only at r; omega
        · have := ro3 _ (mem_ownL.1 r); simp only at this; omega)
      repeat' (first | (apply WK.reg; (· exact lnn)) | refine WKO.nil ?_ | ((first | apply WKO.op); (· first | exact k_mv rfl | exact opA); (· rfl)) | refine pN ?_ | refine bN ?_ | fail)
      refine ⟨⟨j + 1, at2 + 1, l2 ++ [((i : Int), (j : Int))], u4⟩, (.cons rfl <| .cons rfl <| .cons rfl <| .cons rfl <| .cons rfl <| .cons rfl <| .cons rfl <| .nil _), ⟨⟨⟨_, hF4.up rfl (by simp only [next_bump]; omega)⟩, ?_, fun q hq => ?_, ?_, by simp; omega⟩, by show j + 1 ≤ i + 1; omega, by show at2 + 1 ≤ 4 * i + (j + 1); omega⟩, by show i + 1 - (j + 1) < i + 1 - j; omega⟩
      · simp only [List.length_append, List.length_singleton]
        rw [encPairs_snoc]
        exact q1.frame (by simp only [next_bump]; omega) (fun _ _ => rfl)
      · have hb := hF3.base
        have hl := hF3.le
        rcases q4 q hq with r | r
        · exact ro3 q r
        · omega
      · rw [List.any_append, rb3]
        simp [badP]
        omega
    · refine ⟨⟨j + 1, at2 + 1, l2, u2⟩, (.cons rfl <| .cons rfl <| .cons rfl <| .cons rfl <| .cons rfl <| .cons rfl <| .cons rfl <| .nil _), ⟨⟨⟨_, hF3.up rfl (by simp only [next_bump]; omega)⟩, ru3.frame (by simp only [next_bump]; omega) (fun _ _ => rfl), ro3, rb3, by show l2.length ≤ at2 + 1; omega⟩, by show j + 1 ≤ i + 1; omega, by show at2 + 1 ≤ 4 * i + (j + 1); omega⟩, by show i + 1 - (j + 1) < i + 1 - j; omega⟩
    · refine ⟨fun _ => ?_, fun q => absurd rfl q⟩
      repeat' (first | (apply WK.reg; (· exact lnn)) | refine WKO.nil ?_ | ((first | apply WKO.op); (· first | exact k_mv rfl | exact opA); (· rfl)) | refine pN ?_ | fail)
      refine ⟨⟨i + 1, at2, l2, u2⟩, (.cons rfl <| .cons rfl <| .cons rfl <| .cons rfl <| .cons rfl <| .cons rfl <| .nil _), ⟨⟨⟨_, hF3.up rfl (by simp only [next_bump]; omega)⟩, ru3.frame (by simp only [next_bump]; omega) (fun _ _ => rfl), ro3, rb3, rn3⟩, by show i + 1 ≤ 4; omega, by show at2 ≤ 4 * (i + 1); omega⟩, by show 4 - (i + 1) < 4 - i; omega⟩
  · refine ⟨fun _ => ?_, fun q => absurd rfl q⟩
    repeat' (first | refine WK.seq ?_ | refine WK.block ?_ | (apply WK.reg; (· exact lnn)) | refine WKO.nil ?_ | ((first | apply WKO.op); (· first | exact k_mv rfl); (· rfl)) | refine pN ?_ | fail)
    have hget : ∀ k, k < bs.length → (bs.map bA)[k * 1]? = some (bA (bs.getD k 0)) := fun k hk => by
      rw [Nat.mul_one, List.getElem?_map, List.getElem?_eq_getElem hk, List.getD_eq_getElem?_getD, List.getElem?_eq_getElem hk]
      rfl
    have hk256 : ∀ k, bs.getD k 0 < 256 := fun k => by
      rw [List.getD_eq_getElem?_getD]
      cases h : bs[k]? with
      | none => exact (by decide : 0 < 256)
      | some v => exact hbs v (List.mem_of_getElem? h)
    refine WK.loop (α := Nat × List UInt8) (fun t => [(1, nA 40), (2, .ptr H.next 0), (7, .str t.2), (8, u), (12, nA t.1)]) (fun t H' => (∃ T, HF H [] T [(H.next, .cells (cordA P g bs) none)] H') ∧ RowE 2 H' u l.length (encPairs l) ∧ t.2.length = t.1 ∧ t.2.all inS = true ∧ t.1 ≤ 40) (fun t => 40 - t.1) (0, []) (.cons rfl <| .cons rfl <| .cons rfl <| .cons rfl <| .cons rfl <| .nil _) ⟨⟨_, hF2.up rfl (by simp only [next_bump]; omega)⟩, ru.frame (by simp only [next_bump]; omega) (fun _ _ => rfl), rfl, rfl, by show 0 ≤ 40; omega⟩ (by show 40 - 0 < fuel; omega) ?_
    rintro ⟨k, st⟩ H3 ⟨⟨T3, hF3⟩, ru3, hst, hin, hk40⟩
    simp only at hF3 ru3 hst hin hk40 ⊢
    clear hF2
    have hb0 := hF3.base
    have hl0 := hF3.le
    have hlast : readE st l ((g % 6 : Nat) : Int) = 0 := by
      have h6 : g % 6 < 6 := Nat.mod_lt _ (by omega)
      unfold readE
      rw [if_neg (by omega), if_neg (by rw [rb]; simp), if_neg (by omega), if_pos hin]
    repeat' (first | refine WK.seq ?_ | refine WK.skip ?_ | refine WK.exit ?_ | refine WK.block ?_ | (apply WK.reg; (· exact lnn)) | (apply WK.regC; (· rfl); (· exact lnn); (· decide)) | refine WKC.nil ?_ | refine WKO.nil ?_ | ((first | apply WKC.op | apply WKO.op | ((first | apply WKO.gop); (· rfl); (· exact dcd))); (· first | exact k_mv rfl | exact k_iaM rfl rfl (by omega) | exact k_ldP rfl (hget k (by omega)) | exact k_rem4 rfl | exact k_add8 rfl (by omega) | exact k_scut4 rfl rfl (by omega) | exact k_catS rfl rfl (by simp only [List.length_cons, List.length_nil]; omega) | (apply k_ldO; (· rfl); (· assumption); (· rfl); (· exact mmb); (· rfl)) | exact k_faddr rfl | exact opA); (· rfl)) | ((first | apply WKO.gnoT); (· rfl); (· exact dcd)) | ((first | apply WKO.gsp); (· rfl); all_goals ((fail_if_success (refine known ?_ ?_; (· assumption))); intro _)) | refine pN ?_ | refine pX ?_ | refine bN ?_ | refine bX ?_ | (apply WK.condF; (· rfl); (· exact dcd)) | (apply WK.condD; (· rfl); all_goals intro _) | fail)
    · rename_i h1 h2
      have h4 : bs.getD k 0 % 4 < 4 := Nat.mod_lt _ (by omega)
      refine ⟨(k + 1, st ++ [UInt8.ofNat (97 + bs.getD k 0 % 4)]), (.cons rfl <| .cons rfl <| .cons rfl <| .cons rfl <| .cons rfl <| .nil _), ⟨⟨_, hF3.up rfl (by simp only [next_bump]; omega)⟩, ru3.frame (by simp only [next_bump]; omega) (fun _ _ => rfl), by simp [hst], ?_, by show k + 1 ≤ 40; omega⟩, by show 40 - (k + 1) < 40 - k; omega⟩
      simp only
      have : ∀ c, c < 4 → inS (UInt8.ofNat (97 + c)) = true := by decide
      rw [List.all_append, hin, Bool.true_and, List.all_cons, this _ h4]
      rfl
    · refine ⟨fun _ => ?_, fun q => absurd rfl q⟩
      repeat' (first | refine WK.seq ?_ | refine WK.ret ?_ | (apply WK.regC; (· rfl); (· exact lnn); (· decide)) | refine WKC.nil ?_ | ((first | apply WKC.op); (· first | exact k_mv rfl | exact k_of8 rfl (by omega) | (apply k_ldO; (· rfl); (· assumption); (· rfl); (· exact mmb); (· rfl)) | exact k_faddr rfl | exact opA); (· rfl)) | refine pN ?_ | fail)
      exact ⟨fun id q => (by cases q), _, rfl, st, l, ((g % 6 : Nat) : Int), u, rfl, ru3.frame (by simp only [next_bump]; omega) (fun _ _ => rfl), hlast, by simp only [next_bump]; omega, fun q hq => hF3.fr q hq (by simp)⟩
    · refine ⟨fun _ => ?_, fun q => absurd rfl q⟩
      repeat' (first | refine WK.seq ?_ | refine WK.ret ?_ | (apply WK.regC; (· rfl); (· exact lnn); (· decide)) | refine WKC.nil ?_ | ((first | apply WKC.op); (· first | exact k_mv rfl | exact k_of8 rfl (by omega) | (apply k_ldO; (· rfl); (· assumption); (· rfl); (· exact mmb); (· rfl)) | exact k_faddr rfl | exact opA); (· rfl)) | refine pN ?_ | fail)
      exact ⟨fun id q => (by cases q), _, rfl, st, l, ((g % 6 : Nat) : Int), u, rfl, ru3.frame (by simp only [next_bump]; omega) (fun _ _ => rfl), hlast, by simp only [next_bump]; omega, fun q hq => hF3.fr q hq (by simp)⟩
end Go.Proofs.YtfcgofffalmdfaaDoor.PA
namespace Go.Eng
def E0 (w : World) : Env := ⟨fun _ => none, fun b => b < w.heap.size, fun _ => none⟩
theorem rel0 (w : World) : Rel (E0 w) ⟨.e, 0⟩ w :=
  ⟨fun i L h => (by cases h), fun b h => h, fun i o h => (by simp [AHeap.get, Tr.get] at h), fun i j o o' L L' h => (by simp [AHeap.get, Tr.get] at h)⟩
theorem below0 {w w' : World} {E' : Env} {H' : AHeap} (h : Step (E0 w) ⟨.e, 0⟩ w E' H' w') : Go.RowKit.Below w.heap.size w w' :=
  ⟨h.fr.os, h.fr.tape, h.fr.output, h.fr.size, fun k hk => h.fr.block k hk (fun i o L hg => (by simp [AHeap.get, Tr.get] at hg))⟩
mutual
def AV.plain : AV → Bool
  | .bool _ | .int _ _ | .str _ => true
  | .agg l | .tup l => AV.plainL l
  | _ => false
def AV.plainL : List AV → Bool
  | [] => true
  | x :: r => x.plain && AV.plainL r
end
mutual
theorem plain_rel {E E' : Env} {w w' : World} : ∀ {v : AV} {u : Value}, v.plain = true → AVRel E w v u → AVRel E' w' v u
  | .bool _, _, _, h => by simpa [AVRel] using h
  | .int _ _, _, _, h => by simpa [AVRel] using h
  | .str _, _, _, h => by simpa [AVRel] using h
  | .agg l, _, hp, h => by
    simp only [AV.plain] at hp
    simp only [AVRel] at h ⊢
    obtain ⟨us, h1, h2⟩ := h
    exact ⟨us, h1, plain_relL hp h2⟩
  | .tup l, _, hp, h => by
    simp only [AV.plain] at hp
    simp only [AVRel] at h ⊢
    obtain ⟨us, h1, h2⟩ := h
    exact ⟨us, h1, plain_relL hp h2⟩
  | .ptr .., _, hp, _ => by simp [AV.plain] at hp
  | .nilp, _, hp, _ => by simp [AV.plain] at hp
  | .sl .., _, hp, _ => by simp [AV.plain] at hp
  | .nils, _, hp, _ => by simp [AV.plain] at hp
  | .map _, _, hp, _ => by simp [AV.plain] at hp
  | .nilm, _, hp, _ => by simp [AV.plain] at hp
  | .fn .., _, hp, _ => by simp [AV.plain] at hp
  | .nilf, _, hp, _ => by simp [AV.plain] at hp
  | .ifc .., _, hp, _ => by simp [AV.plain] at hp
  | .nili, _, hp, _ => by simp [AV.plain] at hp
  | .imm .., _, hp, _ => by simp [AV.plain] at hp
  | .iptr .., _, hp, _ => by simp [AV.plain] at hp
  | .glob .., _, hp, _ => by simp [AV.plain] at hp
theorem plain_relL {E E' : Env} {w w' : World} : ∀ {l : List AV} {us : List Value}, AV.plainL l = true → AVRelL E w l us → AVRelL E' w' l us
  | [], _, _, h => by simpa [AVRelL] using h
  | x :: l, _, hp, h => by
    simp only [AV.plainL, Bool.and_eq_true] at hp
    simp only [AVRelL] at h ⊢
    obtain ⟨u, us, h1, h2, h3⟩ := h
    exact ⟨u, us, h1, plain_rel hp.1 h2, plain_relL hp.2 h3⟩
end
theorem step_of_below {E : Env} {H : AHeap} {w w' : World} (hR : Rel E H w) (hb : Go.RowKit.Below w.heap.size w w') : Step E H w E H w' := by
  have hext : Env.Ext E E w w' := ⟨fun _ _ h => h, fun _ h => h, fun b hbI => hb.block b (hR.imm b hbI), fun _ _ _ h => h⟩
  have hsz := hb.size
  refine ⟨hext, ⟨fun j L hj => ?_, fun b hbI => ?_, fun j p hj => ?_, hR.inj⟩, ⟨hb.os, hb.tape, hb.output, hsz, fun b hbI _ => hb.block b hbI⟩, fun j p L hj hρ => .inr ⟨j, p, L, hj, hρ, rfl⟩, Nat.le_refl _, fun j L h => .inl h, fun _ h => .inl h⟩
  · have := hR.dom j L hj
    exact ⟨this.1, by omega⟩
  · have := hR.imm b hbI
    omega
  · obtain ⟨L, q1, q2, q3⟩ := hR.obj j p hj
    exact ⟨L, q1, ObjR.mono hext (hb.block _ (hR.dom j L q1).2) q2, q3⟩
theorem frame0 {P : Program} {f : Nat} {args args0 : List AV} {v : AV} {H H1 : AHeap} (h : CallOK P f args0 ⟨.e, 0⟩ v H1) (hv : v.plain = true) (ha : ∀ E w us, Rel E H w → AVRelL E w args us → AVRelL (E0 w) w args0 us) : CallOK P f args H v H := by
  refine ⟨h.1, fun E w us hR hus => ?_⟩
  refine (h.2 (E0 w) w us (rel0 w) (ha E w us hR hus)).mono ?_
  rintro e w' ⟨u, E', rfl, hst, hvr⟩
  exact ⟨u, E, rfl, step_of_below hR (below0 hst), plain_rel hv hvr⟩
theorem freeze {E : Env} {H : AHeap} {w : World} (hR : Rel E H w) {v : AV} {u : Value} (hv : AVRel E w v u) {z l : Nat} {cs : List AV} (hl : lenA v = some l) (hs : srcA H z l v = some cs) (hns : ∀ s, v ≠ .str s) (hp : AV.plainL cs = true) (hcl : l = 0 → cs = []) :
    AVRel (E0 w) w (.imm cs l false) u := by
  unfold srcA at hs
  split at hs
  · simp only [lenA, Option.some.injEq] at hl
    subst hl
    simp only [if_true, Option.some.injEq] at hs
    subst hs
    simp only [AVRel] at hv ⊢
    exact .inl ⟨trivial, trivial, none, 0, hv, fun q => by cases q⟩
  · rename_i i o l' c
    simp only [lenA, Option.some.injEq] at hl
    subst hl
    split at hs
    · rename_i cells opn hg
      split at hs
      · cases hs
        obtain ⟨L, ad, c', C, t, fz, us, hρ, rfl, hsl, hlc, hb, hr, hcell, _⟩ := row_sound hR hv hg
        simp only [AVRel]
        by_cases h0 : l' = 0
        · exact .inl ⟨h0, hcl h0, some ad, c', by rw [h0], fun q => by cases q⟩
        · obtain rfl := hsl.addr hlc h0
          refine .inr ⟨L.b, L.s + o, c', (us.drop o).take (l' * z), rfl, (hR.dom i L hρ).2, fun j x hj => ?_, ?_, hlc, fun q => by cases q⟩
          · rw [List.getElem?_take] at hj
            split at hj
            · rw [List.getElem?_drop] at hj
              have := hcell _ x hj
              simp only [World.cell?, hb]
              rw [show L.s + o + j = L.s + (o + j) by omega]
              exact this
            · cases hj
          · exact plain_relL hp ((hr.drop o).take (l' * z))
      · cases hs
    · cases hs
  · rename_i cs' l' full
    simp only [lenA, Option.some.injEq] at hl
    subst hl
    split at hs
    · cases hs
      simp only [AVRel] at hv ⊢
      rcases hv with ⟨h0, h1, a, c, h2, _⟩ | ⟨b, s, c, us, h1, h2, h3, h4, h5, _⟩
      · subst h0 h1
        exact .inl ⟨rfl, hcl rfl, a, c, h2, fun q => by cases q⟩
      · refine .inr ⟨b, s, c, us.take (l' * z), h1, hR.imm b h2, fun j x hj => ?_, plain_relL hp (h4.take _), h5, fun q => by cases q⟩
        rw [List.getElem?_take] at hj
        split at hj
        · exact h3 j x hj
        · cases hj
    · cases hs
  · rename_i s
    exact absurd rfl (hns s)
  · cases hs
end Go.Eng
namespace Go.Proofs.YtfcgofffalmdfaaDoor.PA
open Go Go.Eng
theorem runLives0 : (xcall F 2000 50 9 [] ⟨.e, 0⟩).map (·.1) = some (.bool true) := by kernel_rfl
theorem runLives : ∃ H', xcall F 2000 50 9 [] ⟨.e, 0⟩ = some (.bool true, H') := by
  obtain ⟨⟨v, H'⟩, h1, h2⟩ := Option.map_eq_some_iff.1 runLives0
  cases h2
  exact ⟨H', h1⟩
end Go.Proofs.YtfcgofffalmdfaaDoor.PA
namespace Go.Proofs.YtfcgofffalmdfaaDoor.PA
open Go Go.Eng Go.Proofs
theorem encPairs_inj {l l' : List (Int × Int)} (h : encPairs l = encPairs l') : l = l' := by
  have := decPairs_enc l
  rw [h, decPairs_enc l'] at this
  exact (Option.some.inj this).symm
open Classical in
noncomputable def rdP (H : AHeap) (P : AV) : Option (List (Int × Int)) := if h : ∃ l, RowE 2 H P l.length (encPairs l) then some h.choose else none
theorem rdP_eq {H : AHeap} {P : AV} {l : List (Int × Int)} (h : RowE 2 H P l.length (encPairs l)) : rdP H P = some l := by
  have q : ∃ l, RowE 2 H P l.length (encPairs l) := ⟨l, h⟩
  unfold rdP
  rw [dif_pos q]
  have h2 := q.choose_spec
  have e1 : q.choose.length = l.length := by
    have := h.len
    rw [h2.len] at this
    exact Option.some.inj this
  have e2 := h.src
  have e3 := h2.src
  rw [e1] at e3
  rw [e2] at e3
  rw [encPairs_inj (Option.some.inj e3)]
theorem rdP_some {H : AHeap} {P : AV} {l : List (Int × Int)} (h : rdP H P = some l) : RowE 2 H P l.length (encPairs l) := by
  unfold rdP at h
  split at h
  · rename_i q
    cases h
    exact q.choose_spec
  · cases h
theorem encPairs_plain (l : List (Int × Int)) : AV.plainL (encPairs l) = true := by
  induction l with
  | nil => rfl
  | cons p l ih =>
    have e : encPairs (p :: l) = .int .i64 p.1 :: .int .i64 p.2 :: encPairs l := by simp [encPairs]
    rw [e]
    simp [AV.plainL, AV.plain, ih]
theorem row_arg {H : AHeap} {P : AV} {l : List (Int × Int)} (h : RowE 2 H P l.length (encPairs l)) {E : Env} {w : World} {u : Value} (hR : Rel E H w) (hv : AVRel E w P u) : AVRel (E0 w) w (pairsI l) u :=
  Go.Eng.freeze hR hv h.len h.src h.nstr (encPairs_plain l) (fun h0 => by rw [List.eq_nil_of_length_eq_zero h0]; rfl)
theorem three_args {H : AHeap} {s : List UInt8} {P : AV} {gap : Int} {l : List (Int × Int)} (h : RowE 2 H P l.length (encPairs l)) {E : Env} {w : World} {us : List Value} {r : List AV} (hr : AV.plainL r = true) (hR : Rel E H w) (hv : AVRelL E w (.str s :: P :: .int .i64 gap :: r) us) : AVRelL (E0 w) w (.str s :: pairsI l :: .int .i64 gap :: r) us := by
  simp only [AVRelL] at hv ⊢
  obtain ⟨a, us1, rfl, h1, b, us2, rfl, h2, c, us3, rfl, h3, h4⟩ := hv
  exact ⟨a, _, rfl, plain_rel rfl h1, b, _, rfl, row_arg h hR h2, c, _, rfl, plain_rel rfl h3, plain_relL hr h4⟩
noncomputable def KL : CF := fun f args H => match f, args with
  | 9, [] => some (.bool true, H)
  | 16, [.str s, P, .int .i64 gap] => (rdP H P).map fun l => (.tup [nA (MostV s l gap).1, .int .i64 (MostV s l gap).2], H)
  | 17, [.str s, P, .int .i64 gap] => (rdP H P).map fun l => (.tup [.str (FirstV s l gap).1, .int .i64 (FirstV s l gap).2], H)
  | 12, [.str s, P, .int .i64 gap, .str f] => (rdP H P).bind fun l => if f.length ≤ 1000 then some (.tup [.bool (IsV s l gap f).1, .int .i64 (IsV s l gap f).2], H) else none
  | 14, [.str s, P, .int .i64 gap, .str f] => (rdP H P).bind fun l => if f.length ≤ 1000 ∧ readE s l gap = 0 then some (.bool (isF s (rulesOf l) gap f), H) else none
  | 18, [.str f] => if f.length ≤ 1000 then some (nA (sizeF f), H) else none
  | _, _ => none
theorem lives_call (H : AHeap) : CallOK Tryd.prog 9 [] H (.bool true) H := by
  obtain ⟨H', h⟩ := runLives
  exact frame0 (xcall_sound mixed F_ok 2000 50 _ _ _ _ _ h) rfl (fun E w us _ h => by simpa [AVRelL] using h)
theorem KL_ok : CFok Tryd.prog KL := by
  intro f args H v H' h
  unfold KL at h
  split at h
  · cases h
    exact lives_call H
  · obtain ⟨l, h1, h2⟩ := Option.map_eq_some_iff.1 h
    cases h2
    obtain ⟨H1, h3⟩ := Most_call _ l _
    exact frame0 h3 rfl (fun E w us hR hv => three_args (rdP_some h1) rfl hR hv)
  · obtain ⟨l, h1, h2⟩ := Option.map_eq_some_iff.1 h
    cases h2
    obtain ⟨H1, h3⟩ := First_call _ l _
    exact frame0 h3 rfl (fun E w us hR hv => three_args (rdP_some h1) rfl hR hv)
  · obtain ⟨l, h1, h⟩ := Option.bind_eq_some_iff.1 h
    split at h
    · rename_i hf
      cases h
      obtain ⟨H1, h3⟩ := Is_call _ l _ _ hf
      exact frame0 h3 rfl (fun E w us hR hv => three_args (rdP_some h1) rfl hR hv)
    · cases h
  · obtain ⟨l, h1, h⟩ := Option.bind_eq_some_iff.1 h
    split at h
    · rename_i hf
      cases h
      obtain ⟨H1, h3⟩ := RIs_call hf.2 hf.1
      exact frame0 h3 rfl (fun E w us hR hv => three_args (rdP_some h1) rfl hR hv)
    · cases h
  · split at h
    · rename_i hf
      cases h
      obtain ⟨v, H1, h1, rfl, _⟩ := Size_ok (cf := xcallK Kno F 2000 0) (fuel := 2000) (H := ⟨.e, 0⟩) _ (by omega) hf
      exact frame0 (xfunc_sound mixed (xcallK_sound mixed Kno_ok F_ok 2000 0) 2000 (F_ok 18 L18 rfl) h1) rfl (fun E w us hR hv => plain_relL rfl hv)
    · cases h
  · cases h
section
variable {H : AHeap} {s : List UInt8} {P : AV} {l : List (Int × Int)} {gap : Int}
theorem KL_16 (h : RowE 2 H P l.length (encPairs l)) (hE : readE s l gap = 0) : KL 16 [.str s, P, .int .i64 gap] H = some (.tup [nA (mostF s (rulesOf l) gap 0 s.length), .int .i64 0], H) := by
  show (rdP H P).map _ = _
  rw [rdP_eq h]
  unfold MostV
  simp only [hE, if_true, Option.map_some]
theorem KL_17 (h : RowE 2 H P l.length (encPairs l)) (hE : readE s l gap = 0) : KL 17 [.str s, P, .int .i64 gap] H = some (.tup [.str (fsF s (rulesOf l) gap 0 s.length), .int .i64 0], H) := by
  show (rdP H P).map _ = _
  rw [rdP_eq h]
  unfold FirstV
  simp only [hE, if_true, Option.map_some]
theorem KL_12 {f : List UInt8} (h : RowE 2 H P l.length (encPairs l)) (hE : readE s l gap = 0) (hf : f.length ≤ 1000) : KL 12 [.str s, P, .int .i64 gap, .str f] H = some (.tup [.bool (isF s (rulesOf l) gap f), .int .i64 0], H) := by
  show (rdP H P).bind _ = _
  rw [rdP_eq h]
  unfold IsV
  simp only [hE, hf, if_true, Option.bind_some]
theorem KL_14 {f : List UInt8} (h : RowE 2 H P l.length (encPairs l)) (hE : readE s l gap = 0) (hf : f.length ≤ 1000) : KL 14 [.str s, P, .int .i64 gap, .str f] H = some (.bool (isF s (rulesOf l) gap f), H) := by
  show (rdP H P).bind _ = _
  rw [rdP_eq h, Option.bind_some, if_pos ⟨hf, hE⟩]
theorem KL_18 {f : List UInt8} (hf : f.length ≤ 1000) : KL 18 [.str f] H = some (nA (sizeF f), H) := by
  show (if f.length ≤ 1000 then some (nA (sizeF f), H) else none) = _
  rw [if_pos hf]
end
end Go.Proofs.YtfcgofffalmdfaaDoor.PA
namespace Go.Proofs.YtfcgofffalmdfaaDoor.PA
open Go Go.Eng Go.Proofs
section
variable {cf : CF} {n a b : Nat} {H : AHeap} {l : KL0} {x y : XO} {s : List UInt8}
theorem k_mnN (hx : evK l x = some (nA a)) (hy : evK l y = some (nA b)) : XV cf l H n (.mn [x, y]) = some (nA (min a b), H) := by
  rw [k_mnZ hx hy]
  congr 3
  rw [Nat.min_def]
  split <;> split <;> omega
theorem k_mxN (hx : evK l x = some (nA a)) (hy : evK l y = some (nA b)) : XV cf l H n (.mx [x, y]) = some (nA (max a b), H) := by
  rw [k_mxZ hx hy]
  congr 3
  rw [Nat.max_def]
  split <;> split <;> omega
theorem k_scT (hx : evK l x = some (.str s)) (hy : evK l y = some (nA a)) (h : a ≤ s.length) : XV cf l H n (.scut x none (some y)) = some (.str (s.take a), H) := by
  have e : bndA s.length (nA a) = some a := bndA_nat h
  exact k_any (by simp only [xval, xop, scutA, bounds, obnd, hiBnd, hx, hy, Option.bind_some, e, AR.ofV, List.drop_zero, Nat.sub_zero])
theorem k_scF (hx : evK l x = some (.str s)) (hy : evK l y = some (nA a)) (h : a ≤ s.length) : XV cf l H n (.scut x (some y) none) = some (.str (s.drop a), H) := by
  have e : bndA s.length (nA a) = some a := bndA_nat h
  refine k_any ?_
  simp only [xval, xop, scutA, bounds, obnd, hiBnd, hx, hy, Option.bind_some, e, AR.ofV]
  rw [List.take_of_length_le (by simp)]
theorem k_scFT {z : XO} (hx : evK l x = some (.str s)) (hy : evK l y = some (nA a)) (hz : evK l z = some (nA b)) (h : a ≤ b) (h2 : b ≤ s.length) : XV cf l H n (.scut x (some y) (some z)) = some (.str ((s.drop a).take (b - a)), H) := by
  have e : bndA s.length (nA b) = some b := bndA_nat h2
  have e2 : bndA b (nA a) = some a := bndA_nat h
  exact k_any (by simp only [xval, xop, scutA, bounds, obnd, hiBnd, hx, hy, hz, Option.bind_some, e, e2, AR.ofV])
end
theorem fold_dots (may : Nat → Nat → Bool) : ∀ (n i : Nat), Fold may i (List.replicate n 46)
  | 0, i => .nil i
  | n + 1, i => .dot (fold_dots may n (i + 1))
set_option maxHeartbeats 4000000 in
theorem x5 {P : Int} {g : Nat} {bs xs : List Nat} (hg : g < 256) (hbs : ∀ b ∈ bs, b < 256) (hxs : ∀ b ∈ xs, b < 256) :
    ∃ v H', xfunc (xcallK KL F 3000 1) 3000 L5 [.agg (cordA P g bs), .imm (xs.map bA) xs.length false] ⟨.e, 0⟩ = some (v, H') ∧ v = .bool true := by
  refine xfunc_ofK rfl (by show 2 ≤ 169; omega) ?_
  have hF := HF.start ⟨.e, 0⟩
  generalize hHe : (⟨.e, 0⟩ : AHeap) = H at hF ⊢
  unfold L5
  dsimp only
  repeat' (first | refine WK.seq ?_ | (apply WK.reg; (· exact lnn)) | (apply WKO.boxO; (· rfl); (· assumption); (· rfl); (· exact nxx); (· exact nxx); (· exact nxx); intro _ _ _) | refine WKO.nil ?_ | ((first | apply WKO.op); (· first | exact k_mv rfl | (apply k_ldA; (· rfl); (· assumption); (· rfl); (· exact mmb); (· first | rfl))); (· rfl)) | refine pN ?_ | fail)
  rename_i H1 hF1 hn1
  refine WKO.callV rfl rfl rfl (show ∃ v H', xcallK KL F 3000 1 15 [.agg (cordA P g bs), nA 40] (H1.bump 9) = some (v, H') ∧ _ from by
    obtain ⟨v, H', q1, q2⟩ := RMade_ok (cf := xcallK KL F 3000 0) (fuel := 3000) (H := H1.bump 9) (P := P) hg hbs (by omega)
    exact ⟨v, H', (cfstep rfl rfl).trans q1, q2⟩) ?_
  rintro v2 H2 ⟨s, l, gap, u, rfl, hR, hE, hn2, hk2⟩
  obtain ⟨hsl, hs2, hb, hg0, hg5⟩ := readE_zero hE
  have h16 : ∀ {H' : AHeap}, H'.m = H2.m → H2.next ≤ H'.next → ∀ {k : Nat}, xcallK KL F 3000 k 16 [.str s, u, .int .i64 gap] H' = some (.tup [nA (mostF s (rulesOf l) gap 0 s.length), .int .i64 0], H') := fun {H'} hm hn {k} => cfhit (KL_16 (hR.frame hn (fun q _ => bump_get hm q)) hE)
  have h17 : ∀ {H' : AHeap}, H'.m = H2.m → H2.next ≤ H'.next → ∀ {k : Nat}, xcallK KL F 3000 k 17 [.str s, u, .int .i64 gap] H' = some (.tup [.str (fsF s (rulesOf l) gap 0 s.length), .int .i64 0], H') := fun {H'} hm hn {k} => cfhit (KL_17 (hR.frame hn (fun q _ => bump_get hm q)) hE)
  have h14 : ∀ {H' : AHeap} {f : List UInt8} {b : Bool}, H'.m = H2.m → H2.next ≤ H'.next → f.length ≤ 1000 → isF s (rulesOf l) gap f = b → ∀ {k : Nat}, xcallK KL F 3000 k 14 [.str s, u, .int .i64 gap, .str f] H' = some (.bool b, H') := fun {H' f b} hm hn hf hb {k} => by rw [← hb]; exact cfhit (KL_14 (hR.frame hn (fun q _ => bump_get hm q)) hE hf)
  have h12 : ∀ {H' : AHeap} {f : List UInt8}, H'.m = H2.m → H2.next ≤ H'.next → f.length ≤ 1000 → isF s (rulesOf l) gap f = true → ∀ {k : Nat}, xcallK KL F 3000 k 12 [.str s, u, .int .i64 gap, .str f] H' = some (.tup [.bool true, .int .i64 0], H') := fun {H' f} hm hn hf hb {k} => by rw [← hb]; exact cfhit (KL_12 (hR.frame hn (fun q _ => bump_get hm q)) hE hf)
  have h9 : ∀ {H' : AHeap} {k : Nat}, xcallK KL F 3000 k 9 [] H' = some (.bool true, H') := cfhit rfl
  have hsz : ∀ {H' : AHeap} {f : List UInt8}, f.length ≤ 1000 → ∀ {k : Nat}, xcallK KL F 3000 k 18 [.str f] H' = some (nA (sizeF f), H') := fun {H' f} hf {k} => cfhit (KL_18 hf)
  obtain ⟨t1, t2, t3⟩ := firstN_top (mayF s (rulesOf l) gap) (s.length - 0) 0
  have hfl : (fsF s (rulesOf l) gap 0 s.length).length = s.length := fsF_len 0 s.length
  have hfI : isF s (rulesOf l) gap (fsF s (rulesOf l) gap 0 s.length) = true := isF_iff.2 ⟨hfl, t1⟩
  have hfS : sizeF (fsF s (rulesOf l) gap 0 s.length) = mostF s (rulesOf l) gap 0 s.length := by
    show sizeF (firstN (mayF s (rulesOf l) gap) (s.length - 0) 0) = _
    unfold mostF
    omega
  have hbest : ∀ f, isF s (rulesOf l) gap f = true → f.length = s.length ∧ sizeF f ≤ mostF s (rulesOf l) gap 0 s.length := fun f hf => by
    obtain ⟨q1, q2⟩ := isF_iff.1 hf
    have := q2.le
    rw [q1] at this
    refine ⟨q1, ?_⟩
    unfold mostF
    rw [Nat.sub_zero]
    omega
  repeat' (first | refine WK.seq ?_ | refine WK.skip ?_ | refine WK.block ?_ | (apply WK.reg; (· exact lnn)) | refine WKO.nil ?_ | ((first | apply WKO.op | ((first | apply WKO.gop); (· rfl); (· exact dcd))); (· first | exact k_mv rfl | (apply k_call; (· rfl); (· rfl); (· exact h16 (by rfl) (by simp only [next_bump]; omega))) | (apply k_call; (· rfl); (· rfl); (· exact h17 (by rfl) (by simp only [next_bump]; omega))) | (apply k_call; (· rfl); (· rfl); (· exact h14 (by rfl) (by simp only [next_bump]; omega) (by omega) hfI)) | (apply k_call; (· rfl); (· rfl); (· exact hsz (by omega))) | (apply k_call; (· rfl); (· rfl); (· exact h9)) | exact k_neE rfl | exact k_scT rfl rfl (by omega) | exact opA); (· rfl)) | refine pN ?_ | (apply WK.condF; (· rfl); (· exact dcd)) | fail)
  generalize hM : mostF s (rulesOf l) gap 0 s.length = M at *
  refine WK.loop (α := Nat) (fun i => [(1, .imm (xs.map bA) xs.length false), (5, .str s), (6, u), (7, .int .i64 gap), (8, nA M), (12, .str (List.replicate i 46)), (13, nA i)]) (fun i H' => H'.m = H2.m ∧ H2.next ≤ H'.next ∧ i ≤ s.length) (fun i => s.length - i) 0 (.cons rfl <| .cons rfl <| .cons rfl <| .cons rfl <| .cons rfl <| .cons rfl <| .cons rfl <| .nil _) ⟨rfl, by simp only [next_bump]; omega, Nat.zero_le _⟩ (by omega) ?_
  rintro i H3 ⟨m3, n3, hi⟩
  have hlr : (List.replicate i (46 : UInt8)).length = i := List.length_replicate ..
  repeat' (first | refine WK.seq ?_ | refine WK.skip ?_ | refine WK.exit ?_ | refine WK.block ?_ | (apply WK.reg; (· exact lnn)) | refine WKO.nil ?_ | ((first | apply WKO.op); (· first | exact k_mv rfl | exact k_slen rfl | exact k_catS rfl rfl (by simp only [List.length_cons, List.length_nil]; omega) | exact opA); (· rfl)) | refine pN ?_ | refine pX ?_ | refine bN ?_ | refine bX ?_ | (apply WK.condD; (· rfl); all_goals intro _) | fail)
  · refine ⟨i + 1, .cons rfl <| .cons rfl <| .cons rfl <| .cons rfl <| .cons rfl <| .cons (by rw [List.replicate_succ']; rfl) <| .cons rfl <| .nil _, ⟨m3, by simp only [next_bump]; omega, by omega⟩, by omega⟩
  · have his : i = s.length := by omega
    have hI0 : isF s (rulesOf l) gap (List.replicate i 46) = true := isF_iff.2 ⟨by rw [hlr, his], fold_dots _ _ _⟩
    have hxg : ∀ k, k < xs.length → (xs.map bA)[k * 1]? = some (bA (xs.getD k 0)) := fun k hk => by
      rw [Nat.mul_one, List.getElem?_map, List.getElem?_eq_getElem hk, List.getD_eq_getElem?_getD, List.getElem?_eq_getElem hk]
      rfl
    have hx256 : ∀ k, xs.getD k 0 < 256 := fun k => by
      rw [List.getD_eq_getElem?_getD]
      cases h : xs[k]? with
      | none => exact (by decide : 0 < 256)
      | some v => exact hxs v (List.mem_of_getElem? h)
    refine WK.loop (α := Nat × List UInt8) (fun t => [(1, .imm (xs.map bA) xs.length false), (5, .str s), (6, u), (7, .int .i64 gap), (8, nA M), (12, .str t.2), (14, nA t.1)]) (fun t H' => H'.m = H2.m ∧ H2.next ≤ H'.next ∧ isF s (rulesOf l) gap t.2 = true ∧ t.1 ≤ 42) (fun t => 50 - t.1) (0, List.replicate i 46) (.cons rfl <| .cons rfl <| .cons rfl <| .cons rfl <| .cons rfl <| .cons rfl <| .cons rfl <| .nil _) ⟨m3, by simp only [next_bump]; omega, hI0, by show 0 ≤ 42; omega⟩ (by show 50 - 0 < 3000; omega) ?_
    rintro ⟨k, o⟩ H4 ⟨m4, n4, hI, hk42⟩
    simp only at m4 n4 hI hk42 ⊢
    obtain ⟨hol, hob⟩ := hbest o hI
    have h14' : ∀ {H' : AHeap} {f : List UInt8}, H'.m = H4.m → H4.next ≤ H'.next → f.length ≤ 1000 → ∀ {k : Nat}, xcallK KL F 3000 k 14 [.str s, u, .int .i64 gap, .str f] H' = some (.bool (isF s (rulesOf l) gap f), H') := fun {H' f} hm hn hf {k} => h14 (hm.trans m4) (by omega) hf rfl
    by_cases hlen : s.length > 1
    · have hA : xs.getD k 0 % s.length < s.length := Nat.mod_lt _ (by omega)
      have hD : xs.getD (k + 1) 0 % s.length < s.length := Nat.mod_lt _ (by omega)
      repeat' (first | refine WK.seq ?_ | refine WK.skip ?_ | refine WK.exit ?_ | refine WK.block ?_ | (apply WK.reg; (· exact lnn)) | (apply WK.regC; (· rfl); (· exact lnn); (· decide)) | refine WKC.nil ?_ | refine WKO.nil ?_ | ((first | apply WKC.op | apply WKO.op | ((first | apply WKO.gop); (· rfl); (· exact dcd))); (· first | exact k_mv rfl | exact k_slen rfl | exact k_iaM rfl rfl (by omega) | exact k_ldP rfl (hxg _ (by omega)) | exact k_of8 rfl (hx256 _) | exact k_mnN rfl rfl | exact k_mxN rfl rfl | exact k_sidx rfl rfl (by omega) | exact k_ne8 rfl | exact k_scT rfl rfl (by omega) | exact k_scF rfl rfl (by omega) | exact k_scFT rfl rfl rfl (by omega) (by omega) | exact k_catS rfl rfl (by simp only [List.length_append, List.length_take, List.length_drop, List.length_cons, List.length_nil]; omega) | (apply k_call; (· rfl); (· rfl); (· exact h14' (by rfl) (by simp only [next_bump]; omega) (by simp only [List.length_append, List.length_take, List.length_drop, List.length_cons, List.length_nil]; omega))) | exact opA); (· rfl)) | ((first | apply WKO.gnoT | apply WKO.gnoF); (· rfl); (· exact dcd)) | ((first | apply WKO.gsp); (· rfl); all_goals ((fail_if_success (refine known ?_ ?_; (· assumption))); intro _)) | refine pN ?_ | refine pX ?_ | refine bN ?_ | refine bX ?_ | (apply WK.condT; (· rfl); (· exact dcd)) | (apply WK.condF; (· rfl); (· exact dcd)) | (apply WK.condD; (· rfl); all_goals intro _) | (apply WK.condB; (· rfl); all_goals intro _) | fail)
      · exact ⟨(k + 2, o), (.cons rfl <| .cons rfl <| .cons rfl <| .cons rfl <| .cons rfl <| .cons rfl <| .cons rfl <| .nil _), ⟨m4, by simp only [next_bump]; omega, hI, by show k + 2 ≤ 42; omega⟩, by show 50 - (k + 2) < 50 - k; omega⟩
      · exact ⟨(k + 2, o), (.cons rfl <| .cons rfl <| .cons rfl <| .cons rfl <| .cons rfl <| .cons rfl <| .cons rfl <| .nil _), ⟨m4, by simp only [next_bump]; omega, hI, by show k + 2 ≤ 42; omega⟩, by show 50 - (k + 2) < 50 - k; omega⟩
      · exact ⟨(k + 2, o), (.cons rfl <| .cons rfl <| .cons rfl <| .cons rfl <| .cons rfl <| .cons rfl <| .cons rfl <| .nil _), ⟨m4, by simp only [next_bump]; omega, hI, by show k + 2 ≤ 42; omega⟩, by show 50 - (k + 2) < 50 - k; omega⟩
      · exact ⟨(k + 2, _), (.cons rfl <| .cons rfl <| .cons rfl <| .cons rfl <| .cons rfl <| .cons rfl <| .cons rfl <| .nil _), ⟨m4, by simp only [next_bump]; omega, by assumption, by show k + 2 ≤ 42; omega⟩, by show 50 - (k + 2) < 50 - k; omega⟩
      · exact ⟨(k + 2, o), (.cons rfl <| .cons rfl <| .cons rfl <| .cons rfl <| .cons rfl <| .cons rfl <| .cons rfl <| .nil _), ⟨m4, by simp only [next_bump]; omega, hI, by show k + 2 ≤ 42; omega⟩, by show 50 - (k + 2) < 50 - k; omega⟩
      · refine ⟨fun _ => ?_, fun q => absurd rfl q⟩
        repeat' (first | refine WK.seq ?_ | refine WK.ret ?_ | (apply WK.reg; (· exact lnn)) | refine WKO.nil ?_ | ((first | apply WKO.op | ((first | apply WKO.gop); (· rfl); (· exact dcd))); (· first | exact k_mv rfl | (apply k_call; (· rfl); (· rfl); (· exact h12 (by exact m4) (by simp only [next_bump]; omega) (by omega) hI)) | (apply k_call; (· rfl); (· rfl); (· exact hsz (by omega))) | exact opA); (· rfl)) | refine pN ?_ | fail)
        exact ⟨fun id q => (by cases q), [.bool (decide (sizeF o ≤ M))], rfl, by rw [decide_eq_true hob]; rfl⟩
      · refine ⟨fun _ => ?_, fun q => absurd rfl q⟩
        repeat' (first | refine WK.seq ?_ | refine WK.ret ?_ | (apply WK.reg; (· exact lnn)) | refine WKO.nil ?_ | ((first | apply WKO.op | ((first | apply WKO.gop); (· rfl); (· exact dcd))); (· first | exact k_mv rfl | (apply k_call; (· rfl); (· rfl); (· exact h12 (by exact m4) (by simp only [next_bump]; omega) (by omega) hI)) | (apply k_call; (· rfl); (· rfl); (· exact hsz (by omega))) | exact opA); (· rfl)) | refine pN ?_ | fail)
        exact ⟨fun id q => (by cases q), [.bool (decide (sizeF o ≤ M))], rfl, by rw [decide_eq_true hob]; rfl⟩
    · repeat' (first | refine WK.seq ?_ | refine WK.exit ?_ | (apply WK.reg; (· exact lnn)) | refine WKO.nil ?_ | ((first | apply WKO.op | ((first | apply WKO.gop); (· rfl); (· exact dcd))); (· first | exact k_mv rfl | exact k_slen rfl | exact opA); (· rfl)) | ((first | apply WKO.gnoT); (· rfl); (· exact dcd)) | ((first | apply WKO.gsp); (· rfl); all_goals ((fail_if_success (refine known ?_ ?_; (· assumption))); intro _)) | refine pN ?_ | refine pX ?_ | refine bX ?_ | (apply WK.condF; (· rfl); (· exact dcd)) | fail)
      · refine ⟨fun _ => ?_, fun q => absurd rfl q⟩
        repeat' (first | refine WK.seq ?_ | refine WK.ret ?_ | (apply WK.reg; (· exact lnn)) | refine WKO.nil ?_ | ((first | apply WKO.op | ((first | apply WKO.gop); (· rfl); (· exact dcd))); (· first | exact k_mv rfl | (apply k_call; (· rfl); (· rfl); (· exact h12 (by exact m4) (by simp only [next_bump]; omega) (by omega) hI)) | (apply k_call; (· rfl); (· rfl); (· exact hsz (by omega))) | exact opA); (· rfl)) | refine pN ?_ | fail)
        exact ⟨fun id q => (by cases q), [.bool (decide (sizeF o ≤ M))], rfl, by rw [decide_eq_true hob]; rfl⟩
      · refine ⟨fun _ => ?_, fun q => absurd rfl q⟩
        repeat' (first | refine WK.seq ?_ | refine WK.ret ?_ | (apply WK.reg; (· exact lnn)) | refine WKO.nil ?_ | ((first | apply WKO.op | ((first | apply WKO.gop); (· rfl); (· exact dcd))); (· first | exact k_mv rfl | (apply k_call; (· rfl); (· rfl); (· exact h12 (by exact m4) (by simp only [next_bump]; omega) (by omega) hI)) | (apply k_call; (· rfl); (· rfl); (· exact hsz (by omega))) | exact opA); (· rfl)) | refine pN ?_ | fail)
        exact ⟨fun id q => (by cases q), [.bool (decide (sizeF o ≤ M))], rfl, by rw [decide_eq_true hob]; rfl⟩
      · refine ⟨fun _ => ?_, fun q => absurd rfl q⟩
        repeat' (first | refine WK.seq ?_ | refine WK.ret ?_ | (apply WK.reg; (· exact lnn)) | refine WKO.nil ?_ | ((first | apply WKO.op | ((first | apply WKO.gop); (· rfl); (· exact dcd))); (· first | exact k_mv rfl | (apply k_call; (· rfl); (· rfl); (· exact h12 (by exact m4) (by simp only [next_bump]; omega) (by omega) hI)) | (apply k_call; (· rfl); (· rfl); (· exact hsz (by omega))) | exact opA); (· rfl)) | refine pN ?_ | fail)
        exact ⟨fun id q => (by cases q), [.bool (decide (sizeF o ≤ M))], rfl, by rw [decide_eq_true hob]; rfl⟩
end Go.Proofs.YtfcgofffalmdfaaDoor.PA
namespace Go.Proofs.YtfcgofffalmdfaaDoor.PA
open Go Go.Eng Go.Proofs Go.RowKit Go.ChangeShapes Go.Deep
theorem u8_nat {n : Int} (h : (Lit.int .u8 n).wf = true) : ∃ m : Nat, n = (m : Int) ∧ m < 256 := by
  simp [Lit.wf, IntKind.min, IntKind.max, IntKind.signed, IntKind.bits] at h
  exact ⟨n.toNat, by omega, by omega⟩
theorem relL_bytes {E : Env} {w : World} : ∀ x : List Nat, AVRelL E w (x.map bA) (x.map fun p : Nat => Value.int .u8 (p : Int))
  | [] => by simp [AVRelL]
  | p :: x => by
    have := relL_bytes (E := E) (w := w) x
    simp only [List.map_cons, AVRelL, bA, AVRel] at this ⊢
    exact ⟨_, _, rfl, rfl, this⟩
section
variable {H : Type} {enc : TypeId × Value → H} {P : Program} {w : World} {base : Nat} {held : Bool}
theorem read_bytes {t e : TypeId} {v : Value} {d : DataW H} {ps : List MemPlace} (ht : P.underlying t = some (.slice e)) (he : P.underlying e = some (.int .u8)) (ce : P.cellsOf e = 1)
    {a0 : Option Addr} {len cap : Nat} (hv : v = .slice a0 len cap) (h : DataW.Trod enc P w base (fun _ => true) held t v d ps) :
    ∃ x : List Nat, (∀ p ∈ x, p < 256) ∧ AVRel (E0 w) w (.imm (x.map bA) x.length false) v := by
  subst hv
  obtain ⟨fuel, hf⟩ := h
  have hf' : DataW.trod enc P w base (fun _ => true) held fuel t [.slice a0 len cap] = some (d, ps) := hf
  rcases open_slice ht hf' with ⟨h0, _⟩ | ⟨a, len', cap', m, n, D, Pl, h0, hb, hl, hm, hmm, _, hx⟩
  · cases h0
    refine ⟨[], by simp, ?_⟩
    simp only [AVRel]
    exact .inl ⟨rfl, rfl, none, 0, rfl, by simp⟩
  · cases h0
    by_cases hz : len = 0
    · subst hz
      refine ⟨[], by simp, ?_⟩
      simp only [AVRel]
      exact .inl ⟨rfl, rfl, some a, cap, rfl, by simp⟩
    · have hmc : m = cap := by simpa using hmm
      obtain ⟨f, hfn⟩ := choose_lt (n := len) (p := fun i p => w.cell? (a.add i) = some (.int .u8 ((p : Nat) : Int)) ∧ p < 256) (fun i hi => by
        obtain ⟨cs', h1, h2⟩ := hx i (by omega)
        rw [ce] at h1
        obtain ⟨_, hlen, hcell⟩ := World.cells?_some h1
        have e0 := hcell 0 (by omega)
        obtain ⟨n0, e1, _, w0⟩ := DataW.trod_int he h2
        subst e1
        obtain ⟨p, rfl, q⟩ := u8_nat w0
        rw [add_add] at e0
        exact ⟨p, by simpa using e0, q⟩)
      have hs : a.spot = none := by
        have h0 := (hfn 0 (by omega)).1
        have h0' : w.cell? a = some (.int .u8 ((f 0 : Nat) : Int)) := by simpa [Addr.add] using h0
        unfold World.cell? at h0'
        split at h0'
        · split at h0'
          · cases h0'
          · rename_i q
            simpa using q
        · cases h0'
      obtain ⟨b, s, sp⟩ := a
      simp only at hs
      subst hs
      have hadd : ∀ j, (⟨b, s, none⟩ : Addr).add j = ⟨b, s + j, none⟩ := fun j => by
        unfold Addr.add
        split
        · rename_i q; subst q; rfl
        · rfl
      refine ⟨(List.range len).map f, fun p hp => ?_, ?_⟩
      · simp only [List.mem_map, List.mem_range] at hp
        obtain ⟨i, hi, rfl⟩ := hp
        exact (hfn i hi).2
      · simp only [AVRel, List.length_map, List.length_range]
        refine .inr ⟨b, s, cap, _, rfl, ?_, fun j u hu => ?_, relL_bytes _, by omega, by simp⟩
        · have h0 := (hfn 0 (by omega)).1
          rw [hadd] at h0
          exact World.block_lt_of_cell? _ _ h0
        · rw [List.getElem?_map, Option.map_eq_some_iff] at hu
          obtain ⟨p, h1, rfl⟩ := hu
          rw [List.getElem?_map, Option.map_eq_some_iff] at h1
          obtain ⟨i', h1, rfl⟩ := h1
          have hi' : j < len := by
            rcases Nat.lt_or_ge j len with q | q
            · exact q
            · rw [List.getElem?_eq_none (by simpa using q)] at h1; cases h1
          rw [List.getElem?_range hi'] at h1
          cases h1
          rw [← hadd]
          exact (hfn _ hi').1
end
end Go.Proofs.YtfcgofffalmdfaaDoor.PA
namespace Go.Proofs.YtfcgofffalmdfaaDoor.ropeFirst
open Go Go.ChangeShapes Go.WideShapes Go.ChangeAt Go.RowKit Go.Deep Go.Joins Go.Eng
theorem own : ownKnob Tryd.prog.godebug = none := by kernel_rfl
theorem laidOut : laidOutB Tryd.prog = true := by kernel_rfl
theorem call (w : World) {P : Int} {g : Nat} {bs xs : List Nat} {v0 v1 : Value} (hg : g < 256) (hbs : ∀ b ∈ bs, b < 256) (hxs : ∀ b ∈ xs, b < 256) (h0 : AVRel (E0 w) w (.agg (PA.cordA P g bs)) v0) (h1 : AVRel (E0 w) w (.imm (xs.map PA.bA) xs.length false) v1) :
    Calls Tryd.prog 5 #[v0, v1] w fun e w' => e = .returned (.bool true) ∧ Below w.heap.size w w' := by
  obtain ⟨v, H', q1, rfl⟩ := PA.x5 (P := P) hg hbs hxs
  have h3 := (xfunc_sound PA.mixed (xcallK_sound PA.mixed PA.KL_ok PA.F_ok 3000 1) 3000 (PA.F_ok 5 PA.L5 rfl) q1).2 (E0 w) w [v0, v1] (rel0 w) (by
    simp only [AVRelL]
    exact ⟨_, _, rfl, h0, _, _, rfl, h1, rfl⟩)
  refine h3.mono fun e w' ⟨u, E', he, hs, hr⟩ => ?_
  simp only [AVRel] at hr
  subst hr
  exact ⟨he, below0 hs⟩
set_option maxRecDepth 100000 in
theorem lifted (os : Os) (started : os.Started) (H : Type) (enc : TypeId × Value → H) :
    ReturnsInHanded {} Tryd.checked os 5 .any (fun w args => (Rows.ropeFirstSpec.pre enc Tryd.prog Tryd.f5 Rows.ropeFirstRow.domain false w args ∧ laidMetH Tryd.prog Rows.ropeFirstRow.laid w) ∧ sizedMet enc Tryd.prog Tryd.f5 (OpenSpec.ofChange Rows.ropeFirstSpec) false w args)
      (Rows.ropeFirstSpec.post enc Tryd.prog Tryd.f5 false true false false) := by
  refine returnsInHanded_of_change_and (C := Tryd.checked) (X := fun w _ => laidMetH Tryd.prog Rows.ropeFirstRow.laid w) (fun _ _ _ hh h => h.of_heap hh) own started (by kernel_rfl) Tryd.func5
    (ChangeSpec.witness_shaped (enc := enc) (C := Tryd.checked) (os := os) (X := fun w _ => laidMetH Tryd.prog Rows.ropeFirstRow.laid w) false (World.laidAll Tryd.prog os Rows.ropeFirstRow.laid) #[.agg #[.int .u16 0, .int .u8 0, .slice none 0 0], .slice none 0 0] 8 (World.laidAll_os _ _ _)
      (World.shaped_of_ZipB (by kernel_rfl) (by kernel_rfl)) (by kernel_rfl) (by kernel_rfl) (by kernel_rfl)
      (by rw [MakeChecks.laidMetH_plain _ _ _ (by kernel_rfl)]; exact laidMet_laidAll _ (by kernel_rfl) (by kernel_rfl))) ?_
  intro W base args ds gs before hval0 hW hcnd _ _ _
  have hval : ∀ (j : Nat) t v, Tryd.f5.params[j]? = some t → args[j]? = some v → Value.okWide Tryd.prog W .any base t v := hval0
  have hW' := hW
  obtain ⟨p, q, hA0, hV, rfl, hfz, hnd⟩ := hW
  have hA : DataW.TrodAll enc Tryd.prog W 0 (fun _ => true) true Tryd.f5.params.toList args.toList ds p := hA0
  rw [Tryd.params5] at hA hval
  obtain ⟨v0, vs0, d0, ds0, p0, q0, hargs, rfl, rfl, h0, r0⟩ := trodAll_cons hA
  obtain ⟨v1, vs1, d1, ds1, p1, q1, rfl, rfl, rfl, h1, r1⟩ := trodAll_cons r0
  obtain ⟨rfl, rfl, rfl⟩ := trodAll_nil r1
  obtain rfl : args = #[v0, v1] := by cases args; simp_all
  obtain ⟨rfl, rfl⟩ := trodVars_none hV
  have k0 := h0
  have k1 := h1
  have lt0 : ∀ x ∈ p0, x.block < W.heap.size := by obtain ⟨m, hm⟩ := k0; exact DataW.trod_lt m _ _ _ hm
  have lt1 : ∀ x ∈ p1, x.block < W.heap.size := by obtain ⟨m, hm⟩ := k1; exact DataW.trod_lt m _ _ _ hm
  obtain ⟨a1, len, cap, hv1⟩ := okWide_slice Tryd.underlying44 (hval 1 44 v1 rfl rfl)
  obtain ⟨c0, c1, c2, y0, y1, y2, n, rfl, hd0, hp0, t0, t1, t2⟩ := open_agg3 Tryd.underlying46 (by kernel_rfl) (by kernel_rfl) (hval 0 46 v0 rfl rfl) h0
  obtain ⟨z0, e0, _⟩ := DataW.trod_int Tryd.underlying43 t0
  obtain ⟨z1, e1, _, w1⟩ := DataW.trod_int Tryd.underlying5 t1
  simp only [List.cons.injEq, and_true] at e0 e1
  subst e0 e1
  obtain ⟨g, rfl, hg⟩ := PA.u8_nat w1
  obtain ⟨a2, l2, cc2, hs2⟩ := slice_form Tryd.underlying44 t2
  simp only [List.cons.injEq, and_true] at hs2
  obtain ⟨bs, hbs, r2⟩ := PA.read_bytes (v := c2) Tryd.underlying44 Tryd.underlying5 (by kernel_rfl) hs2 ⟨n, by subst hs2; exact t2⟩
  obtain ⟨xs, hxs, r3⟩ := PA.read_bytes Tryd.underlying44 Tryd.underlying5 (by kernel_rfl) hv1 h1
  clear hA0 hval0
  refine (call (P := z0) W hg hbs hxs (by
    unfold PA.cordA PA.bA
    simp only [AVRel, AVRelL]
    exact ⟨_, rfl, _, _, rfl, rfl, _, _, rfl, rfl, _, _, rfl, r2, rfl⟩) r3).mono fun e W' ⟨he, bel⟩ => ?_
  subst he
  exact ⟨_, rfl, _, _, _, [], _, [], hW', trodAll_mk1 (shut_bool Tryd.underlying4 _), (trodAll_cons_mk (Below.trod laidOut (by kernel_rfl) (of_decide_eq_true (by kernel_rfl)) k0 bel lt0) (trodAll_cons_mk (Below.trod laidOut (by kernel_rfl) (of_decide_eq_true (by kernel_rfl)) k1 bel lt1) trodAll_mk0)), rfl, bel.frame _, fun h => by cases h⟩
theorem over : Rows.RopeFirstSaid :=
  OpenClaim.holds_of_wide 5 Tryd.f5 rfl rfl rfl rfl rfl rfl rfl ⟨rfl, rfl, rfl, rfl, rfl⟩ rfl rfl rfl rfl rfl (by kernel_rfl) Tryd.func5 (by kernel_rfl)
    (of_decide_eq_true (by kernel_rfl)) (by unfold Func.isWrapper; first | (rw [if_pos (by decide +kernel)]; kernel_rfl) | (rw [if_neg (by decide +kernel)]; exact ⟨rfl, rfl⟩))
    (fun os started H enc _ => lifted os started H enc)
end Go.Proofs.YtfcgofffalmdfaaDoor.ropeFirst
namespace Go.Proofs.YtfcgofffalmdfaaDoor
open Go
theorem ropeFirst_card : Rows.RopeFirstCardSaid :=
  Claim7.holds_tied_plain_at .later [] [.data, .pinned] true (true, "3f00498b81f2a32d3926e506fd4d6cec9b56b57de8ec6ed9ec835dbada23b520") false ropeFirst.over (fun _ h => by cases h) (by kernel_rfl) (fun _ h => by cases h) ropeFirst_row_tie rfl ⟨rfl, rfl⟩ (by kernel_rfl) rfl
    (fun f fn hf hfn => by
      obtain rfl : f = 5 := Option.some.inj ((show Tryd.prog.funcNamed "woggle/wogglelaw03.RopeFirst" = some 5 by kernel_rfl).symm.trans hf) |>.symm
      obtain rfl : fn = Tryd.f5 := (Option.some.inj (Tryd.func5.symm.trans hfn)).symm
      exact ⟨by kernel_rfl, fun j t ht => by
        rw [Tryd.params5] at ht
        have hm : t ∈ [46, 44] := by simpa using Array.mem_of_getElem? ht
        have hall : ([46, 44].all fun u => !Tryd.prog.wantsStandIn u) = true := by kernel_rfl
        exact (show Tryd.prog.wantsStandIn t = false by simpa using List.all_eq_true.1 hall t hm)⟩)
    (by kernel_rfl)
#print axioms ropeFirst_card
end Go.Proofs.YtfcgofffalmdfaaDoor
