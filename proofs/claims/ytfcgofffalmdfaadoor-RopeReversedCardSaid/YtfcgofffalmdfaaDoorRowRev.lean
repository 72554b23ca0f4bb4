/- RopeReversed: the reversed rope has the same Most and Sizes, for all rules and ropes: the row and its tied card. No condition. -/
import Derived.Test.YtfcgofffalmdfaaDoorJE
import Derived.Test.YtfcgofffalmdfaaDoorJC
import Derived.Test.YtfcgofffalmdfaaDoorJD
import Derived.ProofKit
import Derived.OpenShut
import Derived.Deep.Slices
import Derived.Deep.SlicePairs
import Derived.Deep.Fields
import Derived.Test.YtfcgofffalmdfaaDoorRows
import Derived.Test.YtfcgofffalmdfaaDoorCards
import Derived.Test.YtfcgofffalmdfaaDoorTie
import Derived.LaidMore
import Derived.Lay
import Derived.SevenTiedAt
import Derived.Stop.Joined
import Derived.SizedLaws
import Derived.Carry
import Derived.Lib.SmallJoins
import Derived.ChangeSame
set_option linter.unusedSectionVars false
set_option linter.unusedVariables false
set_option linter.unusedSimpArgs false
namespace Go.Proofs.YtfcgofffalmdfaaDoor.PA
open Go Go.Eng Go.Proofs
section
variable {cf : CF} {n : Nat} {H H' : AHeap} {l : KL0} {x y : XO} {a b : Nat} {v : AV} {r : List XOper} {R : KL0 → AHeap → Prop}
theorem k_shrU {z : Int} {k : IntKind} (hx : evK l x = some (.int k z)) (hy : evK l y = some (nA a)) : XV cf l H n (.bin .shr x y) = some (.int k (z.fdiv (2 ^ (min a k.bits))), H) :=
  k_bin hx hy (by
    show (if (a : Int) < 0 then none else some (AV.int k (z.fdiv (2 ^ (min (a : Int).toNat k.bits))))) = _
    rw [if_neg (by omega), Int.toNat_natCast])
theorem k_rem4 (hx : evK l x = some (bA a)) : XV cf l H n (.bin .rem x (.k (.int .u8 (.ofNat 4)))) = some (bA (a % 4), H) :=
  k_bin hx rfl (by
    show (if (Int.ofNat 4 : Int) = 0 then none else some (AV.int .u8 ((a : Int).tmod (Int.ofNat 4)))) = _
    rw [if_neg (by decide)]
    show some (AV.int .u8 ((a : Int).tmod ((4 : Nat) : Int))) = _
    rw [← Int.ofNat_tmod]
    rfl)
theorem k_add8 (hx : evK l x = some (bA a)) (h : a + 1 < 256) : XV cf l H n (.bin .add x (.k (.int .u8 (.ofNat 1)))) = some (bA (a + 1), H) :=
  k_bin hx rfl (by
    show some (AV.int .u8 (wrapA .u8 ((a : Int) + Int.ofNat 1))) = _
    have : wrapA .u8 ((a : Int) + Int.ofNat 1) = ((a + 1 : Nat) : Int) := by
      simp only [wrapA, IntKind.wrap, IntKind.bits, IntKind.signed]
      simp
      omega
    rw [this]
    rfl)
theorem k_of8 (hx : evK l x = some (bA a)) (h : a < 256) : XV cf l H n (.conv .i64 x) = some (nA a, H) := by
  refine k_any ?_
  simp only [xval, xop, hx, bA, AR.ofV]
  rw [wrapI _ (by omega) (by omega)]
  rfl
theorem k_scut4 (hx : evK l x = some (bA a)) (hy : evK l y = some (bA (a + 1))) (h : a < 4) : XV cf l H n (.scut (.k (.str [UInt8.ofNat 97, UInt8.ofNat 98, UInt8.ofNat 99, UInt8.ofNat 100])) (some x) (some y)) = some (.str [UInt8.ofNat (97 + a)], H) := by
  have e0 : evK l (.k (.str [UInt8.ofNat 97, UInt8.ofNat 98, UInt8.ofNat 99, UInt8.ofNat 100])) = some (.str [UInt8.ofNat 97, UInt8.ofNat 98, UInt8.ofNat 99, UInt8.ofNat 100]) := rfl
  have : a = 0 ∨ a = 1 ∨ a = 2 ∨ a = 3 := by omega
  rcases this with rfl | rfl | rfl | rfl <;> exact k_any (by simp only [xval, xop, scutA, bounds, obnd, hiBnd, hx, hy, e0, Option.bind_some]; rfl)
theorem WKO.ap2n {d1 d2 m bytes : Nat} {zs : List AV} {cs : List AV} {p q : AV} (hb : bytes ≤ 2 ^ 16) (hR : RowE 2 H v m cs) (hm : H'.m = H.m) (hn : H.next ≤ H'.next) (hlt : n < H'.next) (hf : v.own ≠ some n) (hl : m < 1000000) (hz : zs.length = 2) (hy : evK l y = some (.agg [p, q])) (ho : p.oneCell = true) (ho2 : q.oneCell = true) (hx : evK ((d1, .sl n 0 1 1) :: l) x = some v)
    (k : ∀ v' H1, RowE 2 H1 v' (m + 1) (cs ++ [p, q]) → H'.next ≤ H1.next → (∀ q, q < H'.next → q ≠ n → v.own ≠ some q → H1.get q = H'.get q) → (∀ i, v'.own = some i → v.own = some i ∨ H'.next ≤ i) → WKO cf r (n + 1 + 1) ((d2, v') :: (d1, .sl n 0 1 1) :: l) H1 R) :
    WKO cf (⟨some d1, .bslice zs [(0, 2, y)] 1, none⟩ :: ⟨some d2, .app 2 bytes x (.t d1), none⟩ :: r) n l H' R := by
  have hR' : RowE 2 H' v m cs := hR.frame hn (fun i _ => bump_get hm i)
  refine WKO.append1E (m := m) (v := v) (cs := cs) (new := [p, q]) hR' hx ?_ (by simp [allSm, XOp.opnds, hy]) (by omega) (by omega) hb rfl (by simp [ho, ho2]) hlt hf (fun v' H1 q1 q2 q3 q4 => k v' H1 (.inl q1) q2 (fun q h1 h2 h3 => q3 q h1 h2 h3) q4)
  simp only [evParts, hy, bind, Option.bind_some, fillA, AV.cells]
  simp [hz]
end
def cordA (P : Int) (g : Nat) (bs : List Nat) : List AV := [.int .u16 P, bA g, .imm (bs.map bA) bs.length false]
structure MdSt where
  i : Nat
  at_ : Nat
  l : List (Int × Int)
  u : AV
structure Md0 (H : AHeap) (B : Nat) (c : List AV) (t : MdSt) (H' : AHeap) : Prop where
  h : ∃ T, HF H [] T [(B, .cells c none)] H'
  r : RowE 2 H' t.u t.l.length (encPairs t.l)
  o : ∀ q, t.u.own = some q → B < q
  b : t.l.any badP = false
  n : t.l.length ≤ t.at_
theorem encPairs_snoc (l : List (Int × Int)) (p : Int × Int) : encPairs (l ++ [p]) = encPairs l ++ [.int .i64 p.1, .int .i64 p.2] := by simp [encPairs]
set_option maxHeartbeats 4000000 in
theorem RMade_ok {cf : CF} {fuel : Nat} {H : AHeap} {P : Int} {g : Nat} {bs : List Nat} (hg : g < 256) (hbs : ∀ b ∈ bs, b < 256) {mo : Nat} (hmo : mo ≤ 40) (hfu : 100 < fuel) :
    ∃ v H', xfunc cf fuel L15 [.agg (cordA P g bs), nA mo] H = some (v, H') ∧ ∃ s l gap u, v = .tup [.str s, u, .int .i64 gap] ∧ RowE 2 H' u l.length (encPairs l) ∧ readE s l gap = 0 ∧ H.next ≤ H'.next ∧ (∀ q, q < H.next → H'.get q = H.get q) ∧ s.length ≤ mo := by
  refine xfunc_ofK rfl (by show 2 ≤ 71; omega) ?_
  have hF := HF.start H
  unfold L15
  dsimp only
  repeat' (first | refine WK.seq ?_ | refine WK.block ?_ | (apply WK.reg; (· exact lnn)) | (apply WKO.boxO; (· rfl); (· assumption); (· rfl); (· exact nxx); (· exact nxx); (· exact nxx); intro _ _ _) | (apply WKO.bsO; (· rfl); (· rfl); (· assumption); (· rfl); (· exact nxx); (· exact nxx); (· exact nxx); intro _ _ _) | refine WKO.nil ?_ | ((first | apply WKO.op); (· first | exact k_mv rfl); (· rfl)) | refine pN ?_ | fail)
  rename_i H0 hF0 hn0 H1 hF1 hn1
  have hB : H.next < H0.next := by have := hF0.lt _ (.head _); have := hF0.le; simp only at *; omega
  have hshr : ∀ {cf : CF} {n : Nat} {Hq : AHeap} {K : KL0} {x : XO} {z : Int}, evK K x = some (.int .u16 z) → ∃ w : Int, XV cf K Hq n (.bin .and x (.k (.int .u16 (.ofNat 1)))) = some (.int .u16 w, Hq) := fun hx => ⟨_, k_bin hx rfl rfl⟩
  refine WK.loop (α := MdSt) (fun t => [(1, nA mo), (2, .ptr H.next 0), (7, .str []), (8, t.u), (9, nA t.at_), (10, nA t.i)]) (fun t H' => Md0 H H.next (cordA P g bs) t H' ∧ t.i ≤ 4 ∧ t.at_ ≤ 4 * t.i) (fun t => 4 - t.i) ⟨0, 0, [], .sl H0.next 0 0 0⟩ (.cons rfl <| .cons rfl <| .cons rfl <| .cons rfl <| .cons rfl <| .cons rfl <| .nil _)
    ⟨⟨⟨_, (hF1.sub (gs := [(H.next, .cells (cordA P g bs) none)]) (.cons _ (.refl _)) (Nat.le_refl _) hF1.le).up rfl (by simp only [next_bump]; omega)⟩, .inr ⟨rfl, rfl, H0.next, rfl, by simp only [next_bump] at *; omega, hF1.obj _ (.head _)⟩, fun q h => by simp [AV.own] at h; omega, rfl, Nat.le_refl _⟩, by show 0 ≤ 4; omega, by show 0 ≤ 4 * 0; omega⟩ (by show 4 - 0 < fuel; omega) ?_
  rintro ⟨i, at_, l, u⟩ H2 ⟨⟨⟨T, hF2⟩, ru, ro, rb, rn⟩, hi, hat⟩
  simp only at hF2 ru ro rb rn hi hat ⊢
  clear hF hF0 hF1
  repeat' (first | refine WK.seq ?_ | refine WK.skip ?_ | refine WK.exit ?_ | refine WK.block ?_ | (apply WK.reg; (· exact lnn)) | refine WKO.nil ?_ | ((first | apply WKO.op); (· first | exact k_mv rfl | exact opA); (· rfl)) | refine pN ?_ | refine pX ?_ | refine bX ?_ | (apply WK.condD; (· rfl); all_goals intro _) | fail)
  · refine WK.loop (α := MdSt) (fun t => [(1, nA mo), (2, .ptr H.next 0), (7, .str []), (8, t.u), (9, nA t.at_), (10, nA i), (11, nA t.i)]) (fun t H' => Md0 H H.next (cordA P g bs) t H' ∧ t.i ≤ i + 1 ∧ t.at_ ≤ 4 * i + t.i) (fun t => i + 1 - t.i) ⟨0, at_, l, u⟩ (.cons rfl <| .cons rfl <| .cons rfl <| .cons rfl <| .cons rfl <| .cons rfl <| .cons rfl <| .nil _) ⟨⟨⟨_, hF2.up rfl (by simp only [next_bump]; omega)⟩, ru.frame (by simp only [next_bump]; omega) (fun _ _ => rfl), ro, rb, rn⟩, Nat.zero_le _, by show at_ ≤ 4 * i + 0; omega⟩ (by show i + 1 - 0 < fuel; omega) ?_
    rintro ⟨j, at2, l2, u2⟩ H3 ⟨⟨⟨T3, hF3⟩, ru3, ro3, rb3, rn3⟩, hj, hat3⟩
    simp only at hF3 ru3 ro3 rb3 rn3 hj hat3 ⊢
    clear hF2
    repeat' (first | refine WK.seq ?_ | refine WK.skip ?_ | refine WK.exit ?_ | refine WK.block ?_ | (apply WK.reg; (· exact lnn)) | refine WKO.nil ?_ | ((first | apply WKO.op); (· first | exact k_mv rfl | exact k_shrU rfl rfl | (apply k_ldO; (· rfl); (· assumption); (· rfl); (· exact mmb); (· rfl)) | exact k_faddr rfl | exact opA); (· rfl)) | refine pN ?_ | refine pX ?_ | refine bN ?_ | refine bX ?_ | (apply WK.condD; (· rfl); all_goals intro _) | fail)
    · refine WKO.ap2n (p := nA i) (q := nA j) (by decide) ru3 rfl nxx nxx (fun e => by have := ru3.own_lt e; simp only [next_bump] at this; omega) (by omega) rfl rfl rfl rfl rfl ?_
      intro u4 H4 q1 q2 q3 q4
      simp only [next_bump] at q2 q3 q4
      have hF4 := (hF3.up (H' := ((H3.bump 3).bump 6).bump 7) rfl (by simp only [next_bump]; omega)).call (H' := H4) (mod' := (H3.next + 3 + 6 + 1 + 1 + 1 + 1) :: ownL u2) (fun q h1 h2 => by
        simp only [List.mem_cons, not_or] at h2
        exact q3 q (by simp only [next_bump] at h1; omega) h2.1 (fun e => h2.2 (mem_ownL.2 e))) (by simp only [next_bump]; omega) (fun q hq => .inr (by
        have hb := hF3.base
        have hl := hF3.le
        rcases List.mem_cons.1 hq with r | r
        · omega
        · have := ro3 q (mem_ownL.1 r); omega)) (fun p hp => by
        simp only [List.mem_singleton] at hp
        subst hp
        have hb := hF3.base
        have hl := hF3.le
        intro hq
        rcases List.mem_cons.1 hq with r | r
        · simp only at r; omega
        · have := ro3 _ (mem_ownL.1 r); simp only at this; omega)
      repeat' (first | (apply WK.reg; (· exact lnn)) | refine WKO.nil ?_ | ((first | apply WKO.op); (· first | exact k_mv rfl | exact opA); (· rfl)) | refine pN ?_ | refine bN ?_ | fail)
      refine ⟨⟨j + 1, at2 + 1, l2 ++ [((i : Int), (j : Int))], u4⟩, (.cons rfl <| .cons rfl <| .cons rfl <| .cons rfl <| .cons rfl <| .cons rfl <| .cons rfl <| .nil _), ⟨⟨⟨_, hF4.up rfl (by simp only [next_bump]; omega)⟩, ?_, fun q hq => ?_, ?_, by simp; omega⟩, by show j + 1 ≤ i + 1; omega, by show at2 + 1 ≤ 4 * i + (j + 1); omega⟩, by show i + 1 - (j + 1) < i + 1 - j; omega⟩
      · simp only [List.length_append, List.length_singleton]
        rw [encPairs_snoc]
        exact q1.frame (by simp only [next_bump]; omega) (fun _ _ => rfl)
      · have hb := hF3.base
        have hl := hF3.le
        rcases q4 q hq with r | r
        · exact ro3 q r
        · omega
      · rw [List.any_append, rb3]
        simp [badP]
        omega
    · refine ⟨⟨j + 1, at2 + 1, l2, u2⟩, (.cons rfl <| .cons rfl <| .cons rfl <| .cons rfl <| .cons rfl <| .cons rfl <| .cons rfl <| .nil _), ⟨⟨⟨_, hF3.up rfl (by simp only [next_bump]; omega)⟩, ru3.frame (by simp only [next_bump]; omega) (fun _ _ => rfl), ro3, rb3, by show l2.length ≤ at2 + 1; omega⟩, by show j + 1 ≤ i + 1; omega, by show at2 + 1 ≤ 4 * i + (j + 1); omega⟩, by show i + 1 - (j + 1) < i + 1 - j; omega⟩
    · refine ⟨fun _ => ?_, fun q => absurd rfl q⟩
      repeat' (first | (apply WK.reg; (· exact lnn)) | refine WKO.nil ?_ | ((first | apply WKO.op); (· first | exact k_mv rfl | exact opA); (· rfl)) | refine pN ?_ | fail)
      refine ⟨⟨i + 1, at2, l2, u2⟩, (.cons rfl <| .cons rfl <| .cons rfl <| .cons rfl <| .cons rfl <| .cons rfl <| .nil _), ⟨⟨⟨_, hF3.up rfl (by simp only [next_bump]; omega)⟩, ru3.frame (by simp only [next_bump]; omega) (fun _ _ => rfl), ro3, rb3, rn3⟩, by show i + 1 ≤ 4; omega, by show at2 ≤ 4 * (i + 1); omega⟩, by show 4 - (i + 1) < 4 - i; omega⟩
  · refine ⟨fun _ => ?_, fun q => absurd rfl q⟩
    repeat' (first | refine WK.seq ?_ | refine WK.block ?_ | (apply WK.reg; (· exact lnn)) | refine WKO.nil ?_ | ((first | apply WKO.op); (· first | exact k_mv rfl); (· rfl)) | refine pN ?_ | fail)
    have hget : ∀ k, k < bs.length → (bs.map bA)[k * 1]? = some (bA (bs.getD k 0)) := fun k hk => by
      rw [Nat.mul_one, List.getElem?_map, List.getElem?_eq_getElem hk, List.getD_eq_getElem?_getD, List.getElem?_eq_getElem hk]
      rfl
    have hk256 : ∀ k, bs.getD k 0 < 256 := fun k => by
      rw [List.getD_eq_getElem?_getD]
      cases h : bs[k]? with
      | none => exact (by decide : 0 < 256)
      | some v => exact hbs v (List.mem_of_getElem? h)
    refine WK.loop (α := Nat × List UInt8) (fun t => [(1, nA mo), (2, .ptr H.next 0), (7, .str t.2), (8, u), (12, nA t.1)]) (fun t H' => (∃ T, HF H [] T [(H.next, .cells (cordA P g bs) none)] H') ∧ RowE 2 H' u l.length (encPairs l) ∧ t.2.length = t.1 ∧ t.2.all inS = true ∧ t.1 ≤ mo) (fun t => mo - t.1) (0, []) (.cons rfl <| .cons rfl <| .cons rfl <| .cons rfl <| .cons rfl <| .nil _) ⟨⟨_, hF2.up rfl (by simp only [next_bump]; omega)⟩, ru.frame (by simp only [next_bump]; omega) (fun _ _ => rfl), rfl, rfl, by show 0 ≤ mo; omega⟩ (by show mo - 0 < fuel; omega) ?_
    rintro ⟨k, st⟩ H3 ⟨⟨T3, hF3⟩, ru3, hst, hin, hk40⟩
    simp only at hF3 ru3 hst hin hk40 ⊢
    clear hF2
    have hb0 := hF3.base
    have hl0 := hF3.le
    have hlast : readE st l ((g % 6 : Nat) : Int) = 0 := by
      have h6 : g % 6 < 6 := Nat.mod_lt _ (by omega)
      unfold readE
      rw [if_neg (by omega), if_neg (by rw [rb]; simp), if_neg (by omega), if_pos hin]
    repeat' (first | refine WK.seq ?_ | refine WK.skip ?_ | refine WK.exit ?_ | refine WK.block ?_ | (apply WK.reg; (· exact lnn)) | (apply WK.regC; (· rfl); (· exact lnn); (· decide)) | refine WKC.nil ?_ | refine WKO.nil ?_ | ((first | apply WKC.op | apply WKO.op | ((first | apply WKO.gop); (· rfl); (· exact dcd))); (· first | exact k_mv rfl | exact k_iaM rfl rfl (by omega) | exact k_ldP rfl (hget k (by omega)) | exact k_rem4 rfl | exact k_add8 rfl (by omega) | exact k_scut4 rfl rfl (by omega) | exact k_catS rfl rfl (by simp only [List.length_cons, List.length_nil]; omega) | (apply k_ldO; (· rfl); (· assumption); (· rfl); (· exact mmb); (· rfl)) | exact k_faddr rfl | exact opA); (· rfl)) | ((first | apply WKO.gnoT); (· rfl); (· exact dcd)) | ((first | apply WKO.gsp); (· rfl); all_goals ((fail_if_success (refine known ?_ ?_; (· assumption))); intro _)) | refine pN ?_ | refine pX ?_ | refine bN ?_ | refine bX ?_ | (apply WK.condF; (· rfl); (· exact dcd)) | (apply WK.condD; (· rfl); all_goals intro _) | fail)
    · rename_i h1 h2
      have h4 : bs.getD k 0 % 4 < 4 := Nat.mod_lt _ (by omega)
      refine ⟨(k + 1, st ++ [UInt8.ofNat (97 + bs.getD k 0 % 4)]), (.cons rfl <| .cons rfl <| .cons rfl <| .cons rfl <| .cons rfl <| .nil _), ⟨⟨_, hF3.up rfl (by simp only [next_bump]; omega)⟩, ru3.frame (by simp only [next_bump]; omega) (fun _ _ => rfl), by simp [hst], ?_, by show k + 1 ≤ mo; omega⟩, by show mo - (k + 1) < mo - k; omega⟩
      simp only
      have : ∀ c, c < 4 → inS (UInt8.ofNat (97 + c)) = true := by decide
      rw [List.all_append, hin, Bool.true_and, List.all_cons, this _ h4]
      rfl
    · refine ⟨fun _ => ?_, fun q => absurd rfl q⟩
      repeat' (first | refine WK.seq ?_ | refine WK.ret ?_ | (apply WK.regC; (· rfl); (· exact lnn); (· decide)) | refine WKC.nil ?_ | ((first | apply WKC.op); (· first | exact k_mv rfl | exact k_of8 rfl (by omega) | (apply k_ldO; (· rfl); (· assumption); (· rfl); (· exact mmb); (· rfl)) | exact k_faddr rfl | exact opA); (· rfl)) | refine pN ?_ | fail)
      exact ⟨fun id q => (by cases q), _, rfl, st, l, ((g % 6 : Nat) : Int), u, rfl, ru3.frame (by simp only [next_bump]; omega) (fun _ _ => rfl), hlast, by simp only [next_bump]; omega, fun q hq => hF3.fr q hq (by simp), by omega⟩
    · refine ⟨fun _ => ?_, fun q => absurd rfl q⟩
      repeat' (first | refine WK.seq ?_ | refine WK.ret ?_ | (apply WK.regC; (· rfl); (· exact lnn); (· decide)) | refine WKC.nil ?_ | ((first | apply WKC.op); (· first | exact k_mv rfl | exact k_of8 rfl (by omega) | (apply k_ldO; (· rfl); (· assumption); (· rfl); (· exact mmb); (· rfl)) | exact k_faddr rfl | exact opA); (· rfl)) | refine pN ?_ | fail)
      exact ⟨fun id q => (by cases q), _, rfl, st, l, ((g % 6 : Nat) : Int), u, rfl, ru3.frame (by simp only [next_bump]; omega) (fun _ _ => rfl), hlast, by simp only [next_bump]; omega, fun q hq => hF3.fr q hq (by simp), by omega⟩
end Go.Proofs.YtfcgofffalmdfaaDoor.PA
namespace Go.Eng
def E0 (w : World) : Env := ⟨fun _ => none, fun b => b < w.heap.size, fun _ => none⟩
theorem rel0 (w : World) : Rel (E0 w) ⟨.e, 0⟩ w :=
  ⟨fun i L h => (by cases h), fun b h => h, fun i o h => (by simp [AHeap.get, Tr.get] at h), fun i j o o' L L' h => (by simp [AHeap.get, Tr.get] at h)⟩
theorem below0 {w w' : World} {E' : Env} {H' : AHeap} (h : Step (E0 w) ⟨.e, 0⟩ w E' H' w') : Go.RowKit.Below w.heap.size w w' :=
  ⟨h.fr.os, h.fr.tape, h.fr.output, h.fr.size, fun k hk => h.fr.block k hk (fun i o L hg => (by simp [AHeap.get, Tr.get] at hg))⟩
mutual
def AV.plain : AV → Bool
  | .bool _ | .int _ _ | .str _ => true
  | .agg l | .tup l => AV.plainL l
  | _ => false
def AV.plainL : List AV → Bool
  | [] => true
  | x :: r => x.plain && AV.plainL r
end
mutual
theorem plain_rel {E E' : Env} {w w' : World} : ∀ {v : AV} {u : Value}, v.plain = true → AVRel E w v u → AVRel E' w' v u
  | .bool _, _, _, h => by simpa [AVRel] using h
  | .int _ _, _, _, h => by simpa [AVRel] using h
  | .str _, _, _, h => by simpa [AVRel] using h
  | .agg l, _, hp, h => by
    simp only [AV.plain] at hp
    simp only [AVRel] at h ⊢
    obtain ⟨us, h1, h2⟩ := h
    exact ⟨us, h1, plain_relL hp h2⟩
  | .tup l, _, hp, h => by
    simp only [AV.plain] at hp
    simp only [AVRel] at h ⊢
    obtain ⟨us, h1, h2⟩ := h
    exact ⟨us, h1, plain_relL hp h2⟩
  | .ptr .., _, hp, _ => by simp [AV.plain] at hp
  | .nilp, _, hp, _ => by simp [AV.plain] at hp
  | .sl .., _, hp, _ => by simp [AV.plain] at hp
  | .nils, _, hp, _ => by simp [AV.plain] at hp
  | .map _, _, hp, _ => by simp [AV.plain] at hp
  | .nilm, _, hp, _ => by simp [AV.plain] at hp
  | .fn .., _, hp, _ => by simp [AV.plain] at hp
  | .nilf, _, hp, _ => by simp [AV.plain] at hp
  | .ifc .., _, hp, _ => by simp [AV.plain] at hp
  | .nili, _, hp, _ => by simp [AV.plain] at hp
  | .imm .., _, hp, _ => by simp [AV.plain] at hp
  | .iptr .., _, hp, _ => by simp [AV.plain] at hp
  | .glob .., _, hp, _ => by simp [AV.plain] at hp
theorem plain_relL {E E' : Env} {w w' : World} : ∀ {l : List AV} {us : List Value}, AV.plainL l = true → AVRelL E w l us → AVRelL E' w' l us
  | [], _, _, h => by simpa [AVRelL] using h
  | x :: l, _, hp, h => by
    simp only [AV.plainL, Bool.and_eq_true] at hp
    simp only [AVRelL] at h ⊢
    obtain ⟨u, us, h1, h2, h3⟩ := h
    exact ⟨u, us, h1, plain_rel hp.1 h2, plain_relL hp.2 h3⟩
end
theorem step_of_below {E : Env} {H : AHeap} {w w' : World} (hR : Rel E H w) (hb : Go.RowKit.Below w.heap.size w w') : Step E H w E H w' := by
  have hext : Env.Ext E E w w' := ⟨fun _ _ h => h, fun _ h => h, fun b hbI => hb.block b (hR.imm b hbI), fun _ _ _ h => h⟩
  have hsz := hb.size
  refine ⟨hext, ⟨fun j L hj => ?_, fun b hbI => ?_, fun j p hj => ?_, hR.inj⟩, ⟨hb.os, hb.tape, hb.output, hsz, fun b hbI _ => hb.block b hbI⟩, fun j p L hj hρ => .inr ⟨j, p, L, hj, hρ, rfl⟩, Nat.le_refl _, fun j L h => .inl h, fun _ h => .inl h⟩
  · have := hR.dom j L hj
    exact ⟨this.1, by omega⟩
  · have := hR.imm b hbI
    omega
  · obtain ⟨L, q1, q2, q3⟩ := hR.obj j p hj
    exact ⟨L, q1, ObjR.mono hext (hb.block _ (hR.dom j L q1).2) q2, q3⟩
theorem frame0 {P : Program} {f : Nat} {args args0 : List AV} {v : AV} {H H1 : AHeap} (h : CallOK P f args0 ⟨.e, 0⟩ v H1) (hv : v.plain = true) (ha : ∀ E w us, Rel E H w → AVRelL E w args us → AVRelL (E0 w) w args0 us) : CallOK P f args H v H := by
  refine ⟨h.1, fun E w us hR hus => ?_⟩
  refine (h.2 (E0 w) w us (rel0 w) (ha E w us hR hus)).mono ?_
  rintro e w' ⟨u, E', rfl, hst, hvr⟩
  exact ⟨u, E, rfl, step_of_below hR (below0 hst), plain_rel hv hvr⟩
theorem freeze {E : Env} {H : AHeap} {w : World} (hR : Rel E H w) {v : AV} {u : Value} (hv : AVRel E w v u) {z l : Nat} {cs : List AV} (hl : lenA v = some l) (hs : srcA H z l v = some cs) (hns : ∀ s, v ≠ .str s) (hp : AV.plainL cs = true) (hcl : l = 0 → cs = []) :
    AVRel (E0 w) w (.imm cs l false) u := by
  unfold srcA at hs
  split at hs
  · simp only [lenA, Option.some.injEq] at hl
    subst hl
    simp only [if_true, Option.some.injEq] at hs
    subst hs
    simp only [AVRel] at hv ⊢
    exact .inl ⟨trivial, trivial, none, 0, hv, fun q => by cases q⟩
  · rename_i i o l' c
    simp only [lenA, Option.some.injEq] at hl
    subst hl
    split at hs
    · rename_i cells opn hg
      split at hs
      · cases hs
        obtain ⟨L, ad, c', C, t, fz, us, hρ, rfl, hsl, hlc, hb, hr, hcell, _⟩ := row_sound hR hv hg
        simp only [AVRel]
        by_cases h0 : l' = 0
        · exact .inl ⟨h0, hcl h0, some ad, c', by rw [h0], fun q => by cases q⟩
        · obtain rfl := hsl.addr hlc h0
          refine .inr ⟨L.b, L.s + o, c', (us.drop o).take (l' * z), rfl, (hR.dom i L hρ).2, fun j x hj => ?_, ?_, hlc, fun q => by cases q⟩
          · rw [List.getElem?_take] at hj
            split at hj
            · rw [List.getElem?_drop] at hj
              have := hcell _ x hj
              simp only [World.cell?, hb]
              rw [show L.s + o + j = L.s + (o + j) by omega]
              exact this
            · cases hj
          · exact plain_relL hp ((hr.drop o).take (l' * z))
      · cases hs
    · cases hs
  · rename_i cs' l' full
    simp only [lenA, Option.some.injEq] at hl
    subst hl
    split at hs
    · cases hs
      simp only [AVRel] at hv ⊢
      rcases hv with ⟨h0, h1, a, c, h2, _⟩ | ⟨b, s, c, us, h1, h2, h3, h4, h5, _⟩
      · subst h0 h1
        exact .inl ⟨rfl, hcl rfl, a, c, h2, fun q => by cases q⟩
      · refine .inr ⟨b, s, c, us.take (l' * z), h1, hR.imm b h2, fun j x hj => ?_, plain_relL hp (h4.take _), h5, fun q => by cases q⟩
        rw [List.getElem?_take] at hj
        split at hj
        · exact h3 j x hj
        · cases hj
    · cases hs
  · rename_i s
    exact absurd rfl (hns s)
  · cases hs
end Go.Eng
namespace Go.Proofs.YtfcgofffalmdfaaDoor.PA
open Go Go.Eng
theorem runLives0 : (xcall F 2000 50 9 [] ⟨.e, 0⟩).map (·.1) = some (.bool true) := by kernel_rfl
theorem runLives : ∃ H', xcall F 2000 50 9 [] ⟨.e, 0⟩ = some (.bool true, H') := by
  obtain ⟨⟨v, H'⟩, h1, h2⟩ := Option.map_eq_some_iff.1 runLives0
  cases h2
  exact ⟨H', h1⟩
end Go.Proofs.YtfcgofffalmdfaaDoor.PA
namespace Go.Proofs.YtfcgofffalmdfaaDoor.PA
open Go Go.Eng Go.Proofs
theorem encPairs_inj {l l' : List (Int × Int)} (h : encPairs l = encPairs l') : l = l' := by
  have := decPairs_enc l
  rw [h, decPairs_enc l'] at this
  exact (Option.some.inj this).symm
theorem lives_call (H : AHeap) : CallOK Tryd.prog 9 [] H (.bool true) H := by
  obtain ⟨H', h⟩ := runLives
  exact frame0 (xcall_sound mixed F_ok 2000 50 _ _ _ _ _ h) rfl (fun E w us _ h => by simpa [AVRelL] using h)
section
variable {H : AHeap} {s : List UInt8} {P : AV} {l : List (Int × Int)} {gap : Int}
end
end Go.Proofs.YtfcgofffalmdfaaDoor.PA
namespace Go.Proofs.YtfcgofffalmdfaaDoor.PA
open Go Go.Eng Go.Proofs
def zA (z : Int) : AV := .int .i64 z
section
variable {cf : CF} {n a b : Nat} {H : AHeap} {l : KL0} {x y : XO}
theorem k_shl64 (hx : evK l x = some (u64 a)) (h : a < B32) : XV cf l H n (.bin .shl x (.k (.int .u64 (.ofNat 32)))) = some (u64 (a * B32), H) :=
  k_bin hx rfl (by
    simp only [u64_int, binA]
    rw [if_neg (by decide), show (2 : Int) ^ (min (Int.toNat (Int.ofNat 32)) IntKind.u64.bits) = ((B32 : Nat) : Int) by decide, ← Int.natCast_mul, wrap64]
    have e1 : B32 = 4294967296 := rfl
    have e2 : B64 = 18446744073709551616 := rfl
    rw [e1] at h ⊢
    omega)
theorem k_or64 (hx : evK l x = some (u64 (a * B32))) (hy : evK l y = some (u64 b)) (h : a < B32) (hb : b < B32) : XV cf l H n (.bin .or x y) = some (u64 (a * B32 + b), H) :=
  k_bin hx hy (by
    simp only [u64_int, binA, bitsA]
    rw [if_neg (by simp)]
    have e1 : B32 = 4294967296 := rfl
    have e2 : B64 = 18446744073709551616 := rfl
    have h1 : a * B32 + b < B64 := by rw [e1] at h hb ⊢; rw [e2]; omega
    have h2 : (BitVec.ofInt IntKind.u64.bits ((a * B32 : Nat) : Int) ||| BitVec.ofInt IntKind.u64.bits ((b : Nat) : Int)).toNat = a * B32 + b := by
      rw [BitVec.ofInt_natCast, BitVec.ofInt_natCast, BitVec.toNat_or, BitVec.toNat_ofNat, BitVec.toNat_ofNat, show IntKind.u64.bits = 64 from rfl, Nat.mod_eq_of_lt (by rw [show 2 ^ 64 = B64 from rfl]; omega), Nat.mod_eq_of_lt (by rw [show 2 ^ 64 = B64 from rfl, e2]; omega)]
      rw [show a * B32 = a <<< 32 by rw [Nat.shiftLeft_eq]; rfl, Nat.shiftLeft_add_eq_or_of_lt (show b < 2 ^ 32 from hb)]
    rw [h2, wrap64 h1])
theorem k_quo64 (hx : evK l x = some (u64 a)) (hy : evK l y = some (u64 b)) (h : 0 < b) (ha : a < B64) : XV cf l H n (.bin .quo x y) = some (u64 (a / b), H) :=
  k_bin hx hy (by
    simp only [u64_int, binA]
    rw [if_neg (by simp), if_neg (by omega), show (a : Int).tdiv (b : Int) = ((a / b : Nat) : Int) from (Int.ofNat_tdiv a b).symm, wrap64 (Nat.lt_of_le_of_lt (Nat.div_le_self a b) ha)])
theorem k_rem64 (hx : evK l x = some (u64 a)) (hy : evK l y = some (u64 b)) (h : 0 < b) : XV cf l H n (.bin .rem x y) = some (u64 (a % b), H) :=
  k_bin hx hy (by
    simp only [u64_int, binA]
    rw [if_neg (by simp), if_neg (by omega), ← Int.ofNat_tmod])
theorem k_subM (hx : evK l x = some (nA a)) (h : a < 1000000000) : XV cf l H n (.bin .sub x (.k (.int .i64 (.ofNat 1)))) = some (zA ((a : Int) - 1), H) :=
  k_bin hx rfl (by
    show some (AV.int .i64 (wrapA .i64 ((a : Int) - ((1 : Nat) : Int)))) = _
    rw [wrapI _ (by omega) (by omega)]
    rfl)
theorem k_geqM (hx : evK l x = some (zA (-1))) : XV cf l H n (.bin .geq x (.k (.int .i64 (.ofNat 0)))) = some (.bool false, H) := k_bin hx rfl rfl
theorem k_geqT (hx : evK l x = some (nA a)) : XV cf l H n (.bin .geq x (.k (.int .i64 (.ofNat 0)))) = some (.bool true, H) :=
  k_bin hx rfl (by
    show some (AV.bool (decide ((a : Int) ≥ Int.ofNat 0))) = _
    rw [decide_eq_true (by show (0 : Int) ≤ a; omega)])
end
theorem zA_nat (k : Nat) : zA (((k + 1 : Nat) : Int) - 1) = nA k := by
  unfold zA nA
  congr 1
  omega
set_option maxHeartbeats 2000000 in
theorem byWord_ok {cf : CF} {fuel : Nat} {H : AHeap} {a : List Nat} {w : Nat} (ha : digL a) (hla : a.length ≤ 1000) (hw : 0 < w) (hw2 : w < B32) (hf : 1001 < fuel)
    (hT : ∀ H v l, MagL H v l → l.length ≤ 2000 → ∃ v' H', cf 53 [v] H = some (v', H') ∧ (MagL H' v' (trimL l) ∧ Same H H')) :
    ∃ v H', xfunc cf fuel L67 [digI a, u32 w] H = some (v, H') ∧ ∃ q, v = .tup [q, u32 (divL w a).2] ∧ MagL H' q (trimL (divL w a).1) := by
  refine xfunc_ofK rfl (by show 2 ≤ 44; omega) ?_
  have hF0 := HF.start H
  have e1 : B32 = 4294967296 := rfl
  have e2 : B64 = 18446744073709551616 := rfl
  unfold L67
  dsimp only
  repeat' (first | refine WK.seq ?_ | (apply WK.reg; (· exact lnn)) | refine WKO.nil ?_ | ((first | apply WKO.op); (· first | exact k_mv rfl | exact k_lenD rfl); (· rfl)) | refine pN ?_ | fail)
  refine WKO.mkO (m := a.length) rfl rfl ⟨by omega, by decide⟩ hF0 rfl (by simp only [next_bump]; omega) ?_
  intro H1 hF1 hn1
  rw [replicate_u32] at hF1
  repeat' (first | refine WK.seq ?_ | refine WK.block ?_ | (apply WK.reg; (· exact lnn)) | refine WKO.nil ?_ | ((first | apply WKO.op); (· first | exact k_mv rfl | exact k_lenD rfl | exact k_subM rfl (by omega)); (· rfl)) | refine pN ?_ | fail)
  have hdl : ∀ i, (divL w (a.drop i)).1.length = a.length - i := fun i => by
    have := (divL_ok hw (a.drop i) (fun x hx => ha x (List.mem_of_mem_drop hx))).2.2.2
    rw [this, List.length_drop]
  have hdr : ∀ i, (divL w (a.drop i)).2 < w := fun i => (divL_ok hw (a.drop i) (fun x hx => ha x (List.mem_of_mem_drop hx))).2.1
  refine WK.loop (α := Nat) (fun i => [(0, digI a), (1, u32 w), (6, .sl ((H.bump 2).bump 4).next 0 a.length a.length), (7, u64 (divL w (a.drop i)).2), (8, zA ((i : Int) - 1))])
    (fun i H' => ∃ T, HF H [] T [(((H.bump 2).bump 4).next, .cells ((List.replicate i 0 ++ (divL w (a.drop i)).1).map u32) none)] H' ∧ i ≤ a.length) (fun i => i) a.length ?_ ?_ (by show a.length < fuel; omega) ?_
  · rw [List.drop_length]
    exact .cons rfl <| .cons rfl <| .cons rfl <| .cons (by rw [u64_int]; rfl) <| .cons rfl <| .nil _
  · refine ⟨((H.bump 2).bump 4).next + 1, ?_, Nat.le_refl _⟩
    rw [List.drop_length]
    simpa [divL] using hF1.up (by rfl) (by simp only [next_bump, hn1]; omega)
  · rintro i H2 ⟨T, hF2, hi⟩
    cases i with
    | zero =>
      repeat' (first | refine WK.seq ?_ | refine WK.exit ?_ | (apply WK.reg; (· exact lnn)) | refine WKO.nil ?_ | ((first | apply WKO.op); (· first | exact k_mv rfl | exact k_geqM rfl); (· rfl)) | refine pN ?_ | refine pX ?_ | refine bX ?_ | (apply WK.condF; (· rfl); (· exact dcd)) | fail)
      have hM : MagL H2 (.sl ((H.bump 2).bump 4).next 0 a.length a.length) (divL w a).1 := by
        have hl := hdl 0
        rw [List.drop_zero, Nat.sub_zero] at hl
        refine .inr ⟨_, _, ((divL w a).1).map u32, none, by rw [hl], by rw [hl]; exact Nat.le_refl _, by unfold openAt; omega, ?_, by rw [List.take_of_length_le (by simp)], by simp, Nat.lt_of_lt_of_le (hF2.lt _ (List.mem_cons_self ..)) hF2.le⟩
        have := hF2.obj _ (List.mem_cons_self ..)
        simpa using this
      refine WKO.callV rfl rfl rfl (hT _ _ _ (hM.same ((Same.bump _ 2).trans (Same.bump _ 6))) (by have := hdl 0; rw [List.drop_zero] at this; omega)) ?_
      rintro v H4 ⟨m4, s4⟩
      have hr := hdr 0
      rw [List.drop_zero] at hr ⊢
      repeat' (first | refine WK.ret ?_ | refine WKO.nil ?_ | ((first | apply WKO.op); (· first | exact k_mv rfl | exact k_c32 rfl); (· rfl)) | refine pN ?_ | fail)
      refine ⟨fun id q => (by cases q), [v, u32 (divL w a).2], ?_, v, rfl, m4⟩
      rw [Nat.mod_eq_of_lt (Nat.lt_trans hr hw2)]
      rfl
    | succ k =>
      have hak := dig_lt ha k
      have hr := hdr (k + 1)
      have hB : (divL w (a.drop (k + 1))).2 * B32 + a.getD k 0 < B64 := by rw [e1] at hw2 hak ⊢; rw [e2]; omega
      have hst : divL w (a.drop k) = (((divL w (a.drop (k + 1))).2 * B32 + a.getD k 0) / w :: (divL w (a.drop (k + 1))).1, ((divL w (a.drop (k + 1))).2 * B32 + a.getD k 0) % w) := by
        rw [List.drop_eq_getElem_cons (show k < a.length by omega), divL, List.getD_eq_getElem?_getD, List.getElem?_eq_getElem (show k < a.length by omega)]
        rfl
      have hq : ((divL w (a.drop (k + 1))).2 * B32 + a.getD k 0) / w < B32 := by
        have := (divL_ok hw (a.drop k) (fun x hx => ha x (List.mem_of_mem_drop hx))).2.2.1 (((divL w (a.drop (k + 1))).2 * B32 + a.getD k 0) / w) (by rw [hst]; simp)
        exact this
      have hlen : (List.replicate (k + 1) 0 ++ (divL w (a.drop (k + 1))).1).length = a.length := by rw [List.length_append, List.length_replicate, hdl]; omega
      rw [zA_nat]
      repeat' (first | refine WK.seq ?_ | refine WK.skip ?_ | refine WK.block ?_ | (apply WK.reg; (· exact lnn)) | (apply WK.regd0; (· exact lnn)) | refine WKO.nil ?_ | ((first | apply WKO.op); (· first | exact k_mv rfl | exact k_geqT rfl | exact k_shl64 rfl (by omega) | exact k_iaD rfl rfl (by omega) | exact k_ldD rfl (by omega) | exact k_c64 rfl hak | exact k_c64 rfl hw2 | exact k_or64 rfl rfl (by omega) hak | exact k_quo64 rfl rfl hw hB | exact k_rem64 rfl rfl hw | exact k_c32 rfl | exact k_ia1s rfl rfl (by omega)); (· rfl)) | refine pN ?_ | (apply WK.condT; (· rfl); (· exact dcd)) | fail)
      rw [Nat.mod_eq_of_lt hq]
      refine WKO.stN (f := u32) (N := List.replicate (k + 1) 0 ++ (divL w (a.drop (k + 1))).1) (p := k) rfl rfl (u32_cells _) (u32_one _) hF2 rfl nxx (.inr (by simp only [next_bump]; omega)) (by omega) ?_
      intro H3 hF3 hn3
      repeat' (first | (apply WK.reg; (· exact lnn)) | refine WKO.nil ?_ | ((first | apply WKO.op); (· first | exact k_mv rfl | exact k_subM rfl (by omega)); (· rfl)) | refine pN ?_ | refine bN ?_ | fail)
      refine ⟨k, ?_, ⟨T, ?_, by omega⟩, by show k < k + 1; omega⟩
      · exact .cons rfl <| .cons rfl <| .cons rfl <| .cons (by rw [hst]; rfl) <| .cons rfl <| .nil _
      · have : (List.replicate (k + 1) 0 ++ (divL w (a.drop (k + 1))).1).set k (((divL w (a.drop (k + 1))).2 * B32 + a.getD k 0) / w) = List.replicate k 0 ++ (divL w (a.drop k)).1 := by
          rw [hst, List.replicate_succ', List.append_assoc, List.set_append_right _ _ (by simp), List.length_replicate, Nat.sub_self]
          rfl
        rw [this] at hF3
        exact hF3.up (by rfl) (by simp only [next_bump] at *; omega)
theorem byWord_call {n w : Nat} (hn : n < bigN) (hw : 0 < w) (hw2 : w < B32) (H : AHeap) : CallOK Tryd.prog 67 [digA (limbs n), u32 w] H (.tup [digA (limbs (n / w)), u32 (n % w)]) H := by
  have h1 := limbs20 hn
  obtain ⟨v, H', h, q, rfl, hM⟩ := byWord_ok (cf := xcallK KA F 3000 1) (fuel := 3000) (H := ⟨.e, 0⟩) (digL_limbs n) (by omega) hw hw2 (by omega) (fun H v l q1 q2 => trim_call (by omega) H v l q1 (by omega))
  obtain ⟨d1, d2⟩ := divL_limbs hw n
  rw [d1] at hM
  rw [d2] at h
  have h3 := xcallK_sound mixed KA_ok F_ok 3000 2 67 _ _ _ _ ((cfstep rfl rfl).trans h)
  rw [← digI_eq] at h3
  refine h3.pure (by simp [AV.frozL, digA_froz, u32_froz]) (.tup rfl (fun j x y hx hy => ?_))
  match j, hx, hy with
  | 0, hx, hy => cases hx; cases hy; exact hM.fz (fun i _ => get_e0 i)
  | 1, hx, hy => cases hx; cases hy; exact Fz.froz (u32_froz _)
end Go.Proofs.YtfcgofffalmdfaaDoor.PA
namespace Go.Proofs.YtfcgofffalmdfaaDoor.PA
def decR (n : Nat) : List Nat := if h : n = 0 then [] else (48 + n % 10) :: decR (n / 10)
  termination_by n
  decreasing_by exact Nat.div_lt_self (by omega) (by decide)
theorem decR_zero : decR 0 = [] := by rw [decR]; simp
theorem decR_pos {n : Nat} (h : n ≠ 0) : decR n = (48 + n % 10) :: decR (n / 10) := by rw [decR]; simp [h]
def decL (n : Nat) : List Nat := if n = 0 then [48] else (decR n).reverse
def decS (n : Nat) : List UInt8 := (decL n).map UInt8.ofNat
theorem decR_len : ∀ (k n : Nat), n < 10 ^ k → (decR n).length ≤ k
  | 0, n, h => by rw [show n = 0 by rw [Nat.pow_zero] at h; omega, decR_zero]; exact Nat.le_refl _
  | k + 1, n, h => by
    by_cases h0 : n = 0
    · rw [h0, decR_zero]; exact Nat.zero_le _
    · rw [decR_pos h0, List.length_cons]
      have := decR_len k (n / 10) (by
        rw [Nat.div_lt_iff_lt_mul (by decide)]
        rwa [Nat.pow_succ] at h)
      omega
theorem decR_dig : ∀ (n : Nat), ∀ x ∈ decR n, 48 ≤ x ∧ x < 58 := by
  intro n
  induction n using Nat.strongRecOn with
  | _ n ih =>
    intro x hx
    by_cases h0 : n = 0
    · rw [h0, decR_zero] at hx; cases hx
    · rw [decR_pos h0] at hx
      rcases List.mem_cons.1 hx with rfl | hx
      · omega
      · exact ih _ (Nat.div_lt_self (by omega) (by decide)) x hx
theorem decR_step {q k r : Nat} (h : q ≠ 0 ∨ r ≠ 0) (hr : r < 10 ^ (k + 1)) : decR (q * 10 ^ (k + 1) + r) = (48 + r % 10) :: decR (q * 10 ^ k + r / 10) := by
  have hp : 0 < 10 ^ k := Nat.pow_pos (by decide)
  have h0 : q * 10 ^ (k + 1) + r ≠ 0 := by
    rcases h with h | h
    · have : 0 < q * 10 ^ (k + 1) := Nat.mul_pos (by omega) (Nat.pow_pos (by decide))
      omega
    · omega
  have e1 : q * 10 ^ (k + 1) + r = 10 * (q * 10 ^ k) + r := by rw [Nat.pow_succ, ← Nat.mul_assoc, Nat.mul_comm _ 10]
  rw [decR_pos h0, e1]
  congr 1
  · omega
  · congr 1
    omega
theorem pow_lt_div {k r : Nat} (hr : r < 10 ^ (k + 1)) : r / 10 < 10 ^ k := by
  rw [Nat.div_lt_iff_lt_mul (by decide)]
  rwa [Nat.pow_succ] at hr
end Go.Proofs.YtfcgofffalmdfaaDoor.PA
namespace Go.Proofs.YtfcgofffalmdfaaDoor.PA
open Go Go.Eng Go.Proofs
def b8 (n : Nat) : AV := .int .u8 (n : Int)
theorem b8_cells (n : Nat) : (b8 n).cells = [b8 n] := rfl
theorem b8_one (n : Nat) : (b8 n).oneCell = true := rfl
theorem getD_setN (N : List Nat) (i w p : Nat) (hi : i < N.length) : (N.set i w).getD p 0 = if p = i then w else N.getD p 0 := by
  rw [List.getD_eq_getElem?_getD, List.getD_eq_getElem?_getD, List.getElem?_set]
  by_cases h : i = p
  · subst h
    simp [hi]
  · rw [if_neg h, if_neg (fun q => h q.symm)]
theorem ext_getD {N M : List Nat} (hl : N.length = M.length) (h : ∀ p, p < N.length → N.getD p 0 = M.getD p 0) : N = M := by
  refine List.ext_getElem? fun p => ?_
  by_cases hp : p < N.length
  · have := h p hp
    rw [List.getD_eq_getElem?_getD, List.getD_eq_getElem?_getD, List.getElem?_eq_getElem hp, List.getElem?_eq_getElem (by omega)] at this
    rw [List.getElem?_eq_getElem hp, List.getElem?_eq_getElem (by omega)]
    simpa using this
  · rw [List.getElem?_eq_none (by omega), List.getElem?_eq_none (by omega)]
theorem rev_getD (N : List Nat) (p : Nat) (hp : p < N.length) : N.reverse.getD p 0 = N.getD (N.length - 1 - p) 0 := by
  rw [List.getD_eq_getElem?_getD, List.getD_eq_getElem?_getD, List.getElem?_reverse hp]
def RevK (N M : List Nat) (k : Nat) : Prop := M.length = N.length ∧ ∀ p, p < N.length → M.getD p 0 = if p < k ∨ N.length ≤ k + p then N.getD (N.length - 1 - p) 0 else N.getD p 0
theorem RevK.zero (N : List Nat) : RevK N N 0 := ⟨rfl, fun p hp => by rw [if_neg (by omega)]⟩
theorem RevK.next {N M : List Nat} {k : Nat} (h : RevK N M k) (hk : k < N.length - 1 - k) : RevK N ((M.set k (M.getD (N.length - 1 - k) 0)).set (N.length - 1 - k) (M.getD k 0)) (k + 1) := by
  obtain ⟨h1, h2⟩ := h
  refine ⟨by simp [h1], fun p hp => ?_⟩
  rw [getD_setN _ _ _ _ (by rw [List.length_set]; omega), getD_setN _ _ _ _ (by omega)]
  by_cases q1 : p = N.length - 1 - k
  · subst q1
    rw [if_pos rfl, h2 k (by omega), if_neg (by omega), if_pos (by omega)]
    congr 1
    omega
  · rw [if_neg q1]
    by_cases q2 : p = k
    · subst q2
      rw [if_pos rfl, h2 _ (by omega), if_neg (by omega), if_pos (by omega)]
    · rw [if_neg q2, h2 p hp]
      by_cases q3 : p < k ∨ N.length ≤ k + p
      · rw [if_pos q3, if_pos (by omega)]
      · rw [if_neg q3, if_neg (by omega)]
theorem RevK.done {N M : List Nat} {k : Nat} (h : RevK N M k) (hk : N.length - 1 - k ≤ k) : M = N.reverse := by
  obtain ⟨h1, h2⟩ := h
  refine ext_getD (by rw [h1, List.length_reverse]) fun p hp => ?_
  rw [rev_getD _ _ (by omega), h2 p (by omega)]
  by_cases q : p < k ∨ N.length ≤ k + p
  · rw [if_pos q]
  · rw [if_neg q]
    congr 1
    omega
theorem WKO.stR {cf : CF} {n : Nat} {H0 H H' : AHeap} {mod : List Nat} {T : Nat} {fs : List (Nat × AObj)} {l : KL0} {R : KL0 → AHeap → Prop} {r : List XOper} {i p w : Nat} {opn : Option Nat} {N : List Nat} {rest : List AV} {a x : XO} (ha : evK l a = some (.ptr i p)) (hx : evK l x = some (b8 w)) (hF : HF H0 mod T ((i, .cells (N.map b8 ++ rest) opn) :: fs) H) (hm : H'.m = H.m) (hn : H.next ≤ H'.next) (hi : i ∈ mod ∨ H0.next ≤ i) (hp : p < N.length)
    (k : ∀ H1, HF H0 mod T ((i, .cells ((N.set p w).map b8 ++ rest) opn) :: fs) H1 → H1.next = H'.next → WKO cf r (n + 1) l H1 R) : WKO cf (⟨none, .store 1 a x, none⟩ :: r) n l H' R := by
  have e : (N.set p w).map b8 ++ rest = overA (N.map b8 ++ rest) p (b8 w).cells := by
    rw [b8_cells, List.map_set, overA, List.set_eq_take_append_cons_drop, if_pos (by simpa using hp), List.take_append_of_le_length (by simp; omega), List.drop_append_of_le_length (by simp; omega)]
    simp
  rw [e] at k
  exact WKO.stO0 ha hx hF hm hn hi (by rw [b8_cells]; rfl) (by rw [b8_cells]; simp [b8_one]) (by simp; omega) k
theorem map_getR {N : List Nat} {rest : List AV} {p : Nat} (h : p < N.length) : (N.map b8 ++ rest)[p]? = some (b8 (N.getD p 0)) := by
  rw [List.getElem?_append_left (by simpa using h), List.getElem?_map, List.getElem?_eq_getElem h, List.getD_eq_getElem?_getD, List.getElem?_eq_getElem h]
  rfl
set_option maxHeartbeats 2000000 in
theorem rev_ok {cf : CF} {fuel : Nat} {H : AHeap} {i c : Nat} {N : List Nat} {rest : List AV} {opn : Option Nat} (hN : 0 < N.length) (hl : N.length ≤ 100000) (hg : H.get i = some (.cells (N.map b8 ++ rest) opn)) (hi : i < H.next) (hf : N.length < fuel) :
    ∃ v H', xfunc cf fuel L68 [.sl i 0 N.length c] H = some (v, H') ∧ (H'.get i = some (.cells (N.reverse.map b8 ++ rest) opn) ∧ H.next ≤ H'.next ∧ ∀ q, q < H.next → q ≠ i → H'.get q = H.get q) := by
  refine xfunc_ofK rfl (by show 1 ≤ 28; omega) ?_
  have hF0 : HF H [i] H.next [(i, .cells (N.map b8 ++ rest) opn)] H := HF.add ⟨fun p hp => (by cases hp), fun p hp => (by cases hp), by simp, Nat.le_refl _, Nat.le_refl _, fun _ _ _ => rfl⟩ hg hi (by simp)
  unfold L68
  dsimp only
  repeat' (first | refine WK.seq ?_ | refine WK.block ?_ | (apply WK.reg; (· exact lnn)) | refine WKO.nil ?_ | ((first | apply WKO.op); (· first | exact k_mv rfl | exact k_lenL rfl rfl | exact k_subN rfl rfl (by omega) (by omega)); (· rfl)) | refine pN ?_ | fail)
  refine WK.loop (α := Nat × List Nat) (fun s => [(0, .sl i 0 N.length c), (2, nA s.1), (3, nA (N.length - 1 - s.1))])
    (fun s H' => ∃ T, HF H [i] T [(i, .cells (s.2.map b8 ++ rest) opn)] H' ∧ RevK N s.2 s.1 ∧ s.1 + s.1 ≤ N.length) (fun s => N.length - s.1) (0, N) ?_ ⟨_, hF0.up (by rfl) (by simp only [next_bump]; omega), RevK.zero N, by omega⟩ (by show N.length - 0 < fuel; omega) ?_
  · exact .cons rfl <| .cons rfl <| .cons rfl <| .nil _
  · rintro ⟨k, M⟩ H2 ⟨T, hF2, hR, hk⟩
    simp only at hF2 hR hk ⊢
    have hM := hR.1
    repeat' (first | refine WK.seq ?_ | refine WK.skip ?_ | refine WK.exit ?_ | refine WK.block ?_ | (apply WK.reg; (· exact lnn)) | (apply WK.regd0; (· exact lnn)) | refine WKO.nil ?_ | ((first | apply WKO.op); (· first | exact k_mv rfl | exact k_ia1s rfl rfl (by omega) | (apply k_ldO; (· rfl); (· exact hF2); (· rfl); (· exact .head _); (· exact map_getR (by omega))) | exact opA); (· rfl)) | refine pN ?_ | refine pX ?_ | refine bX ?_ | (apply WK.condD; (· rfl); all_goals intro _) | fail)
    · refine WKO.stR (N := M) (p := k) (w := M.getD (N.length - 1 - k) 0) rfl rfl hF2 rfl nxx (.inl (by simp)) (by omega) ?_
      intro H3 hF3 hn3
      repeat' (first | ((first | apply WKO.op); (· first | exact k_ia1s rfl rfl (by omega)); (· rfl)) | fail)
      refine WKO.stR (N := M.set k (M.getD (N.length - 1 - k) 0)) (p := N.length - 1 - k) (w := M.getD k 0) rfl rfl hF3 rfl nxx (.inl (by simp)) (by rw [List.length_set]; omega) ?_
      intro H4 hF4 hn4
      repeat' (first | (apply WK.reg; (· exact lnn)) | refine WKO.nil ?_ | ((first | apply WKO.op); (· first | exact k_mv rfl | exact k_subN rfl rfl (by omega) (by omega) | exact opA); (· rfl)) | refine pN ?_ | refine bN ?_ | fail)
      refine ⟨(k + 1, _), ?_, ⟨T, hF4.up (by rfl) (by simp only [next_bump] at *; omega), hR.next (by omega), by show k + 1 + (k + 1) ≤ N.length; omega⟩, by show N.length - (k + 1) < N.length - k; omega⟩
      exact .cons rfl <| .cons rfl <| .cons (by rw [show N.length - 1 - (k + 1) = N.length - 1 - k - 1 by omega]; rfl) <| .nil _
    · have hd := hR.done (by omega)
      subst hd
      exact ⟨fun id q => (by cases q), [], rfl, hF2.obj _ (List.mem_cons_self ..), Nat.le_trans (Nat.le_trans hF2.base hF2.le) (by simp only [next_bump]; omega), fun q q1 q2 => hF2.fr q q1 (by simpa using q2)⟩
section
variable {cf : CF} {n a b : Nat} {H : AHeap} {l : KL0} {x y : XO}
theorem k_rem10 (hx : evK l x = some (u32 a)) : XV cf l H n (.bin .rem x (.k (.int .u32 (.ofNat 10)))) = some (u32 (a % 10), H) :=
  k_bin hx rfl (by
    simp only [u32_int, binA]
    rw [if_neg (by simp), if_neg (by decide), show (Int.ofNat 10) = ((10 : Nat) : Int) from rfl, ← Int.ofNat_tmod])
theorem k_quo10 (hx : evK l x = some (u32 a)) (h : a < B32) : XV cf l H n (.bin .quo x (.k (.int .u32 (.ofNat 10)))) = some (u32 (a / 10), H) :=
  k_bin hx rfl (by
    simp only [u32_int, binA]
    rw [if_neg (by simp), if_neg (by decide), show (a : Int).tdiv (Int.ofNat 10) = ((a / 10 : Nat) : Int) from (Int.ofNat_tdiv a 10).symm, wrap32, Nat.mod_eq_of_lt (Nat.lt_of_le_of_lt (Nat.div_le_self a 10) h)])
theorem k_add48 (hx : evK l x = some (u32 a)) (h : a < 1000) : XV cf l H n (.bin .add (.k (.int .u32 (.ofNat 48))) x) = some (u32 (48 + a), H) :=
  k_bin rfl hx (by
    simp only [u32_int, binA]
    rw [if_neg (by simp), show Int.ofNat 48 + (a : Int) = ((48 + a : Nat) : Int) by simp, wrap32, Nat.mod_eq_of_lt (Nat.lt_trans (show 48 + a < 2000 by omega) (by decide))])
theorem k_u32b (hx : evK l x = some (u32 a)) (h : a < 256) : XV cf l H n (.conv .u8 x) = some (b8 a, H) := by
  refine k_any ?_
  simp only [xval, xop, hx, u32_int, AR.ofV]
  have : wrapA .u8 (a : Int) = (a : Int) := by
    simp only [wrapA, IntKind.wrap, IntKind.bits, IntKind.signed]
    simp
    omega
  rw [this]
  rfl
theorem k_gtr32 (hx : evK l x = some (u32 a)) : XV cf l H n (.bin .gtr x (.k (.int .u32 (.ofNat 0)))) = some (.bool (decide (a > 0)), H) :=
  k_bin hx rfl (by
    simp only [u32_int, binA]
    rw [if_neg (by simp)]
    show some (AV.bool (decide ((a : Int) > Int.ofNat 0))) = _
    congr 2
    rw [Bool.eq_iff_iff]
    simp only [decide_eq_true_eq]
    show ((0 : Int) < a) ↔ (0 < a)
    omega)
theorem k_btsR {v : AV} {m : Nat} {N : List Nat} (hx : evK l x = some v) (hR : RowE 1 H v m (N.map b8)) (hd : ∀ z ∈ N, z < 256) : XV cf l H n (.bts x) = some (.str (N.map UInt8.ofNat), H) := by
  refine k_any ?_
  have hb : bytesA (N.map b8) = some (N.map UInt8.ofNat) := by
    clear hR
    induction N with
    | nil => rfl
    | cons z N ih =>
      have h1 := hd z (by simp)
      simp only [List.map_cons, bytesA, b8, ih (fun q hq => hd q (by simp [hq]))]
      simp
      try omega
  simp only [xval, xop, hx, hR.len]
  have hs := hR.src
  have hn := hR.nstr
  cases v <;> first | (simp only [hs, Option.bind_some, hb, Option.map_some, AR.ofV]; done) | exact absurd rfl (hn _)
end
end Go.Proofs.YtfcgofffalmdfaaDoor.PA
namespace Go.Proofs.YtfcgofffalmdfaaDoor.PA
open Go Go.Eng Go.Proofs
section
variable {cf : CF} {n m : Nat} {H H' : AHeap} {l : KL0} {x y : XO} {v val : AV} {cs : List AV} {r : List XOper} {R : KL0 → AHeap → Prop}
theorem WKO.ap1b {d1 d2 bytes : Nat} {z0 : AV} (hR : RowE 1 H v m cs) (hb : bytes ≤ 2 ^ 16) (hm : H'.m = H.m) (hn : H.next ≤ n) (hlt : n < H'.next) (hl : m < 1000000) (hy : evK l y = some val) (hc : val.cells = [val]) (ho : val.oneCell = true) (hx : evK ((d1, .sl n 0 1 1) :: l) x = some v)
    (k : ∀ v' H1, RowE 1 H1 v' (m + 1) (cs ++ [val]) → H'.next ≤ H1.next → WKO cf r (n + 1 + 1) ((d2, v') :: (d1, .sl n 0 1 1) :: l) H1 R) :
    WKO cf (⟨some d1, .bslice [z0] [(0, 1, y)] 1, none⟩ :: ⟨some d2, .app 1 bytes x (.t d1), none⟩ :: r) n l H' R := by
  have hR' : RowE 1 H' v m cs := hR.frame (by omega) (fun i _ => bump_get hm i)
  refine WKO.append1E (m := m) (v := v) (cs := cs) (new := [val]) hR' hx ?_ (by simp [allSm, XOp.opnds, hy]) (by omega) (by omega) hb rfl (by simp [ho]) hlt (fun e => ?_) (fun v' H1 q1 q2 q3 q4 => k v' H1 (.inl q1) q2)
  · simp only [evParts, hy, bind, Option.bind_some, fillA, hc]
    simp
  · have := hR.own_lt e
    omega
end
theorem big200 {n : Nat} (h : n < bigN) : n < 10 ^ 200 := by
  rw [bigN_def] at h
  exact Nat.lt_of_lt_of_le h (by show 4294967296 ^ 20 ≤ 10 ^ 200; decide)
theorem div9_lt {q k : Nat} (h : q < 10 ^ k) : q / 1000000000 < 10 ^ (k - 9) := by
  by_cases hk : 9 ≤ k
  · rw [Nat.div_lt_iff_lt_mul (by decide), show (1000000000 : Nat) = 10 ^ 9 from rfl, ← Nat.pow_add]
    rwa [Nat.sub_add_cancel hk]
  · have : 10 ^ k ≤ 10 ^ 9 := Nat.pow_le_pow_right (by decide) (by omega)
    rw [Nat.div_eq_of_lt (Nat.lt_of_lt_of_le h this)]
    exact Nat.pow_pos (by decide)
theorem limbs_pos_iff {n : Nat} : (limbs n).length > 0 ↔ n ≠ 0 := by
  have := @limbs_nil n
  omega
theorem bts_dig {n : Nat} : ∀ z ∈ (decR n).reverse, z < 256 := fun z hz => by
  have := decR_dig n z (by simpa using hz)
  omega
noncomputable def K67 : CF := fun f args H => match f, args with
  | 67, [x, .int .u32 (.ofNat 1000000000)] => (unDig x).bind fun n => if n < bigN then some (.tup [digA (limbs (n / 1000000000)), u32 (n % 1000000000)], H) else none
  | _, _ => none
theorem K67_ok : CFok Tryd.prog K67 := by
  intro f args H v H' h
  unfold K67 at h
  split at h
  · obtain ⟨n, h1, h⟩ := Option.bind_eq_some_iff.1 h
    split at h
    · rename_i hb
      cases h
      rw [unDig_some h1]
      have := byWord_call (n := n) (w := 1000000000) hb (by decide) (by decide) H
      rwa [u32_of 1000000000] at this
    · cases h
  · cases h
theorem K67_eq {n : Nat} (hn : n < bigN) (H : AHeap) : K67 67 [digI (limbs n), .int .u32 (.ofNat 1000000000)] H = some (.tup [digI (limbs (n / 1000000000)), u32 (n % 1000000000)], H) := by
  show (unDig (digI (limbs n))).bind _ = _
  rw [← digI_eq, unDig_V, Option.bind_some, if_pos hn, digI_eq]
set_option maxHeartbeats 4000000 in
theorem text_walk {cf : CF} {fuel : Nat} {H : AHeap} {n : Nat} (hn : n < bigN) (hf : 201 < fuel)
    (h67 : ∀ q, q < bigN → ∀ H, cf 67 [digI (limbs q), .int .u32 (.ofNat 1000000000)] H = some (.tup [digI (limbs (q / 1000000000)), u32 (q % 1000000000)], H))
    (h68 : ∀ (H : AHeap) (i c : Nat) (N : List Nat) (rest : List AV) (opn : Option Nat), 0 < N.length → N.length ≤ 200 → H.get i = some (.cells (N.map b8 ++ rest) opn) → i < H.next → ∃ v H', cf 68 [.sl i 0 N.length c] H = some (v, H') ∧ (H'.get i = some (.cells (N.reverse.map b8 ++ rest) opn) ∧ H.next ≤ H'.next ∧ ∀ q, q < H.next → q ≠ i → H'.get q = H.get q)) :
    ∃ v H', xfunc cf fuel L48 [digI (limbs n)] H = some (v, H') ∧ v = .str (decS n) := by
  refine xfunc_ofK rfl (by show 1 ≤ 45; omega) ?_
  unfold L48
  dsimp only
  repeat' (first | refine WK.seq ?_ | refine WK.skip ?_ | refine WK.ret ?_ | refine WK.block ?_ | (apply WK.reg; (· exact lnn)) | refine WKO.nil ?_ | ((first | apply WKO.op); (· first | exact k_mv rfl | exact k_lenD rfl | exact opA); (· rfl)) | refine pN ?_ | refine pR ?_ | (apply WK.condD; (· rfl); all_goals intro _) | fail)
  · have h0 : n = 0 := by
      have := @limbs_nil n
      omega
    subst h0
    exact ⟨fun id q => (by cases q), _, rfl, rfl⟩
  · have h0 : n ≠ 0 := by
      have := @limbs_nil n
      omega
    have hdl : (decR n).length ≤ 200 := decR_len 200 n (big200 hn)
    refine WK.loop (α := Nat × Nat × List Nat × AV) (fun s => [(0, digI (limbs s.2.1)), (3, s.2.2.2)])
      (fun s H' => s.2.1 < 10 ^ s.1 ∧ s.2.1 < bigN ∧ s.2.2.1 ++ decR s.2.1 = decR n ∧ RowE 1 H' s.2.2.2 s.2.2.1.length (s.2.2.1.map b8)) (fun s => s.1) (200, n, [], .nils) ?_ ⟨big200 hn, hn, rfl, .inl ⟨rfl, .inl ⟨rfl, rfl⟩⟩⟩ (by show 200 < fuel; omega) ?_
    · exact .cons rfl <| .cons rfl <| .nil _
    · rintro ⟨k, q, bs, u⟩ H2 ⟨hk, hq, hs, hR⟩
      simp only at hk hq hs hR ⊢
      have hbl : bs.length ≤ 200 := by
        have := congrArg List.length hs
        rw [List.length_append] at this
        omega
      repeat' (first | refine WK.seq ?_ | refine WK.skip ?_ | refine WK.exit ?_ | refine WK.block ?_ | (apply WK.reg; (· exact lnn)) | refine WKO.nil ?_ | ((first | apply WKO.op); (· first | exact k_mv rfl | exact k_lenD rfl | exact k_call rfl rfl (h67 _ hq _) | exact opA); (· rfl)) | refine pN ?_ | refine pX ?_ | refine bX ?_ | (apply WK.condD; (· rfl); all_goals intro _) | fail)
      · have hq0 : q ≠ 0 := limbs_pos_iff.1 (by assumption)
        have hk1 : k ≠ 0 := fun q0 => by rw [q0, Nat.pow_zero] at hk; omega
        refine WK.loop (α := Nat × Nat × List Nat × AV) (fun s => [(3, s.2.2.2), (4, digI (limbs (q / 1000000000))), (5, u32 s.2.1), (6, nA (9 - s.1))])
          (fun s H' => s.1 ≤ 9 ∧ s.2.1 < 10 ^ s.1 ∧ s.2.2.1 ++ decR (q / 1000000000 * 10 ^ s.1 + s.2.1) = decR n ∧ RowE 1 H' s.2.2.2 s.2.2.1.length (s.2.2.1.map b8)) (fun s => s.1) (9, q % 1000000000, bs, u) ?_ ⟨by show 9 ≤ 9; omega, Nat.mod_lt _ (by decide), ?_, hR.frame (by simp only [next_bump]; omega) (fun _ _ => rfl)⟩ (by show 9 < fuel; omega) ?_
        · exact .cons rfl <| .cons rfl <| .cons rfl <| .cons rfl <| .nil _
        · show bs ++ decR (q / 1000000000 * 1000000000 + q % 1000000000) = decR n
          rw [Nat.mul_comm, Nat.div_add_mod, hs]
        · rintro ⟨j, r, b2, u2⟩ H3 ⟨hj, hr, hs2, hR2⟩
          simp only at hj hr hs2 hR2 ⊢
          have hbl2 : b2.length ≤ 200 := by
            have := congrArg List.length hs2
            rw [List.length_append] at this
            omega
          have hr32 : r < B32 := by
            have : 10 ^ j ≤ 10 ^ 9 := Nat.pow_le_pow_right (by decide) hj
            have e1 : B32 = 4294967296 := rfl
            have e2 : (10 : Nat) ^ 9 = 1000000000 := rfl
            omega
          have hm10 : r % 10 < 10 := Nat.mod_lt _ (by decide)
          repeat' (first | refine WK.seq ?_ | refine WK.skip ?_ | refine WK.exit ?_ | refine WK.block ?_ | (apply WK.reg; (· exact lnn)) | refine WKO.nil ?_ | ((first | apply WKO.op | ((first | apply WKO.gop); (· rfl); (· exact dcd))); (· first | exact k_mv rfl | exact k_lenD rfl | exact k_gtr32 rfl | exact k_rem10 rfl | exact k_add48 rfl (by omega) | exact k_u32b rfl (by omega) | exact opA); (· rfl)) | ((first | apply WKO.gnoT | apply WKO.gnoF); (· rfl); (· exact dcd)) | ((first | apply WKO.gnu); (· rfl)) | ((first | apply WKO.gsp); (· rfl); all_goals ((fail_if_success (refine known ?_ ?_; (· assumption))); intro _)) | refine pN ?_ | refine pX ?_ | refine bX ?_ | (apply WK.condT; (· rfl); (· exact dcd)) | (apply WK.condF; (· rfl); (· exact dcd)) | (apply WK.condD; (· rfl); all_goals intro _) | fail)
          · refine WKO.ap1b (H := H3) (v := u2) (m := b2.length) (cs := b2.map b8) (val := b8 (48 + r % 10)) (hR2) (by decide) rfl (by simp only [next_bump]; omega) (by simp only [next_bump]; omega) (by omega) rfl rfl rfl rfl ?_
            intro u3 H4 hR4 hn4
            repeat' (first | (apply WK.reg; (· exact lnn)) | refine WKO.nil ?_ | ((first | apply WKO.op); (· first | exact k_mv rfl | exact k_quo10 rfl hr32 | exact opA); (· rfl)) | refine pN ?_ | refine bN ?_ | fail)
            have hj0 : j ≠ 0 := fun q0 => by omega
            obtain ⟨j', rfl⟩ : ∃ j', j = j' + 1 := ⟨j - 1, by omega⟩
            refine ⟨(j', r / 10, b2 ++ [48 + r % 10], u3), ?_, ⟨by show j' ≤ 9; omega, pow_lt_div hr, ?_, ?_⟩, by show j' < j' + 1; omega⟩
            · exact .cons rfl <| .cons rfl <| .cons rfl <| .cons (by rw [show 9 - j' = 9 - (j' + 1) + 1 by omega]; rfl) <| .nil _
            · show (b2 ++ [48 + r % 10]) ++ decR (q / 1000000000 * 10 ^ j' + r / 10) = decR n
              rw [List.append_assoc, ← hs2, decR_step (by exact .inl (limbs_pos_iff.1 (by assumption))) hr]
              rfl
            · have : RowE 1 H4 u3 (b2 ++ [48 + r % 10]).length ((b2 ++ [48 + r % 10]).map b8) := by
                simpa using hR4
              exact this.frame (by simp only [next_bump]; omega) (fun _ _ => rfl)
          · refine WKO.ap1b (H := H3) (v := u2) (m := b2.length) (cs := b2.map b8) (val := b8 (48 + r % 10)) (hR2) (by decide) rfl (by simp only [next_bump]; omega) (by simp only [next_bump]; omega) (by omega) rfl rfl rfl rfl ?_
            intro u3 H4 hR4 hn4
            repeat' (first | (apply WK.reg; (· exact lnn)) | refine WKO.nil ?_ | ((first | apply WKO.op); (· first | exact k_mv rfl | exact k_quo10 rfl hr32 | exact opA); (· rfl)) | refine pN ?_ | refine bN ?_ | fail)
            have hj0 : j ≠ 0 := fun q0 => by omega
            obtain ⟨j', rfl⟩ : ∃ j', j = j' + 1 := ⟨j - 1, by omega⟩
            refine ⟨(j', r / 10, b2 ++ [48 + r % 10], u3), ?_, ⟨by show j' ≤ 9; omega, pow_lt_div hr, ?_, ?_⟩, by show j' < j' + 1; omega⟩
            · exact .cons rfl <| .cons rfl <| .cons rfl <| .cons (by rw [show 9 - j' = 9 - (j' + 1) + 1 by omega]; rfl) <| .nil _
            · show (b2 ++ [48 + r % 10]) ++ decR (q / 1000000000 * 10 ^ j' + r / 10) = decR n
              rw [List.append_assoc, ← hs2, decR_step (by exact .inr (by omega)) hr]
              rfl
            · have : RowE 1 H4 u3 (b2 ++ [48 + r % 10]).length ((b2 ++ [48 + r % 10]).map b8) := by
                simpa using hR4
              exact this.frame (by simp only [next_bump]; omega) (fun _ _ => rfl)
          · refine ⟨fun _ => ?_, fun q => absurd rfl q⟩
            repeat' (first | (apply WK.reg; (· exact lnn)) | refine WKO.nil ?_ | ((first | apply WKO.op); (· first | exact k_mv rfl); (· rfl)) | refine pN ?_ | refine bN ?_ | fail)
            have hz : q / 1000000000 * 10 ^ j + r = q / 1000000000 := by
              have hQ := @limbs_nil (q / 1000000000)
              by_cases hj0 : j = 0
              · subst hj0
                rw [Nat.pow_zero] at hr ⊢
                omega
              · rw [show q / 1000000000 = 0 by omega, show r = 0 by omega, Nat.zero_mul]
            exact ⟨(k - 9, q / 1000000000, b2, u2), .cons rfl <| .cons rfl <| .nil _, ⟨div9_lt hk, Nat.lt_of_le_of_lt (Nat.div_le_self _ _) hq, by rw [← hs2, hz], hR2.frame (by simp only [next_bump]; omega) (fun _ _ => rfl)⟩, by show k - 9 < k; omega⟩
          · refine ⟨fun _ => ?_, fun q => absurd rfl q⟩
            repeat' (first | (apply WK.reg; (· exact lnn)) | refine WKO.nil ?_ | ((first | apply WKO.op); (· first | exact k_mv rfl); (· rfl)) | refine pN ?_ | refine bN ?_ | fail)
            have hz : q / 1000000000 * 10 ^ j + r = q / 1000000000 := by
              have hQ := @limbs_nil (q / 1000000000)
              by_cases hj0 : j = 0
              · subst hj0
                rw [Nat.pow_zero] at hr ⊢
                omega
              · rw [show q / 1000000000 = 0 by omega, show r = 0 by omega, Nat.zero_mul]
            exact ⟨(k - 9, q / 1000000000, b2, u2), .cons rfl <| .cons rfl <| .nil _, ⟨div9_lt hk, Nat.lt_of_le_of_lt (Nat.div_le_self _ _) hq, by rw [← hs2, hz], hR2.frame (by simp only [next_bump]; omega) (fun _ _ => rfl)⟩, by show k - 9 < k; omega⟩
      · refine ⟨fun _ => ?_, fun q => absurd rfl q⟩
        have hq0 : q = 0 := by
          have := @limbs_nil q
          omega
        subst hq0
        rw [decR_zero, List.append_nil] at hs
        subst hs
        have hpos : 0 < (decR n).length := by rw [decR_pos h0]; exact Nat.zero_lt_succ _
        rcases hR with ⟨_, ⟨_, q0⟩ | ⟨i, full, rfl, hg, hfu, hfl, hi⟩⟩ | ⟨q0, _⟩
        · omega
        · have hfull : full = (decR n).map b8 ++ full.drop (decR n).length := by
            have := List.take_append_drop ((decR n).length * 1) full
            rw [hfu, Nat.mul_one] at this
            exact this.symm
          repeat' (first | refine WK.seq ?_ | (apply WK.reg; (· exact lnn)) | ((first | apply WKO.op); (· first | exact k_mv rfl); (· rfl)) | fail)
          refine WKO.callV rfl rfl rfl (h68 _ i _ (decR n) (full.drop (decR n).length) _ hpos hdl (by rw [← hfull]; exact hg) (by simp only [next_bump]; omega)) ?_
          rintro v H4 ⟨g4, n4, _⟩
          have hR4 : RowE 1 H4 (.sl i 0 (decR n).length openCap) (decR n).reverse.length ((decR n).reverse.map b8) := by
            rw [List.length_reverse]
            exact .inl ⟨by simp, .inr ⟨i, _, rfl, g4, by rw [Nat.mul_one, List.take_append_of_le_length (by simp), List.take_of_length_le (by simp)], by simp, by simp only [next_bump] at n4; omega⟩⟩
          repeat' (first | refine WK.seq ?_ | refine WK.ret ?_ | (apply WK.reg; (· exact lnn)) | refine WKO.nil ?_ | ((first | apply WKO.op); (· first | exact k_mv rfl | exact k_btsR rfl (hR4.frame (by simp only [next_bump]; omega) (fun _ _ => rfl)) bts_dig); (· rfl)) | refine pN ?_ | fail)
          exact ⟨fun id q => (by cases q), _, rfl, by unfold decS decL; rw [if_neg h0]; rfl⟩
        · omega
theorem text_call {n : Nat} (hn : n < bigN) (H : AHeap) : CallOK Tryd.prog 48 [digA (limbs n)] H (.str (decS n)) H := by
  obtain ⟨v, H', h, rfl⟩ := text_walk (cf := xcallK K67 F 3000 1) (fuel := 3000) (H := ⟨.e, 0⟩) hn (by omega) (fun q hq H => cfhit (K67_eq hq H))
    (fun H i c N rest opn q1 q2 q3 q4 => by
      obtain ⟨v', H', h1, h2⟩ := rev_ok (cf := xcallK K67 F 3000 0) (fuel := 3000) (c := c) q1 (by omega) q3 q4 (by omega)
      exact ⟨v', H', (cfstep rfl rfl).trans h1, h2⟩)
  have h2 := xcallK_sound mixed K67_ok F_ok 3000 2 48 _ _ _ _ ((cfstep rfl rfl).trans h)
  rw [← digI_eq] at h2
  exact h2.pure (by simp [AV.frozL, digA_froz]) (.str _)
end Go.Proofs.YtfcgofffalmdfaaDoor.PA
namespace Go.Proofs.YtfcgofffalmdfaaDoor.PA
open Go Go.Eng Go.Proofs
abbrev ratA (n : Nat) : AV := .agg [.bool false, digA (limbs n), .bool false, digA (limbs 1)]
theorem ratA_froz (n : Nat) : (ratA n).froz = true := by simp only [ratA, AV.froz, AV.frozL, digA_froz, Bool.and_self]
theorem from_walk (n : Nat) : ∃ v H', xfunc (xcallK KN F 2000 0) 2000 L31 [intA n] ⟨.e, 0⟩ = some (v, H') ∧ v = ratA n := by
  refine xfunc_ofK rfl (by show 1 ≤ 6; omega) ?_
  have hF := HF.start ⟨.e, 0⟩
  generalize (⟨.e, 0⟩ : AHeap) = H at hF ⊢
  unfold L31
  dsimp only
  repeat' (first | refine WK.seq ?_ | (apply WK.reg; (· exact lnn)) | (refine WK.regC1 3 rfl rfl rfl ?_ ; dsimp only [List.take_succ_cons, List.take_zero]) | (apply WKO.boxO; (· rfl); (· assumption); (· rfl); (· exact nxx); (· exact nxx); (· exact nxx); intro _ _ _) | (apply WKO.alO; (· assumption); (· rfl); (· exact nxx); (· exact nxx); (· exact nxx); intro _ _ _) | refine WKC.nil ?_ | refine WKO.nil ?_ | ((first | apply WKC.op); (· first | exact k_call rfl rfl (cfhit (KN_36 (by decide) _)) | (apply k_ldA; (· rfl); (· assumption); (· rfl); (· exact mmb); (· first | rfl)) | exact opA); (· rfl)) | refine pN ?_ | fail)
  rename_i H1 hF1 hn1
  refine WKO.stW0 (vs := [.bool false, digA (limbs n), .bool false, digA (limbs 1)]) rfl rfl hF1 rfl nxx (.inr nxx) rfl rfl (by simp only [List.all_cons, List.all_nil, digA_one, Bool.and_true]; rfl) rfl ?_
  intro H9 hF9 hn9
  repeat' (first | refine WK.ret ?_ | refine WKO.nil ?_ | refine pN ?_ | fail)
  exact ⟨fun id q => (by cases q), _, resK_obj rfl (HF.obj hF9 _ (.head _)) rfl, rfl⟩
theorem from_call (n : Nat) (H : AHeap) : CallOK Tryd.prog 31 [intA n] H (ratA n) H := by
  obtain ⟨v, H', h, rfl⟩ := from_walk n
  have h2 := xcallK_sound mixed KN_ok F_ok 2000 1 31 _ _ _ _ ((cfstep rfl rfl).trans h)
  exact h2.pure (by simp [AV.frozL, AV.froz, digA_froz]) (Fz.froz (ratA_froz n))
theorem limbs_one : limbs 1 = [1] := by rw [limbs_pos (by decide), show 1 / B32 = 0 by decide, limbs_zero]; rfl
theorem k_eq32 {cf : CF} {n a : Nat} {H : AHeap} {l : KL0} {x : XO} (hx : evK l x = some (u32 a)) : XV cf l H n (.bin .eql x (.k (.int .u32 (.ofNat 1)))) = some (.bool (decide (a = 1)), H) :=
  k_bin hx rfl (by
    simp only [u32_int, binA]
    rw [if_neg (by simp)]
    show some (AV.bool ((a : Int) == Int.ofNat 1)) = _
    congr 2
    rw [Bool.eq_iff_iff]
    simp only [beq_iff_eq, decide_eq_true_eq]
    show ((a : Int) = (1 : Int)) ↔ a = 1
    omega)
theorem int_walk (n : Nat) : ∃ v H', xfunc (xcallK KN F 2000 0) 2000 L49 [ratA n] ⟨.e, 0⟩ = some (v, H') ∧ v = .bool true := by
  refine xfunc_ofK rfl (by show 1 ≤ 16; omega) ?_
  have hF := HF.start ⟨.e, 0⟩
  generalize (⟨.e, 0⟩ : AHeap) = H at hF ⊢
  have hd : digA (limbs 1) = digI [1] := by rw [digI_eq, limbs_one]
  unfold ratA
  rw [hd]
  unfold L49
  dsimp only
  repeat' (first | refine WK.seq ?_ | refine WK.ret ?_ | (apply WK.reg; (· exact lnn)) | (apply WKO.boxO; (· rfl); (· assumption); (· rfl); (· exact nxx); (· exact nxx); (· exact nxx); intro _ _ _) | refine WKO.nil ?_ | ((first | apply WKO.op | ((first | apply WKO.gop); (· rfl); (· exact dcd))); (· first | exact k_mv rfl | exact k_lenD rfl | exact k_iaD rfl rfl (by decide) | exact k_ldD rfl (by decide) | exact k_eq32 rfl | (apply k_ldO; (· rfl); (· assumption); (· rfl); (· exact mmb); (· rfl)) | exact k_faddr rfl | exact opA); (· rfl)) | refine pN ?_ | fail)
  exact ⟨fun id q => (by cases q), _, rfl, rfl⟩
theorem int_call (n : Nat) (H : AHeap) : CallOK Tryd.prog 49 [ratA n] H (.bool true) H := by
  obtain ⟨v, H', h, rfl⟩ := int_walk n
  have h2 := xcallK_sound mixed KN_ok F_ok 2000 1 49 _ _ _ _ ((cfstep rfl rfl).trans h)
  exact h2.pure (by simp only [AV.frozL, ratA_froz, Bool.and_self]) (.bool _)
noncomputable def unRat (v : AV) : Option Nat := match v with
  | .agg [.bool false, x, .bool false, y] => (unDig x).bind fun n => (unDig y).bind fun m => if m = 1 then some n else none
  | _ => none
theorem unRat_V (n : Nat) : unRat (ratA n) = some n := by
  simp only [unRat, unDig_V, Option.bind_some, if_true]
theorem unRat_some {v : AV} {n : Nat} (h : unRat v = some n) : v = ratA n := by
  unfold unRat at h
  split at h
  · obtain ⟨a, h1, h⟩ := Option.bind_eq_some_iff.1 h
    obtain ⟨b, h2, h⟩ := Option.bind_eq_some_iff.1 h
    split at h
    · rename_i hb
      cases h
      rw [unDig_some h1, unDig_some h2, hb]
    · cases h
  · cases h
noncomputable def KTx : CF := fun f args H => match f, args with
  | 48, [x] => (unDig x).bind fun n => if n < bigN then some (.str (decS n), H) else none
  | 49, [x] => (unRat x).map fun n => (.bool true, H)
  | _, _ => none
theorem KTx_ok : CFok Tryd.prog KTx := by
  intro f args H v H' h
  unfold KTx at h
  split at h
  · obtain ⟨n, h1, h⟩ := Option.bind_eq_some_iff.1 h
    split at h
    · rename_i hb
      cases h
      rw [unDig_some h1]
      exact text_call hb H
    · cases h
  · obtain ⟨n, h1, h2⟩ := Option.map_eq_some_iff.1 h
    cases h2
    rw [unRat_some h1]
    exact int_call n H
  · cases h
theorem KTx_48 {n : Nat} (hn : n < bigN) (H : AHeap) : KTx 48 [digA (limbs n)] H = some (.str (decS n), H) := by
  show (unDig (digA (limbs n))).bind _ = _
  rw [unDig_V, Option.bind_some, if_pos hn]
theorem KTx_49 (n : Nat) (H : AHeap) : KTx 49 [ratA n] H = some (.bool true, H) := by
  show (unRat (ratA n)).map _ = _
  rw [unRat_V]; rfl
theorem decS_len {n : Nat} (hn : n < bigN) : (decS n).length ≤ 200 := by
  unfold decS decL
  rw [List.length_map]
  split
  · exact Nat.le_trans (Nat.le_refl 1) (by decide)
  · rw [List.length_reverse]; exact decR_len 200 n (big200 hn)
theorem Num_walk {n : Nat} (hn : n < bigN) : ∃ v H', xfunc (xcallK KTx F 2000 0) 2000 L32 [ratA n] ⟨.e, 0⟩ = some (v, H') ∧ v = .tup [.str (decS n), .int .i64 0] := by
  refine xfunc_ofK rfl (by show 1 ≤ 32; omega) ?_
  have hF := HF.start ⟨.e, 0⟩
  generalize (⟨.e, 0⟩ : AHeap) = H at hF ⊢
  have hl := decS_len hn
  unfold L32
  dsimp only
  repeat' (first | refine WK.seq ?_ | refine WK.skip ?_ | refine WK.ret ?_ | (apply WK.reg; (· exact lnn)) | (apply WKO.boxO; (· rfl); (· assumption); (· rfl); (· exact nxx); (· exact nxx); (· exact nxx); intro _ _ _) | refine WKO.nil ?_ | ((first | apply WKO.op); (· first | exact k_mv rfl | exact k_call rfl rfl (cfhit (KTx_48 hn _)) | exact k_call rfl rfl (cfhit (KTx_49 n _)) | exact k_slen rfl | (apply k_ldO; (· rfl); (· assumption); (· rfl); (· exact mmb); (· rfl)) | (apply k_ldA; (· rfl); (· assumption); (· rfl); (· exact mmb); (· first | rfl)) | exact k_faddr rfl | exact opA); (· rfl)) | refine pN ?_ | refine pR ?_ | (apply WK.condT; (· rfl); (· exact dcd)) | (apply WK.condF; (· rfl); (· exact dcd)) | fail)
  exact ⟨fun id q => (by cases q), _, rfl, rfl⟩
theorem Num_call {n : Nat} (hn : n < bigN) (H : AHeap) : CallOK Tryd.prog 32 [ratA n] H (.tup [.str (decS n), .int .i64 0]) H := by
  obtain ⟨v, H', h, rfl⟩ := Num_walk hn
  have h2 := xcallK_sound mixed KTx_ok F_ok 2000 1 32 _ _ _ _ ((cfstep rfl rfl).trans h)
  exact h2.pure (by simp only [AV.frozL, ratA_froz, Bool.and_self]) (Fz.froz rfl)
end Go.Proofs.YtfcgofffalmdfaaDoor.PA
namespace Go.Proofs.YtfcgofffalmdfaaDoor.PA
open Go Go.Eng Go.Proofs
section
variable {cf : CF} {n : Nat} {H0 H H' : AHeap} {mod : List Nat} {T : Nat} {fs : List (Nat × AObj)} {l : KL0} {R : KL0 → AHeap → Prop} {r : List XOper}
theorem WKO.stI0 {i m : Nat} {c1 c2 : AV} {opn : Option Nat} {a x : XO} (ha : evK l a = some (.ptr i 0)) (hx : evK l x = some (intA m)) (hF : HF H0 mod T ((i, .cells [c1, c2] opn) :: fs) H) (hm : H'.m = H.m) (hn : H.next ≤ H'.next) (hi : i ∈ mod ∨ H0.next ≤ i)
    (k : ∀ H1, HF H0 mod T ((i, .cells [.bool false, digA (limbs m)] opn) :: fs) H1 → H1.next = H'.next → WKO cf r (n + 1) l H1 R) : WKO cf (⟨none, .store 2 a x, none⟩ :: r) n l H' R :=
  WKO.stO0 ha hx hF hm hn hi rfl (by simp only [AV.cells, List.all_cons, List.all_nil, digA_one, Bool.and_true]; rfl) (Nat.le_refl _) k
theorem WKO.stI1 {f1 : Nat × AObj} {i m : Nat} {c1 c2 : AV} {opn : Option Nat} {a x : XO} (ha : evK l a = some (.ptr i 0)) (hx : evK l x = some (intA m)) (hF : HF H0 mod T (f1 :: (i, .cells [c1, c2] opn) :: fs) H) (hm : H'.m = H.m) (hn : H.next ≤ H'.next) (hi : i ∈ mod ∨ H0.next ≤ i)
    (k : ∀ H1, HF H0 mod T (f1 :: (i, .cells [.bool false, digA (limbs m)] opn) :: fs) H1 → H1.next = H'.next → WKO cf r (n + 1) l H1 R) : WKO cf (⟨none, .store 2 a x, none⟩ :: r) n l H' R :=
  WKO.stO1 ha hx hF hm hn hi rfl (by simp only [AV.cells, List.all_cons, List.all_nil, digA_one, Bool.and_true]; rfl) (Nat.le_refl _) k
end
theorem sum_take {l : List Nat} {i : Nat} (h : i < l.length) : (l.take (i + 1)).sum = (l.take i).sum + l.getD i 0 := by
  rw [List.take_add_one, List.sum_append, List.getElem?_eq_getElem h, List.getD_eq_getElem?_getD, List.getElem?_eq_getElem h]
  simp
theorem sum_take_le (l : List Nat) (i : Nat) : (l.take i).sum ≤ l.sum := by
  have := congrArg List.sum (List.take_append_drop i l)
  rw [List.sum_append] at this
  omega
theorem getD_le_sum {l : List Nat} {i : Nat} (h : i < l.length) : l.getD i 0 ≤ l.sum := by
  have h1 := sum_take h
  have h2 := sum_take_le l (i + 1)
  omega
set_option maxHeartbeats 1000000 in
theorem total_walk {l : List Nat} (hl : l.length < 400) (hs : l.sum < bigN) : ∃ v H', xfunc (xcallK KN F 2000 0) 2000 L35 [rowI l] ⟨.e, 0⟩ = some (v, H') ∧ v = intA l.sum := by
  refine xfunc_ofK rfl (by show 1 ≤ 18; omega) ?_
  have hF := HF.start ⟨.e, 0⟩
  generalize (⟨.e, 0⟩ : AHeap) = H at hF ⊢
  unfold L35
  dsimp only
  repeat' (first | refine WK.seq ?_ | refine WK.block ?_ | (apply WK.reg; (· exact lnn)) | ((apply WKO.stI0; (· rfl); (· rfl); (· assumption); (· rfl); (· exact nxx); (· exact .inr nxx); intro _ _ _)) | (apply WKO.alO; (· assumption); (· rfl); (· exact nxx); (· exact nxx); (· exact nxx); intro _ _ _) | refine WKO.nil ?_ | ((first | apply WKO.op); (· first | exact k_mv rfl | exact k_call rfl rfl (cfhit (KN_36 (by decide) _)) | exact k_lenE rfl (rowI_rd H _)); (· rfl)) | refine pN ?_ | fail)
  rename_i H1 hF1 hn1 H2 hF2 hn2 H3 hF3 hn3
  refine WK.loop (α := Nat) (fun i => [(2, .ptr H.next 0), (3, .ptr (H1.next + 1) 0), (7, rowI l), (8, nA l.length), (9, nA i)])
    (fun i H' => ∃ T, HF H [] T [(H1.next + 1, .cells [.bool false, digA (limbs (l.take i).sum)] none), (H.next, .cells [.bool false, .nils] none)] H' ∧ i ≤ l.length) (fun i => l.length - i) 0 (.cons rfl <| .cons rfl <| .cons rfl <| .cons rfl <| .cons rfl <| .nil _) ⟨_, hF3.up rfl (by simp only [next_bump]; omega), Nat.zero_le _⟩ (by show l.length - 0 < 2000; omega) ?_
  rintro i H4 ⟨T, hF4, hi⟩
  have hb4 := hF4.base
  have hle4 := hF4.le
  clear hF hF1 hF2 hF3
  have hp3 : H.next ≤ H1.next + 1 := by simp only [next_bump] at hn1; omega
  have hadd : i < l.length → (l.take i).sum < bigN ∧ l.getD i 0 < bigN := fun h => ⟨by have := sum_take_le l i; omega, by have := getD_le_sum h; omega⟩
  repeat' (first | refine WK.seq ?_ | refine WK.skip ?_ | refine WK.ret ?_ | refine WK.exit ?_ | refine WK.block ?_ | (apply WK.reg; (· exact lnn)) | ((apply WKO.stI0; (· rfl); (· rfl); (· assumption); (· rfl); (· exact nxx); (· first | exact .inr nxx); intro _ _ _)) | ((apply WKO.stI1; (· rfl); (· rfl); (· assumption); (· rfl); (· exact nxx); (· first | exact .inr nxx); intro _ _ _)) | (apply WKO.alO; (· assumption); (· rfl); (· exact nxx); (· exact nxx); (· exact nxx); intro _ _ _) | refine WKO.nil ?_ | ((first | apply WKO.op); (· first | exact k_mv rfl | exact k_iaE rfl rfl (rowI_rd H4 _) (by omega) | exact k_ldI rfl (rowI_rd H4 _) rfl (by omega) | exact k_call rfl rfl (cfhit (KN_38 (hadd (by omega)).1 (hadd (by omega)).2 _)) | (apply k_ldA; (· rfl); (· assumption); (· rfl); (· exact mmb); (· first | rfl)) | exact opA); (· rfl)) | refine pN ?_ | refine pX ?_ | refine bN ?_ | refine bX ?_ | (apply WK.condD; (· rfl); all_goals intro _) | fail)
  · rename_i h0 _ _ _ _ _ _ H7 hF7 hn7
    refine ⟨i + 1, (.cons rfl <| .cons rfl <| .cons rfl <| .cons rfl <| .cons rfl <| .nil _), ⟨H7.next, ?_, by show i + 1 ≤ l.length; omega⟩, by show l.length - (i + 1) < l.length - i; omega⟩
    rw [sum_take h0]
    exact (hF7.sub (.cons _ (.refl _)) hF7.le (Nat.le_refl _)).up rfl (by simp only [next_bump]; omega)
  · rename_i H7 hF7 hn7
    have hil : i = l.length := by omega
    subst hil
    rw [List.take_length] at hF7
    exact ⟨fun id q => (by cases q), _, resK_obj rfl (hF7.obj _ (.tail _ (.head _))) rfl, rfl⟩
theorem total_call {l : List Nat} (hl : l.length < 400) (hs : l.sum < bigN) (H : AHeap) : CallOK Tryd.prog 35 [rowI l] H (intA l.sum) H := by
  obtain ⟨v, H', h, rfl⟩ := total_walk hl hs
  have h2 := xcallK_sound mixed KN_ok F_ok 2000 1 35 _ _ _ _ ((cfstep rfl rfl).trans h)
  rw [← rowI_V, ← intA_V] at h2 ⊢
  exact h2.pure (by simp only [AV.frozL, RowV_froz, Bool.and_self]) (Fz.froz (IntV_froz _))
end Go.Proofs.YtfcgofffalmdfaaDoor.PA
namespace Go.Proofs.YtfcgofffalmdfaaDoor.PA
open Go Go.Eng Go.Proofs
noncomputable def KAl : CF := fun f args H =>
  if f = 31 then (match args with
    | [x] => (unInt x).map fun n => (ratA n, H)
    | _ => none) else
  if f = 32 then (match args with
    | [x] => (unRat x).bind fun n => if n < bigN then some (.tup [.str (decS n), .int .i64 0], H) else none
    | _ => none) else
  if f = 35 then (match args with
    | [x] => (unRow x).bind fun l => if l.length < 400 ∧ l.sum < bigN then some (intA l.sum, H) else none
    | _ => none) else KM f args H
theorem KAl_ok : CFok Tryd.prog KAl := by
  intro f args H v H' h
  unfold KAl at h
  split at h
  · rename_i hf
    subst hf
    split at h
    · obtain ⟨n, h1, h2⟩ := Option.map_eq_some_iff.1 h
      cases h2
      rw [unInt_some h1, intA_V]
      exact from_call n H
    · cases h
  · split at h
    · rename_i hf
      subst hf
      split at h
      · obtain ⟨n, h1, h⟩ := Option.bind_eq_some_iff.1 h
        split at h
        · rename_i hb
          cases h
          rw [unRat_some h1]
          exact Num_call hb H
        · cases h
      · cases h
    · split at h
      · rename_i hf
        subst hf
        split at h
        · obtain ⟨l, h1, h⟩ := Option.bind_eq_some_iff.1 h
          split at h
          · rename_i hb
            cases h
            rw [unRow_some h1, rowI_V]
            exact total_call hb.1 hb.2 H
          · cases h
        · cases h
      · exact KM_ok _ _ _ _ _ h
theorem KAl_31 (n : Nat) (H : AHeap) : KAl 31 [intA n] H = some (ratA n, H) := by
  unfold KAl
  rw [if_pos rfl]
  simp only [unInt_A, Option.map_some]
theorem KAl_32 {n : Nat} (hn : n < bigN) (H : AHeap) : KAl 32 [ratA n] H = some (.tup [.str (decS n), .int .i64 0], H) := by
  unfold KAl
  rw [if_neg (by decide), if_pos rfl]
  simp only [unRat_V, Option.bind_some, if_pos hn]
theorem KAl_35 {l : List Nat} (h1 : l.length < 400) (h2 : l.sum < bigN) (H : AHeap) : KAl 35 [rowI l] H = some (intA l.sum, H) := by
  unfold KAl
  rw [if_neg (by decide), if_neg (by decide), if_pos rfl]
  simp only
  rw [← rowI_V, unRow_V, Option.bind_some, if_pos ⟨h1, h2⟩]
theorem KAl_KM {f : Nat} {args : List AV} {H : AHeap} (h1 : f ≠ 31) (h2 : f ≠ 32) (h3 : f ≠ 35) : KAl f args H = KM f args H := by
  unfold KAl
  rw [if_neg h1, if_neg h2, if_neg h3]
def AllV (s : List UInt8) (l : List (Int × Int)) (gap : Int) : List UInt8 × Int := if readE s l gap = 0 then (decS (szF s (rulesOf l) gap 0 s.length).sum, 0) else ([], readE s l gap)
def SizesV (s : List UInt8) (l : List (Int × Int)) (gap : Int) : List Nat × Int := if readE s l gap = 0 then (szF s (rulesOf l) gap 0 s.length, 0) else ([], readE s l gap)
def strC (l : List Nat) : List AV := l.map fun n => .str (decS n)
theorem szF_le (s : List UInt8) (rl : List Bool) (gap : Int) (h : s.length ≤ 40) : (szF s rl gap 0 s.length).length < 400 ∧ (szF s rl gap 0 s.length).sum < bigN := by
  have h1 := lenN_le (mayF s rl gap) (s.length - 0) 0
  have h2 := sizesN_sum (mayF s rl gap) (s.length - 0) 0 (by omega)
  have h3 := pow8 (n := s.length - 0) (by omega)
  unfold lenN at h1
  unfold szF
  exact ⟨by omega, by omega⟩
theorem All_walk (s : List UInt8) (l : List (Int × Int)) (gap : Int) : ∃ v H', xfunc (xcallK KAl F 2000 1) 2000 L22 [.str s, pairsI l, .int .i64 gap] ⟨.e, 0⟩ = some (v, H') ∧ v = .tup [.str (AllV s l gap).1, .int .i64 (AllV s l gap).2] := by
  refine xfunc_ofK rfl (by show 3 ≤ 29; omega) ?_
  unfold L22
  dsimp only
  repeat' (first | refine WK.seq ?_ | (apply WK.reg; (· exact lnn)) | refine WKO.nil ?_ | ((first | apply WKO.op); (· first | exact k_mv rfl); (· rfl)) | refine pN ?_ | fail)
  obtain ⟨v, H1, h1, hq⟩ := KM_24 s l gap ((⟨.e, 0⟩ : AHeap).bump 2 |>.bump 9)
  refine WKO.callV rfl rfl rfl ⟨v, H1, cfhit ((KAl_KM (by decide) (by decide) (by decide)).trans h1), hq⟩ ?_
  rintro v H1 (⟨hE, rfl⟩ | ⟨hE, R, kn, fn, rfl, g1, g2, g3, g4, g5, g6⟩)
  · have hV : AllV s l gap = ([], readE s l gap) := by unfold AllV; rw [if_neg hE]
    rw [hV]
    repeat' (first | refine WK.seq ?_ | refine WK.ret ?_ | (apply WK.reg; (· exact lnn)) | refine WKO.nil ?_ | ((first | apply WKO.op); (· first | exact k_mv rfl | exact k_neE rfl | exact opA); (· rfl)) | refine pN ?_ | refine pR ?_ | (apply WK.condT; (· rfl); (· exact dcd)) | fail)
    exact ⟨fun id q => (by cases q), _, rfl, rfl⟩
  · have hV : AllV s l gap = (decS (szF s (rulesOf l) gap 0 s.length).sum, 0) := by unfold AllV; rw [if_pos hE]
    obtain ⟨hP, hG⟩ := read_good hE g1 g2 g3 g4 g5 g6
    have hsl := hP.sl
    obtain ⟨z1, z2⟩ := szF_le s (rulesOf l) gap hsl
    rw [hV]
    repeat' (first | refine WK.seq ?_ | refine WK.skip ?_ | (apply WK.reg; (· exact lnn)) | refine WKO.nil ?_ | ((first | apply WKO.op); (· first | exact k_mv rfl | exact k_neE rfl | exact opA); (· rfl)) | refine pN ?_ | (apply WK.condF; (· rfl); (· exact dcd)) | fail)
    refine WKO.callV rfl rfl rfl (show ∃ v H', xcallK KAl F 2000 1 29 [.ptr R 0] ((H1.bump 2).bump 11) = some (v, H') ∧ _ from by
      obtain ⟨v, H', q1, q2⟩ := whole_ok (cf := xcallK KAl F 2000 0) (fuel := 2000) (H := (H1.bump 2).bump 11) (R := R) (c := ropeA s (rulesOf l) gap (.map kn) (.map fn)) (s := s) g1 rfl (by simp only [next_bump]; omega) (by omega)
      exact ⟨v, H', (cfstep ((KAl_KM (by decide) (by decide) (by decide)).trans (KM_none (by decide) (by decide) (by decide))) rfl).trans q1, q2⟩) ?_
    rintro v2 H2 ⟨rfl, hn2, hk2⟩
    have hG2 : GoodF s (rulesOf l) gap R kn fn H2 := (hG.up (H' := (H1.bump 2).bump 11) (by simp only [next_bump]; omega) rfl rfl rfl).up hn2 (hk2 R (by simp only [next_bump]; omega)) (hk2 kn (by have := hG.g.kn; simp only [next_bump]; omega)) (hk2 fn (by have := hG.fnl; simp only [next_bump]; omega))
    obtain ⟨v3, H3, e3, q3⟩ := KM_28 hP (i := 0) (j := s.length) (Nat.zero_le _) (Nat.le_refl _) hG2.g
    refine WKO.callV rfl rfl rfl ⟨v3, H3, cfhit ((KAl_KM (by decide) (by decide) (by decide)).trans e3), q3⟩ ?_
    rintro v3 H3 ⟨rfl, _, _, _⟩
    repeat' (first | refine WK.ret ?_ | refine WKO.nil ?_ | ((first | apply WKO.op); (· first | exact k_mv rfl | exact k_call rfl rfl (cfhit (KAl_35 z1 z2 _)) | exact k_call rfl rfl (cfhit (KAl_31 _ _)) | exact k_call rfl rfl (cfhit (KAl_32 z2 _)) | exact opA); (· rfl)) | refine pN ?_ | fail)
    exact ⟨fun id q => (by cases q), _, rfl, rfl⟩
theorem All_call (s : List UInt8) (l : List (Int × Int)) (gap : Int) (H : AHeap) : CallOK Tryd.prog 22 [.str s, pairsI l, .int .i64 gap] H (.tup [.str (AllV s l gap).1, .int .i64 (AllV s l gap).2]) H := by
  obtain ⟨v, H', h, rfl⟩ := All_walk s l gap
  exact CallOK.pure (xfunc_sound mixed (xcallK_sound mixed KAl_ok F_ok 2000 1) 2000 (F_ok 22 L22 rfl) h) (by simp only [AV.frozL, pairs_froz, AV.froz, Bool.and_self]) (Fz.froz rfl)
theorem Sizes_walk (s : List UInt8) (l : List (Int × Int)) (gap : Int) : ∃ v H', xfunc (xcallK KAl F 2000 1) 2000 L19 [.str s, pairsI l, .int .i64 gap] ⟨.e, 0⟩ = some (v, H') ∧ ∃ u, v = .tup [u, .int .i64 (SizesV s l gap).2] ∧ RowE 1 H' u (SizesV s l gap).1.length (strC (SizesV s l gap).1) := by
  refine xfunc_ofK rfl (by show 3 ≤ 49; omega) ?_
  unfold L19
  dsimp only
  repeat' (first | refine WK.seq ?_ | (apply WK.reg; (· exact lnn)) | refine WKO.nil ?_ | ((first | apply WKO.op); (· first | exact k_mv rfl); (· rfl)) | refine pN ?_ | fail)
  obtain ⟨v, H1, h1, hq⟩ := KM_24 s l gap ((⟨.e, 0⟩ : AHeap).bump 2 |>.bump 9)
  refine WKO.callV rfl rfl rfl ⟨v, H1, cfhit ((KAl_KM (by decide) (by decide) (by decide)).trans h1), hq⟩ ?_
  rintro v H1 (⟨hE, rfl⟩ | ⟨hE, R, kn, fn, rfl, g1, g2, g3, g4, g5, g6⟩)
  · have hV : SizesV s l gap = ([], readE s l gap) := by unfold SizesV; rw [if_neg hE]
    rw [hV]
    repeat' (first | refine WK.seq ?_ | refine WK.ret ?_ | (apply WK.reg; (· exact lnn)) | refine WKO.nil ?_ | ((first | apply WKO.op); (· first | exact k_mv rfl | exact k_neE rfl | exact opA); (· rfl)) | refine pN ?_ | refine pR ?_ | (apply WK.condT; (· rfl); (· exact dcd)) | fail)
    exact ⟨fun id q => (by cases q), _, rfl, _, rfl, .inl ⟨rfl, .inl ⟨rfl, rfl⟩⟩⟩
  · have hV : SizesV s l gap = (szF s (rulesOf l) gap 0 s.length, 0) := by unfold SizesV; rw [if_pos hE]
    obtain ⟨hP, hG⟩ := read_good hE g1 g2 g3 g4 g5 g6
    have hsl := hP.sl
    obtain ⟨z1, z2⟩ := szF_le s (rulesOf l) gap hsl
    rw [hV]
    repeat' (first | refine WK.seq ?_ | refine WK.skip ?_ | (apply WK.reg; (· exact lnn)) | refine WKO.nil ?_ | ((first | apply WKO.op); (· first | exact k_mv rfl | exact k_neE rfl | exact opA); (· rfl)) | refine pN ?_ | (apply WK.condF; (· rfl); (· exact dcd)) | fail)
    refine WKO.callV rfl rfl rfl (show ∃ v H', xcallK KAl F 2000 1 29 [.ptr R 0] (((H1.bump 2).bump 1).bump 6) = some (v, H') ∧ _ from by
      obtain ⟨v, H', q1, q2⟩ := whole_ok (cf := xcallK KAl F 2000 0) (fuel := 2000) (H := ((H1.bump 2).bump 1).bump 6) (R := R) (c := ropeA s (rulesOf l) gap (.map kn) (.map fn)) (s := s) g1 rfl (by simp only [next_bump]; omega) (by omega)
      exact ⟨v, H', (cfstep ((KAl_KM (by decide) (by decide) (by decide)).trans (KM_none (by decide) (by decide) (by decide))) rfl).trans q1, q2⟩) ?_
    rintro v2 H2 ⟨rfl, hn2, hk2⟩
    have hG2 : GoodF s (rulesOf l) gap R kn fn H2 := (hG.up (H' := ((H1.bump 2).bump 1).bump 6) (by simp only [next_bump]; omega) rfl rfl rfl).up hn2 (hk2 R (by simp only [next_bump]; omega)) (hk2 kn (by have := hG.g.kn; simp only [next_bump]; omega)) (hk2 fn (by have := hG.fnl; simp only [next_bump]; omega))
    obtain ⟨v3, H3, e3, q3⟩ := KM_28 hP (i := 0) (j := s.length) (Nat.zero_le _) (Nat.le_refl _) hG2.g
    refine WKO.callV rfl rfl rfl ⟨v3, H3, cfhit ((KAl_KM (by decide) (by decide) (by decide)).trans e3), q3⟩ ?_
    rintro v3 H3 ⟨rfl, _, _, _⟩
    generalize szF s (rulesOf l) gap 0 s.length = L at z1 z2 ⊢
    repeat' (first | refine WK.block ?_ | refine WKO.nil ?_ | ((first | apply WKO.op); (· first | exact k_mv rfl | exact k_lenE rfl (rowI_rd H3 _)); (· rfl)) | refine pN ?_ | fail)
    refine WK.loop (α := Nat × AV) (fun t => [(10, t.2), (28, rowI L), (29, nA L.length), (30, nA t.1)]) (fun t H' => RowE 1 H' t.2 t.1 (strC (L.take t.1)) ∧ t.1 ≤ L.length) (fun t => L.length - t.1) (0, .nils) (.cons rfl <| .cons rfl <| .cons rfl <| .cons rfl <| .nil _) ⟨.inl ⟨rfl, .inl ⟨rfl, rfl⟩⟩, Nat.zero_le _⟩ (by show L.length - 0 < 2000; omega) ?_
    rintro ⟨i, u⟩ H4 ⟨hR, hi⟩
    simp only at hR hi ⊢
    have hF4 := HF.start H4
    have hb : i < L.length → L.getD i 0 < bigN := fun h => by have := getD_le_sum h; omega
    repeat' (first | refine WK.seq ?_ | refine WK.skip ?_ | refine WK.exit ?_ | refine WK.block ?_ | (apply WK.reg; (· exact lnn)) | ((apply WKO.alO; (· assumption); (· rfl); (· exact nxx); (· exact nxx); (· exact nxx); intro _ _ _)) | ((apply WKO.stI0; (· rfl); (· rfl); (· assumption); (· rfl); (· exact nxx); (· exact .inr nxx); intro _ _ _)) | refine WKO.nil ?_ | ((first | apply WKO.op); (· first | exact k_mv rfl | (apply k_ldA; (· rfl); (· assumption); (· rfl); (· exact mmb); (· rfl)) | exact k_iaE rfl rfl (rowI_rd H4 _) (by omega) | exact k_ldI rfl (rowI_rd H4 _) rfl (by omega) | exact k_call rfl rfl (cfhit (KAl_31 _ _)) | exact k_call rfl rfl (cfhit (KAl_32 (hb (by omega)) _)) | exact k_neE rfl | exact opA); (· rfl)) | refine pN ?_ | refine pX ?_ | refine bX ?_ | (apply WK.condF; (· rfl); (· exact dcd)) | (apply WK.condD; (· rfl); all_goals intro _) | fail)
    · rename_i h0 _ _ _ H5 hF5 hn5
      have hR5 : RowE 1 H5 u i (strC (L.take i)) := hR.frame (Nat.le_trans hF5.base hF5.le) (fun q hq => hF5.fr q (hR.own_lt hq) (by simp))
      refine WKO.ap1b (H := H5) (v := u) (m := i) (cs := strC (L.take i)) (val := .str (decS (L.getD i 0))) hR5 (by decide) rfl (by simp only [next_bump]; omega) (by simp only [next_bump]; omega) (by omega) rfl rfl rfl rfl ?_
      intro u6 H6 hR6 hn6
      repeat' (first | (apply WK.reg; (· exact lnn)) | refine WKO.nil ?_ | ((first | apply WKO.op); (· first | exact k_mv rfl | exact opA); (· rfl)) | refine pN ?_ | refine bN ?_ | fail)
      refine ⟨(i + 1, u6), (.cons rfl <| .cons rfl <| .cons rfl <| .cons rfl <| .nil _), ⟨?_, by show i + 1 ≤ L.length; omega⟩, by show L.length - (i + 1) < L.length - i; omega⟩
      have e : strC (L.take (i + 1)) = strC (L.take i) ++ [.str (decS (L.getD i 0))] := by
        rw [List.take_add_one, List.getElem?_eq_getElem h0, List.getD_eq_getElem?_getD, List.getElem?_eq_getElem h0]
        simp only [strC, List.map_append, Option.toList_some, List.map_cons, List.map_nil, Option.getD_some]
      simp only
      rw [e]
      exact hR6.frame (by simp only [next_bump]; omega) (fun _ _ => rfl)
    · refine ⟨fun _ => ?_, fun q => absurd rfl q⟩
      repeat' (first | refine WK.seq ?_ | refine WK.ret ?_ | (apply WK.reg; (· exact lnn)) | refine WKO.nil ?_ | ((first | apply WKO.op); (· first | exact k_mv rfl); (· rfl)) | refine pN ?_ | fail)
      have hil : i = L.length := by omega
      subst hil
      rw [List.take_length] at hR
      exact ⟨fun id q => (by cases q), _, rfl, _, rfl, hR.frame (by simp only [next_bump]; omega) (fun _ _ => rfl)⟩
def strI (l : List Nat) : AV := .imm (strC l) l.length false
theorem strC_froz (l : List Nat) : AV.frozL (strC l) = true := by
  refine frozL_iff.2 fun x hx => ?_
  obtain ⟨n, _, rfl⟩ := List.mem_map.1 hx
  rfl
theorem strI_froz (l : List Nat) : (strI l).froz = true := by simp only [strI, AV.froz]; exact strC_froz l
theorem strI_fz {H H'' : AHeap} {N : Nat → Prop} {v : AV} {l : List Nat} (h : RowE 1 H v l.length (strC l)) (hn : ∀ i, v.own = some i → H''.get i = none) : Fz H H'' N v (strI l) := by
  rcases h with ⟨_, ⟨rfl, h0⟩ | ⟨i, full, rfl, hg, hf, hfl, hi⟩⟩ | ⟨h0, h1, i, rfl, h2, h3⟩
  · have : l = [] := List.eq_nil_of_length_eq_zero h0
    subst this
    exact .fnil
  · refine .fsl (k := l.length * 1) (hn i rfl) hg (by rw [List.drop_zero, hf]) (fun j x y hx hy => ?_) (fun h0 => ?_)
    · rw [List.drop_zero, hf] at hx
      rw [hx] at hy
      cases hy
      exact Fz.frozL (strC_froz l) j x hx
    · rw [List.eq_nil_of_length_eq_zero h0]; rfl
  · have : l = [] := List.eq_nil_of_length_eq_zero h0
    subst this
    exact .fsl (k := 0) (hn i rfl) h3 rfl (fun j x y hx hy => by simp at hx) (fun _ => rfl)
theorem Sizes_call (s : List UInt8) (l : List (Int × Int)) (gap : Int) (H : AHeap) : CallOK Tryd.prog 19 [.str s, pairsI l, .int .i64 gap] H (.tup [strI (SizesV s l gap).1, .int .i64 (SizesV s l gap).2]) H := by
  obtain ⟨v, H', h, u, rfl, hR⟩ := Sizes_walk s l gap
  refine CallOK.pure (xfunc_sound mixed (xcallK_sound mixed KAl_ok F_ok 2000 1) 2000 (F_ok 19 L19 rfl) h) (by simp only [AV.frozL, pairs_froz, AV.froz, Bool.and_self]) (.tup rfl (fun j x y hx hy => ?_))
  match j, hx, hy with
  | 0, hx, hy => cases hx; cases hy; exact strI_fz hR (fun i _ => get_e0 i)
  | 1, hx, hy => cases hx; cases hy; exact .int _ _
end Go.Proofs.YtfcgofffalmdfaaDoor.PA
namespace Go.Proofs.YtfcgofffalmdfaaDoor.PA
open Go Go.Eng Go.Proofs
theorem bytes_froz (bs : List Nat) : AV.frozL (bs.map bA) = true := by
  refine frozL_iff.2 fun x hx => ?_
  obtain ⟨n, _, rfl⟩ := List.mem_map.1 hx
  rfl
theorem pairsI_fz {H H'' : AHeap} {N : Nat → Prop} {v : AV} {l : List (Int × Int)} (h : RowE 2 H v l.length (encPairs l)) (hn : ∀ i, v.own = some i → H''.get i = none) : Fz H H'' N v (pairsI l) := by
  have hp := pairs_froz l
  simp only [pairsI, AV.froz] at hp
  rcases h with ⟨_, ⟨rfl, h0⟩ | ⟨i, full, rfl, hg, hf, hfl, hi⟩⟩ | ⟨h0, h1, i, rfl, h2, h3⟩
  · have : l = [] := List.eq_nil_of_length_eq_zero h0
    subst this
    exact .fnil
  · refine .fsl (k := l.length * 2) (hn i rfl) hg (by rw [List.drop_zero, hf]) (fun j x y hx hy => ?_) (fun h0 => ?_)
    · rw [List.drop_zero, hf] at hx
      rw [hx] at hy
      cases hy
      exact Fz.frozL hp j x hx
    · rw [List.eq_nil_of_length_eq_zero h0]; rfl
  · have : l = [] := List.eq_nil_of_length_eq_zero h0
    subst this
    exact .fsl (k := 0) (hn i rfl) h3 rfl (fun j x y hx hy => by simp at hx) (fun _ => rfl)
theorem made_pure {P : Int} {g : Nat} {bs : List Nat} (hg : g < 256) (hbs : ∀ b ∈ bs, b < 256) {m : Nat} (hm : m ≤ 40) (H : AHeap) :
    ∃ (s : List UInt8) (l : List (Int × Int)) (gap : Int), CallOK Tryd.prog 15 [.agg (cordA P g bs), nA m] H (.tup [.str s, pairsI l, .int .i64 gap]) H ∧ readE s l gap = 0 ∧ s.length ≤ m := by
  obtain ⟨v, H', h, s, l, gap, u, rfl, hR, hE, _, _, hl⟩ := RMade_ok (cf := xcallK Kno F 2000 0) (fuel := 2000) (H := ⟨.e, 0⟩) (P := P) hg hbs hm (by omega)
  have h2 := xcallK_sound mixed Kno_ok F_ok 2000 1 15 _ _ _ _ ((cfstep rfl rfl).trans h)
  refine ⟨s, l, gap, h2.pure (by simp only [AV.frozL, AV.froz, cordA, bytes_froz, nA, bA, Bool.and_self]) (.tup rfl (fun j x y hx hy => ?_)), hE, hl⟩
  match j, hx, hy with
  | 0, hx, hy => cases hx; cases hy; exact .str _
  | 1, hx, hy => cases hx; cases hy; exact pairsI_fz hR (fun i _ => get_e0 i)
  | 2, hx, hy => cases hx; cases hy; exact .int _ _
theorem Most_pure (s : List UInt8) (l : List (Int × Int)) (gap : Int) (H : AHeap) : CallOK Tryd.prog 16 [.str s, pairsI l, .int .i64 gap] H (.tup [nA (MostV s l gap).1, .int .i64 (MostV s l gap).2]) H := by
  obtain ⟨H', h⟩ := Most_call s l gap
  exact h.pure (by simp only [AV.frozL, pairs_froz, AV.froz, Bool.and_self]) (Fz.froz rfl)
theorem pairsI_inj {a b : List (Int × Int)} (h : pairsI a = pairsI b) : a = b := by
  simp only [pairsI, AV.imm.injEq] at h
  exact encPairs_inj h.1
open Classical in
noncomputable def unP (v : AV) : Option (List (Int × Int)) := if h : ∃ l, v = pairsI l then some h.choose else none
theorem unP_V (l : List (Int × Int)) : unP (pairsI l) = some l := by
  have h : ∃ m, pairsI l = pairsI m := ⟨l, rfl⟩
  unfold unP
  rw [dif_pos h]
  exact congrArg some (pairsI_inj h.choose_spec).symm
theorem unP_some {v : AV} {l : List (Int × Int)} (h : unP v = some l) : v = pairsI l := by
  unfold unP at h
  split at h
  · rename_i q
    cases h
    exact q.choose_spec
  · cases h
theorem nA_inj {a b : Nat} (h : nA a = nA b) : a = b := by
  simp only [nA, AV.int.injEq, true_and] at h
  omega
open Classical in
noncomputable def KR : CF := fun f args H =>
  if f = 15 then (if h : ∃ (r : List UInt8 × List (Int × Int) × Int), CallOK Tryd.prog 15 args H (.tup [.str r.1, pairsI r.2.1, .int .i64 r.2.2]) H ∧ readE r.1 r.2.1 r.2.2 = 0 ∧ ∀ c m, args = [c, nA m] → r.1.length ≤ m then some (.tup [.str h.choose.1, pairsI h.choose.2.1, .int .i64 h.choose.2.2], H) else none) else
  match f, args with
  | 9, [] => some (.bool true, H)
  | 16, [.str s, P, .int .i64 gap] => (unP P).map fun l => (.tup [nA (MostV s l gap).1, .int .i64 (MostV s l gap).2], H)
  | 19, [.str s, P, .int .i64 gap] => (unP P).map fun l => (.tup [strI (SizesV s l gap).1, .int .i64 (SizesV s l gap).2], H)
  | 22, [.str s, P, .int .i64 gap] => (unP P).map fun l => (.tup [.str (AllV s l gap).1, .int .i64 (AllV s l gap).2], H)
  | _, _ => none
theorem KR_ok : CFok Tryd.prog KR := by
  intro f args H v H' h
  unfold KR at h
  split at h
  · rename_i hf
    subst hf
    split at h
    · rename_i q
      cases h
      exact q.choose_spec.1
    · cases h
  · split at h
    · cases h
      exact lives_call H
    · obtain ⟨l, h1, h2⟩ := Option.map_eq_some_iff.1 h
      cases h2
      rw [unP_some h1]
      exact Most_pure _ l _ H
    · obtain ⟨l, h1, h2⟩ := Option.map_eq_some_iff.1 h
      cases h2
      rw [unP_some h1]
      exact Sizes_call _ l _ H
    · obtain ⟨l, h1, h2⟩ := Option.map_eq_some_iff.1 h
      cases h2
      rw [unP_some h1]
      exact All_call _ l _ H
    · cases h
theorem KR_15 {P : Int} {g : Nat} {bs : List Nat} (hg : g < 256) (hbs : ∀ b ∈ bs, b < 256) {m : Nat} (hm : m ≤ 40) (H : AHeap) :
    ∃ (s : List UInt8) (l : List (Int × Int)) (gap : Int), KR 15 [.agg (cordA P g bs), nA m] H = some (.tup [.str s, pairsI l, .int .i64 gap], H) ∧ readE s l gap = 0 ∧ s.length ≤ m := by
  obtain ⟨s, l, gap, h1, h2, h3⟩ := made_pure (P := P) hg hbs hm H
  have q : ∃ (r : List UInt8 × List (Int × Int) × Int), CallOK Tryd.prog 15 [.agg (cordA P g bs), nA m] H (.tup [.str r.1, pairsI r.2.1, .int .i64 r.2.2]) H ∧ readE r.1 r.2.1 r.2.2 = 0 ∧ ∀ c m', [AV.agg (cordA P g bs), nA m] = [c, nA m'] → r.1.length ≤ m' := ⟨(s, l, gap), h1, h2, fun c m' e => by
    simp only [List.cons.injEq, and_true] at e
    rw [← nA_inj e.2]
    exact h3⟩
  obtain ⟨h4, h5, h6⟩ := q.choose_spec
  exact ⟨_, _, _, (by unfold KR; rw [if_pos rfl, dif_pos q]), h5, h6 _ _ rfl⟩
theorem KR_9 (H : AHeap) : KR 9 [] H = some (.bool true, H) := rfl
section
variable (s : List UInt8) {l : List (Int × Int)} {gap : Int} (H : AHeap)
theorem KR_16 (h : readE s l gap = 0) : KR 16 [.str s, pairsI l, .int .i64 gap] H = some (.tup [nA (mostF s (rulesOf l) gap 0 s.length), .int .i64 0], H) := by
  show (unP (pairsI l)).map _ = _
  rw [unP_V, Option.map_some]
  unfold MostV
  simp only [h, if_true]
theorem KR_19 (h : readE s l gap = 0) : KR 19 [.str s, pairsI l, .int .i64 gap] H = some (.tup [strI (szF s (rulesOf l) gap 0 s.length), .int .i64 0], H) := by
  show (unP (pairsI l)).map _ = _
  rw [unP_V, Option.map_some]
  unfold SizesV
  simp only [h, if_true]
end
end Go.Proofs.YtfcgofffalmdfaaDoor.PA
namespace Go.Proofs.YtfcgofffalmdfaaDoor.PA
open Go Go.Eng Go.Proofs
section
variable {cf : CF} {n a b : Nat} {H : AHeap} {l : KL0} {x y : XO} {s : List UInt8}
theorem k_scFT {z : XO} (hx : evK l x = some (.str s)) (hy : evK l y = some (nA a)) (hz : evK l z = some (nA b)) (h : a ≤ b) (h2 : b ≤ s.length) : XV cf l H n (.scut x (some y) (some z)) = some (.str ((s.drop a).take (b - a)), H) := by
  have e : bndA s.length (nA b) = some b := bndA_nat h2
  have e2 : bndA b (nA a) = some a := bndA_nat h
  exact k_any (by simp only [xval, xop, scutA, bounds, obnd, hiBnd, hx, hy, hz, Option.bind_some, e, e2, AR.ofV])
end
end Go.Proofs.YtfcgofffalmdfaaDoor.PA
namespace Go.Proofs.YtfcgofffalmdfaaDoor.PA
open Go Go.Eng Go.Proofs
theorem k_neqSS {cf : CF} {n : Nat} {H : AHeap} {l : KL0} {x y : XO} {s : List UInt8} (hx : evK l x = some (.str s)) (hy : evK l y = some (.str s)) : XV cf l H n (.bin .neq x y) = some (.bool false, H) :=
  k_bin hx hy (by simp [binA, strA])
theorem strC_get {l : List Nat} {i : Nat} (h : i < l.length) : (strC l)[i * 1]? = some (.str (decS (l.getD i 0))) := by
  rw [Nat.mul_one, strC, List.getElem?_map, List.getElem?_eq_getElem h, List.getD_eq_getElem?_getD, List.getElem?_eq_getElem h]
  rfl
theorem same_ok {cf : CF} {fuel : Nat} {H : AHeap} (l : List Nat) (hl : l.length < 400) (hf : l.length < fuel) : ∃ v H', xfunc cf fuel L20 [strI l, strI l] H = some (v, H') ∧ v = .bool true := by
  refine xfunc_ofK rfl (by show 2 ≤ 26; omega) ?_
  unfold L20
  dsimp only
  have hlen : ∀ {cf : CF} {n : Nat} {H : AHeap} {K : KL0} {x : XO}, evK K x = some (strI l) → XV cf K H n (.len x) = some (nA l.length, H) := fun hx => k_lenL hx rfl
  repeat' (first | refine WK.seq ?_ | refine WK.skip ?_ | refine WK.block ?_ | (apply WK.reg; (· exact lnn)) | refine WKO.nil ?_ | ((first | apply WKO.op); (· first | exact k_mv rfl | exact hlen rfl | exact opA); (· rfl)) | refine pN ?_ | (apply WK.condF; (· rfl); (· exact dcd)) | fail)
  refine WK.loop (α := Nat) (fun i => [(0, strI l), (1, strI l), (5, nA i)]) (fun i H' => i ≤ l.length) (fun i => l.length - i) 0 (.cons rfl <| .cons rfl <| .cons rfl <| .nil _) (Nat.zero_le _) (by show l.length - 0 < fuel; omega) ?_
  intro i H4 hi
  repeat' (first | refine WK.seq ?_ | refine WK.skip ?_ | refine WK.ret ?_ | refine WK.exit ?_ | refine WK.block ?_ | (apply WK.reg; (· exact lnn)) | (apply WK.regC; (· rfl); (· exact lnn); (· decide)) | refine WKC.nil ?_ | refine WKO.nil ?_ | ((first | apply WKC.op | apply WKO.op); (· first | exact k_mv rfl | exact hlen rfl | exact k_iaM rfl rfl (by omega) | exact k_ldP rfl (strC_get (by omega)) | exact k_neqSS rfl rfl | exact opA); (· rfl)) | refine pN ?_ | refine pX ?_ | refine bN ?_ | refine bX ?_ | (apply WK.condF; (· rfl); (· exact dcd)) | (apply WK.condD; (· rfl); all_goals intro _) | fail)
  · exact ⟨i + 1, (.cons rfl <| .cons rfl <| .cons rfl <| .nil _), by show i + 1 ≤ l.length; omega, by show l.length - (i + 1) < l.length - i; omega⟩
  · exact ⟨fun id q => (by cases q), _, rfl, rfl⟩
open Classical in
noncomputable def K6 : CF := fun f args H => if f = 20 then (if ∃ l, l.length < 400 ∧ args = [strI l, strI l] then some (.bool true, H) else none) else KR f args H
theorem K6_ok : CFok Tryd.prog K6 := by
  intro f args H v H' h
  unfold K6 at h
  split at h
  · rename_i hf
    subst hf
    split at h
    · rename_i q
      cases h
      obtain ⟨l, hl, rfl⟩ := q
      obtain ⟨v, H', h1, rfl⟩ := same_ok (cf := xcallK Kno F 2000 0) (fuel := 2000) (H := ⟨.e, 0⟩) l hl (by omega)
      exact (xcallK_sound mixed Kno_ok F_ok 2000 1 20 _ _ _ _ ((cfstep rfl rfl).trans h1)).pure (by simp only [AV.frozL, strI_froz, Bool.and_self]) (.bool _)
    · cases h
  · exact KR_ok _ _ _ _ _ h
theorem K6_20 {l : List Nat} (hl : l.length < 400) (H : AHeap) : K6 20 [strI l, strI l] H = some (.bool true, H) := by
  unfold K6
  rw [if_pos rfl, if_pos ⟨l, hl, rfl⟩]
theorem K6_KR {f : Nat} {args : List AV} {H : AHeap} (h : f ≠ 20) : K6 f args H = KR f args H := by
  unfold K6
  rw [if_neg h]
theorem rev_drop {s : List UInt8} {k : Nat} (h : k < s.length) : (s.drop (k + 1)).reverse ++ (s.drop k).take (k + 1 - k) = (s.drop k).reverse := by
  rw [Nat.add_sub_cancel_left, List.drop_eq_getElem_cons h, List.reverse_cons]
  rfl
theorem readE_rev (s : List UInt8) (l : List (Int × Int)) (gap : Int) : readE s.reverse l gap = readE s l gap := by
  unfold readE
  rw [List.length_reverse, List.all_reverse]
set_option maxHeartbeats 2000000 in
theorem x6r {P : Int} {g : Nat} {bs : List Nat} (hg : g < 256) (hbs : ∀ b ∈ bs, b < 256) (hlaw : ∀ (s : List UInt8) (l : List (Int × Int)) (gap : Int), readE s l gap = 0 → szF s.reverse (rulesOf l) gap 0 s.reverse.length = szF s (rulesOf l) gap 0 s.length) :
    ∃ v H', xfunc (xcallK K6 F 3000 1) 3000 L6 [.agg (cordA P g bs)] ⟨.e, 0⟩ = some (v, H') ∧ v = .bool true := by
  refine xfunc_ofK rfl (by show 1 ≤ 91; omega) ?_
  have hF := HF.start ⟨.e, 0⟩
  generalize hHe : (⟨.e, 0⟩ : AHeap) = H at hF ⊢
  unfold L6
  dsimp only
  repeat' (first | refine WK.seq ?_ | (apply WK.reg; (· exact lnn)) | (apply WKO.boxO; (· rfl); (· assumption); (· rfl); (· exact nxx); (· exact nxx); (· exact nxx); intro _ _ _) | refine WKO.nil ?_ | ((first | apply WKO.op); (· first | exact k_mv rfl | (apply k_ldA; (· rfl); (· assumption); (· rfl); (· exact mmb); (· first | rfl))); (· rfl)) | refine pN ?_ | fail)
  rename_i H1 hF1 hn1
  refine WKO.callV rfl rfl rfl (show ∃ v H', xcallK K6 F 3000 1 15 [.agg (cordA P g bs), nA 40] (H1.bump 9) = some (v, H') ∧ ∃ (s : List UInt8) (l : List (Int × Int)) (gap : Int), v = .tup [.str s, pairsI l, .int .i64 gap] ∧ H' = (H1.bump 9) ∧ readE s l gap = 0 from by
    obtain ⟨s, l, gap, q1, q2, q3⟩ := KR_15 (P := P) hg hbs (m := 40) (by omega) (H1.bump 9)
    exact ⟨_, _, cfhit ((K6_KR (by decide)).trans q1), s, l, gap, rfl, rfl, q2⟩) ?_
  rintro v2 H2 ⟨s, l, gap, rfl, rfl, hE⟩
  have hE' : readE s.reverse l gap = 0 := (readE_rev s l gap).trans hE
  have hsl := (readE_zero hE).1
  have hz := hlaw s l gap hE
  have hm : mostF s.reverse (rulesOf l) gap 0 s.reverse.length = mostF s (rulesOf l) gap 0 s.length := by
    unfold mostF lenN
    unfold szF at hz
    rw [hz]
  have h16 : ∀ {H' : AHeap} {k : Nat}, xcallK K6 F 3000 k 16 [.str s, pairsI l, .int .i64 gap] H' = some (.tup [nA (mostF s (rulesOf l) gap 0 s.length), .int .i64 0], H') := fun {H' k} => cfhit ((K6_KR (by decide)).trans (KR_16 s H' hE))
  have h16' : ∀ {H' : AHeap} {k : Nat}, xcallK K6 F 3000 k 16 [.str s.reverse, pairsI l, .int .i64 gap] H' = some (.tup [nA (mostF s (rulesOf l) gap 0 s.length), .int .i64 0], H') := fun {H' k} => by rw [← hm]; exact cfhit ((K6_KR (by decide)).trans (KR_16 s.reverse H' hE'))
  have h19 : ∀ {H' : AHeap} {k : Nat}, xcallK K6 F 3000 k 19 [.str s, pairsI l, .int .i64 gap] H' = some (.tup [strI (szF s (rulesOf l) gap 0 s.length), .int .i64 0], H') := fun {H' k} => cfhit ((K6_KR (by decide)).trans (KR_19 s H' hE))
  have h19' : ∀ {H' : AHeap} {k : Nat}, xcallK K6 F 3000 k 19 [.str s.reverse, pairsI l, .int .i64 gap] H' = some (.tup [strI (szF s (rulesOf l) gap 0 s.length), .int .i64 0], H') := fun {H' k} => by rw [← hz]; exact cfhit ((K6_KR (by decide)).trans (KR_19 s.reverse H' hE'))
  have h20 : ∀ {H' : AHeap} {k : Nat}, xcallK K6 F 3000 k 20 [strI (szF s (rulesOf l) gap 0 s.length), strI (szF s (rulesOf l) gap 0 s.length)] H' = some (.bool true, H') := cfhit (K6_20 (szF_le s _ gap hsl).1 _)
  have h9 : ∀ {H' : AHeap} {k : Nat}, xcallK K6 F 3000 k 9 [] H' = some (.bool true, H') := cfhit ((K6_KR (by decide)).trans (KR_9 _))
  repeat' (first | refine WK.seq ?_ | refine WK.block ?_ | (apply WK.reg; (· exact lnn)) | refine WKO.nil ?_ | ((first | apply WKO.op); (· first | exact k_mv rfl | exact k_slen rfl | exact k_subM rfl (by omega) | exact opA); (· rfl)) | refine pN ?_ | fail)
  refine WK.loop (α := Nat) (fun i => [(3, .str s), (4, pairsI l), (5, .int .i64 gap), (6, .str (s.drop i).reverse), (7, zA ((i : Int) - 1))]) (fun i H' => i ≤ s.length) (fun i => i) s.length ?_ (Nat.le_refl _) (by show s.length < 3000; omega) ?_
  · rw [List.drop_length]
    exact .cons rfl <| .cons rfl <| .cons rfl <| .cons rfl <| .cons rfl <| .nil _
  · intro i H4 hi
    cases i with
    | zero =>
      rw [List.drop_zero]
      repeat' (first | refine WK.seq ?_ | refine WK.ret ?_ | refine WK.exit ?_ | (apply WK.reg; (· exact lnn)) | refine WKO.nil ?_ | ((first | apply WKO.op | ((first | apply WKO.gop); (· rfl); (· exact dcd))); (· first | exact k_mv rfl | exact k_geqM rfl | (apply k_call; (· rfl); (· rfl); (· exact h16)) | (apply k_call; (· rfl); (· rfl); (· exact h16')) | (apply k_call; (· rfl); (· rfl); (· exact h19)) | (apply k_call; (· rfl); (· rfl); (· exact h19')) | (apply k_call; (· rfl); (· rfl); (· exact h20)) | (apply k_call; (· rfl); (· rfl); (· exact h9)) | exact k_eqlN rfl rfl | exact opA); (· rfl)) | refine pN ?_ | refine pX ?_ | refine bX ?_ | (apply WK.condF; (· rfl); (· exact dcd)) | fail)
      exact ⟨fun id q => (by cases q), _, rfl, rfl⟩
    | succ k =>
      rw [zA_nat]
      repeat' (first | refine WK.seq ?_ | refine WK.skip ?_ | refine WK.block ?_ | (apply WK.reg; (· exact lnn)) | refine WKO.nil ?_ | ((first | apply WKO.op); (· first | exact k_mv rfl | exact k_geqT rfl | exact k_scFT rfl rfl rfl (by omega) (by omega) | exact k_catS rfl rfl (by simp only [List.length_reverse, List.length_take, List.length_drop]; omega) | exact k_subM rfl (by omega) | exact opA); (· rfl)) | refine pN ?_ | refine bN ?_ | (apply WK.condT; (· rfl); (· exact dcd)) | fail)
      refine ⟨k, ?_, by show k ≤ s.length; omega, by show k < k + 1; omega⟩
      exact .cons rfl <| .cons rfl <| .cons rfl <| .cons (by rw [← rev_drop (show k < s.length by omega)]; rfl) <| .cons rfl <| .nil _
end Go.Proofs.YtfcgofffalmdfaaDoor.PA
namespace Go.Proofs.YtfcgofffalmdfaaDoor.PA
def sg (f : Nat → Nat) : Nat → Nat
  | 0 => 0
  | n + 1 => sg f n + f n
theorem sg_congr {f g : Nat → Nat} : ∀ {n : Nat}, (∀ k, k < n → f k = g k) → sg f n = sg g n
  | 0, _ => rfl
  | n + 1, h => by rw [sg, sg, sg_congr (fun k hk => h k (by omega)), h n (by omega)]
theorem sg_add (f g : Nat → Nat) : ∀ n, sg (fun k => f k + g k) n = sg f n + sg g n
  | 0 => rfl
  | n + 1 => by rw [sg, sg, sg, sg_add f g n]; omega
theorem sg_mul (c : Nat) (f : Nat → Nat) : ∀ n, sg (fun k => c * f k) n = c * sg f n
  | 0 => rfl
  | n + 1 => by rw [sg, sg, sg_mul c f n, Nat.mul_add]
theorem sg_mulr (c : Nat) (f : Nat → Nat) (n : Nat) : sg (fun k => f k * c) n = sg f n * c := by
  rw [Nat.mul_comm, ← sg_mul]
  exact sg_congr fun k _ => Nat.mul_comm _ _
theorem sg_zero : ∀ (n : Nat), sg (fun _ => 0) n = 0
  | 0 => rfl
  | n + 1 => by rw [sg, sg_zero n]
theorem sg_comm (f : Nat → Nat → Nat) (m : Nat) : ∀ n, sg (fun i => sg (fun j => f i j) m) n = sg (fun j => sg (fun i => f i j) n) m
  | 0 => by simp only [sg]; rw [sg_zero]
  | n + 1 => by
    rw [sg, sg_comm f m n, ← sg_add]
    rfl
theorem sg_ext {f : Nat → Nat} {n : Nat} (h : ∀ k, n ≤ k → f k = 0) : ∀ m, sg f (n + m) = sg f n
  | 0 => rfl
  | m + 1 => by rw [← Nat.add_assoc, sg, sg_ext h m, h _ (by omega), Nat.add_zero]
theorem sg_first (f : Nat → Nat) : ∀ n, sg f (n + 1) = f 0 + sg (fun k => f (k + 1)) n
  | 0 => by simp [sg]
  | n + 1 => by rw [sg, sg_first f n, sg]; omega
theorem sg_rev (f : Nat → Nat) : ∀ n, sg (fun k => f (n - 1 - k)) n = sg f n
  | 0 => rfl
  | n + 1 => by
    rw [sg_first, sg, show n + 1 - 1 - 0 = n by omega, Nat.add_comm]
    congr 1
    rw [← sg_rev f n]
    exact sg_congr fun k hk => by congr 1; omega
theorem sg_shift (g : Nat → Nat) (k : Nat) : ∀ n, sg (fun j => if k ≤ j then g (j - k) else 0) (n + k) = sg g n
  | 0 => by
    rw [Nat.zero_add, sg_congr (g := fun _ => 0) (fun j hj => by rw [if_neg (by omega)]), sg_zero]
    rfl
  | n + 1 => by
    rw [show n + 1 + k = n + k + 1 by omega, sg, sg_shift g k n, if_pos (by omega), Nat.add_sub_cancel, sg]
theorem sg_above (f : Nat → Nat) {k p : Nat} (h : k < p) : sg (fun m => if k < m then f m else 0) p = sg (fun m => f (k + 1 + m)) (p - 1 - k) := by
  have := sg_shift (fun m => f (k + 1 + m)) (k + 1) (p - 1 - k)
  rw [show p - 1 - k + (k + 1) = p by omega] at this
  rw [← this]
  refine sg_congr fun m hm => ?_
  by_cases q : k < m
  · rw [if_pos q, if_pos (by omega)]; congr 1; omega
  · rw [if_neg q, if_neg (by omega)]
theorem sg_below (f : Nat → Nat) {m p : Nat} (h : m ≤ p) : sg (fun k => if k < m then f k else 0) p = sg f m := by
  obtain ⟨d, rfl⟩ : ∃ d, p = m + d := ⟨p - m, by omega⟩
  rw [sg_ext (fun k hk => by rw [if_neg (by omega)])]
  exact sg_congr fun k hk => by rw [if_pos hk]
def ev (x : Nat) (l : List Nat) : Nat := sg (fun j => l.getD j 0 * x ^ j) l.length
theorem getD_far {l : List Nat} {j : Nat} (h : l.length ≤ j) : l.getD j 0 = 0 := by rw [List.getD_eq_getElem?_getD, List.getElem?_eq_none h]; rfl
theorem ev_N (x : Nat) (l : List Nat) {N : Nat} (h : l.length ≤ N) : sg (fun j => l.getD j 0 * x ^ j) N = ev x l := by
  obtain ⟨d, rfl⟩ : ∃ d, N = l.length + d := ⟨N - l.length, by omega⟩
  exact sg_ext (fun k hk => by rw [getD_far hk, Nat.zero_mul]) d
theorem plusF_get (a b : List Nat) (k j : Nat) : (plusF a b k).getD j 0 = a.getD j 0 + if k ≤ j then b.getD (j - k) 0 else 0 := by
  by_cases h : j < max a.length (b.length + k)
  · unfold plusF
    rw [List.getD_eq_getElem?_getD, List.getElem?_map, List.getElem?_range h]
    rfl
  · rw [getD_far (by rw [plusF_len]; omega), getD_far (show a.length ≤ j by omega)]
    split
    · rw [getD_far (show b.length ≤ j - k by omega)]
    · rfl
theorem ev_plus (x : Nat) (a b : List Nat) (k : Nat) : ev x (plusF a b k) = ev x a + x ^ k * ev x b := by
  have h1 : ev x (plusF a b k) = sg (fun j => (a.getD j 0 * x ^ j) + (if k ≤ j then x ^ k * (b.getD (j - k) 0 * x ^ (j - k)) else 0)) (a.length + b.length + k) := by
    rw [← ev_N x _ (show (plusF a b k).length ≤ a.length + b.length + k by rw [plusF_len]; omega)]
    refine sg_congr fun j _ => ?_
    rw [plusF_get, Nat.add_mul]
    by_cases q : k ≤ j
    · rw [if_pos q, if_pos q]
      congr 1
      have : x ^ j = x ^ k * x ^ (j - k) := by rw [← Nat.pow_add]; congr 1; omega
      rw [this, Nat.mul_left_comm]
    · rw [if_neg q, if_neg q, Nat.zero_mul]
  rw [h1, sg_add, ev_N x a (by omega), sg_shift (fun j => x ^ k * (b.getD j 0 * x ^ j)) k, sg_mul, ev_N x b (by omega)]
theorem ev_map (x c : Nat) (b : List Nat) : ev x (b.map fun y => c * y) = c * ev x b := by
  unfold ev
  rw [← sg_mul, List.length_map]
  refine sg_congr fun j hj => ?_
  rw [List.getD_eq_getElem?_getD, List.getElem?_map, List.getElem?_eq_getElem hj, List.getD_eq_getElem?_getD, List.getElem?_eq_getElem hj]
  simp [Nat.mul_assoc]
theorem ev_timesP (x : Nat) (a b : List Nat) : ∀ k, ev x (timesP a b k) = sg (fun i => a.getD i 0 * x ^ i) k * ev x b
  | 0 => by rw [sg, Nat.zero_mul]; rfl
  | k + 1 => by
    rw [timesP_succ, ev_plus, ev_timesP x a b k, ev_map, sg, Nat.add_mul]
    congr 1
    rw [← Nat.mul_assoc, Nat.mul_comm (x ^ k)]
theorem ev_times (x : Nat) (a b : List Nat) : ev x (timesF a b) = ev x a * ev x b := ev_timesP x a b a.length
theorem ev_cons (x c : Nat) (l : List Nat) : ev x (c :: l) = c + x * ev x l := by
  unfold ev
  rw [List.length_cons, sg_first, ← sg_mul, List.getD_cons_zero, Nat.pow_zero, Nat.mul_one]
  congr 1
  refine sg_congr fun j _ => ?_
  rw [List.getD_cons_succ, Nat.pow_succ, ← Nat.mul_assoc, Nat.mul_comm x, Nat.mul_assoc]
theorem ev_inj : ∀ {a b : List Nat}, (∀ x, 0 < x → ev x a = ev x b) → ∀ j, a.getD j 0 = b.getD j 0
  | [], [], _, _ => rfl
  | [], d :: b, h, j => by
    have h0 := h (d + 1) (by omega)
    rw [ev_cons] at h0
    have hd : d = 0 := by
      have : ev (d + 1) [] = 0 := rfl
      omega
    have ih := ev_inj (a := []) (b := b) (fun x hx => by
      have := h x hx
      rw [ev_cons, hd, Nat.zero_add] at this
      have h1 : ev x [] = 0 := rfl
      rw [h1] at this ⊢
      rcases Nat.mul_eq_zero.1 this.symm with q | q
      · omega
      · exact q.symm)
    cases j with
    | zero => simp [hd]
    | succ j => simpa using ih j
  | c :: a, [], h, j => by
    have h0 := h (c + 1) (by omega)
    rw [ev_cons] at h0
    have hd : c = 0 := by
      have : ev (c + 1) [] = 0 := rfl
      omega
    have ih := ev_inj (a := a) (b := []) (fun x hx => by
      have := h x hx
      rw [ev_cons, hd, Nat.zero_add] at this
      have h1 : ev x [] = 0 := rfl
      rw [h1] at this ⊢
      rcases Nat.mul_eq_zero.1 this with q | q
      · omega
      · exact q)
    cases j with
    | zero => simp [hd]
    | succ j => simpa using ih j
  | c :: a, d :: b, h, j => by
    have h0 := h (c + d + 1) (by omega)
    rw [ev_cons, ev_cons] at h0
    have hcd : c = d := by
      have h1 := congrArg (· % (c + d + 1)) h0
      simp only [Nat.add_mul_mod_self_left] at h1
      rwa [Nat.mod_eq_of_lt (by omega), Nat.mod_eq_of_lt (by omega)] at h1
    have ih := ev_inj (a := a) (b := b) (fun x hx => by
      have := h x hx
      rw [ev_cons, ev_cons, hcd] at this
      exact Nat.eq_of_mul_eq_mul_left hx (by omega))
    cases j with
    | zero => simp [hcd]
    | succ j => simpa using ih j
def allP (l : List Nat) : Prop := ∀ j, j < l.length → 0 < l.getD j 0
theorem allP_len {a b : List Nat} (ha : allP a) (hb : allP b) (h : ∀ j, a.getD j 0 = b.getD j 0) : a = b := by
  have hl : a.length = b.length := by
    rcases Nat.lt_trichotomy a.length b.length with q | q | q
    · have h1 := hb _ q
      rw [← h, getD_far (Nat.le_refl _)] at h1
      omega
    · exact q
    · have h1 := ha _ q
      rw [h, getD_far (Nat.le_refl _)] at h1
      omega
  refine List.ext_getElem hl fun i h1 h2 => ?_
  have := h i
  rw [List.getD_eq_getElem?_getD, List.getElem?_eq_getElem h1, List.getD_eq_getElem?_getD, List.getElem?_eq_getElem h2] at this
  exact this
theorem timesP_allP {a b : List Nat} (ha : allP a) (hb : allP b) (h0 : 0 < b.length) : ∀ k, k ≤ a.length → allP (timesP a b k)
  | 0, _ => fun j hj => by simp [timesP] at hj
  | k + 1, hk => fun j hj => by
    have ih := timesP_allP ha hb h0 k (by omega)
    have hl := timesP_len a b k
    have hl1 := timesP_len a b (k + 1)
    rw [hl1, if_neg (by omega)] at hj
    rw [timesP_succ, plusF_get]
    by_cases q : k ≤ j
    · have h1 := hb (j - k) (by omega)
      have h2 := ha k (by omega)
      rw [if_pos q, List.getD_eq_getElem?_getD, List.getD_eq_getElem?_getD, List.getElem?_map, List.getElem?_eq_getElem (show j - k < b.length by omega)]
      have h3 : b[j - k]'(by omega) = b.getD (j - k) 0 := by rw [List.getD_eq_getElem?_getD, List.getElem?_eq_getElem (show j - k < b.length by omega)]; rfl
      have := Nat.mul_pos h2 h1
      simp only [Option.map_some, Option.getD_some]
      rw [h3]
      omega
    · have := ih j (by rw [hl, if_neg (by omega)]; omega)
      omega
section
variable (may : Nat → Nat → Bool)
theorem sizes_allP : ∀ n i, allP (sizesN may n i) := by
  intro n
  induction n using Nat.strongRecOn with
  | _ n ih =>
    intro i
    by_cases h : n < 2
    · rw [sizesN_lt may h]
      intro j hj
      have : j = 0 := by simpa using hj
      subst this
      decide
    · rw [sizesN_ge may (by omega)]
      have key : ∀ k, k ≤ n - 1 → allP (sizesP may n i k) := by
        intro k
        induction k with
        | zero => intro _; rw [sizesP_zero]; exact ih _ (by omega) _
        | succ k ihk =>
          intro hk
          have h1 := ihk (by omega)
          rw [sizesP_succ]
          split
          · have h2 := timesP_allP (ih k (by omega) (i + 1)) (ih (n - 2 - k) (by omega) (i + 2 + k)) (sizesN_pos may _ _) _ (Nat.le_refl _)
            have h3 := sizesP_pos may n i (fun m j _ => sizesN_pos may m j) (by omega) k
            intro j hj
            rw [plusF_len] at hj
            rw [plusF_get]
            by_cases q : j < (sizesP may n i k).length
            · have := h1 j q
              omega
            · rw [if_pos (by omega)]
              have := h2 (j - 1) (by unfold timesF at hj; unfold timesP; omega)
              have e : timesF (sizesN may k (i + 1)) (sizesN may (n - 2 - k) (i + 2 + k)) = timesP (sizesN may k (i + 1)) (sizesN may (n - 2 - k) (i + 2 + k)) (sizesN may k (i + 1)).length := rfl
              rw [e]
              omega
          · exact h1
      exact key _ (Nat.le_refl _)
def evS (x n i : Nat) : Nat := ev x (sizesN may n i)
def bt (b : Bool) : Nat := if b then 1 else 0
theorem ev_one (x : Nat) : ev x [1] = 1 := by simp [ev, sg]
theorem evS_zero (x i : Nat) : evS may x 0 i = 1 := by unfold evS; rw [sizesN_lt may (by omega), ev_one]
theorem evP (x n i : Nat) (hn : 1 ≤ n) : ∀ k, k ≤ n → ev x (sizesP may (n + 1) i k) = evS may x n (i + 1) + sg (fun k => bt (may i (i + 1 + k)) * (x * (evS may x k (i + 1) * evS may x (n - 1 - k) (i + 2 + k)))) k
  | 0, _ => by rw [sizesP_zero, sg, Nat.add_zero]; rfl
  | k + 1, hk => by
    have ih := evP x n i hn k (by omega)
    rw [sizesP_succ, sg]
    cases hm : may i (i + 1 + k)
    · simp only [Bool.false_eq_true, if_false, bt, Nat.zero_mul, Nat.add_zero]
      exact ih
    · simp only [if_true, bt, Nat.one_mul]
      rw [ev_plus, ih, ev_times, Nat.pow_one, Nat.add_assoc, show n + 1 - 2 - k = n - 1 - k by omega]
      rfl
theorem evS_first (x n i : Nat) : evS may x (n + 1) i = evS may x n (i + 1) + sg (fun k => bt (may i (i + 1 + k)) * (x * (evS may x k (i + 1) * evS may x (n - 1 - k) (i + 2 + k)))) n := by
  cases n with
  | zero => rw [sg, Nat.add_zero, evS_zero]; unfold evS; rw [sizesN_lt may (by omega), ev_one]
  | succ n =>
    have := evP may x (n + 1) i (by omega) (n + 1) (Nat.le_refl _)
    rw [← this]
    unfold evS
    rw [sizesN_ge may (by omega)]
    rfl
end
end Go.Proofs.YtfcgofffalmdfaaDoor.PA
namespace Go.Proofs.YtfcgofffalmdfaaDoor.PA
section
variable (may : Nat → Nat → Bool) (x : Nat)
theorem evS_last : ∀ n i, evS may x (n + 1) i = evS may x n i + sg (fun k => bt (may (i + k) (i + n)) * (x * (evS may x k i * evS may x (n - 1 - k) (i + k + 1)))) n := by
  intro n
  induction n using Nat.strongRecOn with
  | _ n ih =>
    intro i
    cases n with
    | zero => rw [sg, Nat.add_zero, evS_first, sg, Nat.add_zero, evS_zero, evS_zero]
    | succ p =>
      -- from the first letter, then from the last
      have hA : ∀ k, k < p → bt (may i (i + 1 + k)) * (x * (evS may x k (i + 1) * evS may x (p + 1 - 1 - k) (i + 2 + k))) =
          bt (may i (i + 1 + k)) * (x * (evS may x k (i + 1) * evS may x (p - 1 - k) (i + 2 + k))) +
          sg (fun m => if k < m then bt (may i (i + 1 + k)) * (x * (evS may x k (i + 1) * (bt (may (i + 1 + m) (i + 1 + p)) * (x * (evS may x (m - 1 - k) (i + 2 + k) * evS may x (p - 1 - m) (i + m + 2)))))) else 0) p := by
        intro k hk
        have h1 := ih (p - 1 - k) (by omega) (i + 2 + k)
        have h2 := sg_above (fun m => bt (may (i + 1 + m) (i + 1 + p)) * (x * (evS may x (m - 1 - k) (i + 2 + k) * evS may x (p - 1 - m) (i + m + 2)))) hk
        have h3 : sg (fun k_1 => bt (may (i + 2 + k + k_1) (i + 2 + k + (p - 1 - k))) * (x * (evS may x k_1 (i + 2 + k) * evS may x (p - 1 - k - 1 - k_1) (i + 2 + k + k_1 + 1)))) (p - 1 - k) =
            sg (fun m => bt (may (i + 1 + (k + 1 + m)) (i + 1 + p)) * (x * (evS may x (k + 1 + m - 1 - k) (i + 2 + k) * evS may x (p - 1 - (k + 1 + m)) (i + (k + 1 + m) + 2)))) (p - 1 - k) := by
          refine sg_congr fun m hm => ?_
          rw [show i + 2 + k + m = i + 1 + (k + 1 + m) by omega, show i + 2 + k + (p - 1 - k) = i + 1 + p by omega, show k + 1 + m - 1 - k = m by omega, show p - 1 - k - 1 - m = p - 1 - (k + 1 + m) by omega, show i + 1 + (k + 1 + m) + 1 = i + (k + 1 + m) + 2 by omega]
        rw [show p + 1 - 1 - k = p - 1 - k + 1 by omega, h1, h3, ← h2, Nat.mul_add, Nat.mul_add, Nat.mul_add]
        congr 1
        rw [← sg_mul, ← sg_mul, ← sg_mul]
        refine sg_congr fun m hm => ?_
        by_cases q : k < m
        · rw [if_pos q, if_pos q]
        · rw [if_neg q, if_neg q, Nat.mul_zero, Nat.mul_zero, Nat.mul_zero]
      have hR : ∀ m, m < p → bt (may (i + (m + 1)) (i + (p + 1))) * (x * (evS may x (m + 1) i * evS may x (p + 1 - 1 - (m + 1)) (i + (m + 1) + 1))) =
          bt (may (i + 1 + m) (i + 1 + p)) * (x * (evS may x m (i + 1) * evS may x (p - 1 - m) (i + 1 + m + 1))) +
          sg (fun k => if k < m then bt (may i (i + 1 + k)) * (x * (evS may x k (i + 1) * (bt (may (i + 1 + m) (i + 1 + p)) * (x * (evS may x (m - 1 - k) (i + 2 + k) * evS may x (p - 1 - m) (i + m + 2)))))) else 0) p := by
        intro m hm
        rw [evS_first, sg_below _ (Nat.le_of_lt hm), show i + (m + 1) = i + 1 + m by omega, show i + (p + 1) = i + 1 + p by omega, show p + 1 - 1 - (m + 1) = p - 1 - m by omega, Nat.add_mul, Nat.mul_add, Nat.mul_add]
        congr 1
        rw [← sg_mulr, ← sg_mul, ← sg_mul]
        refine sg_congr fun k hk => ?_
        rw [show i + 1 + m + 1 = i + m + 2 by omega]
        simp only [Nat.mul_comm, Nat.mul_left_comm, Nat.mul_assoc]
      rw [evS_first may x (p + 1) i, ih p (by omega) (i + 1), sg, sg_congr hA, sg_add, sg_comm]
      rw [sg_first, sg_congr hR, sg_add, evS_first may x p i]
      rw [show p + 1 - 1 - p = 0 by omega, show p + 1 - 1 - 0 = p by omega, evS_zero, evS_zero, show i + 0 = i from rfl, Nat.mul_one, Nat.one_mul, show i + 1 + p = i + (p + 1) by omega]
      omega
theorem evS_rev {may' : Nat → Nat → Bool} {N : Nat} (hm : ∀ i j, i < j → j < N → may' i j = may (N - 1 - j) (N - 1 - i)) : ∀ n i, i + n ≤ N → evS may' x n i = evS may x n (N - n - i) := by
  intro n
  induction n using Nat.strongRecOn with
  | _ n ih =>
    intro i hi
    cases n with
    | zero => rw [evS_zero, evS_zero]
    | succ n =>
      rw [evS_first, evS_last, ih n (by omega) (i + 1) (by omega), show N - n - (i + 1) = N - (n + 1) - i by omega]
      congr 1
      rw [← sg_rev]
      refine sg_congr fun k hk => ?_
      rw [hm _ _ (by omega) (by omega), ih (n - 1 - k) (by omega) (i + 1) (by omega), ih (n - 1 - (n - 1 - k)) (by omega) (i + 2 + (n - 1 - k)) (by omega)]
      rw [show N - 1 - (i + 1 + (n - 1 - k)) = N - (n + 1) - i + k by omega, show N - 1 - i = N - (n + 1) - i + n by omega, show N - (n - 1 - (n - 1 - k)) - (i + 2 + (n - 1 - k)) = N - (n + 1) - i by omega, show n - 1 - (n - 1 - k) = k by omega, show N - (n - 1 - k) - (i + 1) = N - (n + 1) - i + k + 1 by omega, Nat.mul_comm (evS may x k _)]
end
theorem sizes_rev {may may' : Nat → Nat → Bool} {N : Nat} (hm : ∀ i j, i < j → j < N → may' i j = may (N - 1 - j) (N - 1 - i)) : sizesN may' N 0 = sizesN may N 0 :=
  allP_len (sizes_allP _ _ _) (sizes_allP _ _ _) (ev_inj fun x _ => by
    have := evS_rev may x hm N 0 (by omega)
    rwa [show N - N - 0 = 0 by omega] at this)
theorem ruleOf_sym_set {rl : List Bool} (hl : rl.length = 16) (a b : Nat) (ha : a < 4) (hb : b < 4) (h : ∀ i j, i < 4 → j < 4 → rl.getD (i * 4 + j) false = rl.getD (j * 4 + i) false) :
    ∀ i j, i < 4 → j < 4 → ((rl.set (a * 4 + b) true).set (b * 4 + a) true).getD (i * 4 + j) false = ((rl.set (a * 4 + b) true).set (b * 4 + a) true).getD (j * 4 + i) false := by
  intro i j hi hj
  have h0 := h i j hi hj
  simp only [List.getD_eq_getElem?_getD, List.getElem?_set, List.length_set] at h0 ⊢
  by_cases q1 : b * 4 + a = i * 4 + j
  · rw [if_pos q1, if_pos (by omega)]
    by_cases q2 : b * 4 + a = j * 4 + i
    · rw [if_pos q2]
    · rw [if_neg q2, if_pos (by omega), if_pos (by omega)]
  · rw [if_neg q1]
    by_cases q2 : b * 4 + a = j * 4 + i
    · rw [if_pos q2, if_pos (by omega), if_pos (by omega), if_pos (by omega)]
    · rw [if_neg q2, if_neg (by omega), if_neg (by omega)]
      exact h0
theorem rulesOf_sym {l : List (Int × Int)} (hb : l.any badP = false) : ∀ i j, i < 4 → j < 4 → (rulesOf l).getD (i * 4 + j) false = (rulesOf l).getD (j * 4 + i) false := by
  have key : ∀ (l : List (Int × Int)) (rl : List Bool), l.any badP = false → rl.length = 16 → (∀ i j, i < 4 → j < 4 → rl.getD (i * 4 + j) false = rl.getD (j * 4 + i) false) →
      ∀ i j, i < 4 → j < 4 → (l.foldl (fun rl p => (rl.set (p.1.toNat * 4 + p.2.toNat) true).set (p.2.toNat * 4 + p.1.toNat) true) rl).getD (i * 4 + j) false = (l.foldl (fun rl p => (rl.set (p.1.toNat * 4 + p.2.toNat) true).set (p.2.toNat * 4 + p.1.toNat) true) rl).getD (j * 4 + i) false := by
    intro l
    induction l with
    | nil => intro rl _ _ h; exact h
    | cons p l ih =>
      intro rl hb hl h
      rw [List.any_cons, Bool.or_eq_false_iff] at hb
      obtain ⟨hp, hb⟩ := hb
      have hp' : 0 ≤ p.1 ∧ 0 ≤ p.2 ∧ p.1 < 4 ∧ p.2 < 4 := by
        simp [badP] at hp
        omega
      rw [List.foldl_cons]
      exact ih _ hb (by simp [hl]) (ruleOf_sym_set hl _ _ (by omega) (by omega) h)
  refine key l _ hb (by simp) fun i j hi hj => ?_
  rw [List.getD_eq_getElem?_getD, List.getD_eq_getElem?_getD, List.getElem?_replicate, List.getElem?_replicate, if_pos (by omega), if_pos (by omega)]
theorem getD_in {s : List UInt8} (h : s.all inS' = true) (i : Nat) : 97 ≤ (s.getD i 97).toNat ∧ (s.getD i 97).toNat ≤ 100 := by
  rw [List.getD_eq_getElem?_getD]
  cases e : s[i]? with
  | none => decide
  | some v =>
    have := List.all_eq_true.1 h v (List.mem_of_getElem? e)
    simpa [inS'] using this
theorem mayF_rev {s : List UInt8} {l : List (Int × Int)} {gap : Int} (hs : s.all inS' = true) (hb : l.any badP = false) {i j : Nat} (hij : i < j) (hj : j < s.length) : mayF s.reverse (rulesOf l) gap i j = mayF s (rulesOf l) gap (s.length - 1 - j) (s.length - 1 - i) := by
  have hg : ∀ k, k < s.length → s.reverse.getD k 97 = s.getD (s.length - 1 - k) 97 := fun k hk => by
    rw [List.getD_eq_getElem?_getD, List.getD_eq_getElem?_getD, List.getElem?_reverse hk]
  unfold mayF
  rw [hg i (by omega), hg j hj]
  congr 1
  · congr 1
    rw [show ((s.length - 1 - i : Nat) : Int) - ((s.length - 1 - j : Nat) : Int) = (j : Int) - (i : Int) by omega]
  · unfold ruleOf
    have h1 := getD_in hs (s.length - 1 - i)
    have h2 := getD_in hs (s.length - 1 - j)
    exact rulesOf_sym hb _ _ (by omega) (by omega)
theorem rope_reversed (s : List UInt8) (l : List (Int × Int)) (gap : Int) (hs : s.all inS' = true) (hb : l.any badP = false) : sizesN (mayF s.reverse (rulesOf l) gap) (s.reverse.length - 0) 0 = sizesN (mayF s (rulesOf l) gap) (s.length - 0) 0 := by
  rw [List.length_reverse, Nat.sub_zero]
  exact sizes_rev fun i j hij hj => mayF_rev hs hb hij hj
end Go.Proofs.YtfcgofffalmdfaaDoor.PA
namespace Go.Proofs.YtfcgofffalmdfaaDoor.PA
open Go Go.Eng Go.Proofs Go.RowKit Go.ChangeShapes Go.Deep
theorem u8_nat {n : Int} (h : (Lit.int .u8 n).wf = true) : ∃ m : Nat, n = (m : Int) ∧ m < 256 := by
  simp [Lit.wf, IntKind.min, IntKind.max, IntKind.signed, IntKind.bits] at h
  exact ⟨n.toNat, by omega, by omega⟩
theorem relL_bytes {E : Env} {w : World} : ∀ x : List Nat, AVRelL E w (x.map bA) (x.map fun p : Nat => Value.int .u8 (p : Int))
  | [] => by simp [AVRelL]
  | p :: x => by
    have := relL_bytes (E := E) (w := w) x
    simp only [List.map_cons, AVRelL, bA, AVRel] at this ⊢
    exact ⟨_, _, rfl, rfl, this⟩
section
variable {H : Type} {enc : TypeId × Value → H} {P : Program} {w : World} {base : Nat} {held : Bool}
theorem read_bytes {t e : TypeId} {v : Value} {d : DataW H} {ps : List MemPlace} (ht : P.underlying t = some (.slice e)) (he : P.underlying e = some (.int .u8)) (ce : P.cellsOf e = 1)
    {a0 : Option Addr} {len cap : Nat} (hv : v = .slice a0 len cap) (h : DataW.Trod enc P w base (fun _ => true) held t v d ps) :
    ∃ x : List Nat, (∀ p ∈ x, p < 256) ∧ AVRel (E0 w) w (.imm (x.map bA) x.length false) v := by
  subst hv
  obtain ⟨fuel, hf⟩ := h
  have hf' : DataW.trod enc P w base (fun _ => true) held fuel t [.slice a0 len cap] = some (d, ps) := hf
  rcases open_slice ht hf' with ⟨h0, _⟩ | ⟨a, len', cap', m, n, D, Pl, h0, hb, hl, hm, hmm, _, hx⟩
  · cases h0
    refine ⟨[], by simp, ?_⟩
    simp only [AVRel]
    exact .inl ⟨rfl, rfl, none, 0, rfl, by simp⟩
  · cases h0
    by_cases hz : len = 0
    · subst hz
      refine ⟨[], by simp, ?_⟩
      simp only [AVRel]
      exact .inl ⟨rfl, rfl, some a, cap, rfl, by simp⟩
    · have hmc : m = cap := by simpa using hmm
      obtain ⟨f, hfn⟩ := choose_lt (n := len) (p := fun i p => w.cell? (a.add i) = some (.int .u8 ((p : Nat) : Int)) ∧ p < 256) (fun i hi => by
        obtain ⟨cs', h1, h2⟩ := hx i (by omega)
        rw [ce] at h1
        obtain ⟨_, hlen, hcell⟩ := World.cells?_some h1
        have e0 := hcell 0 (by omega)
        obtain ⟨n0, e1, _, w0⟩ := DataW.trod_int he h2
        subst e1
        obtain ⟨p, rfl, q⟩ := u8_nat w0
        rw [add_add] at e0
        exact ⟨p, by simpa using e0, q⟩)
      have hs : a.spot = none := by
        have h0 := (hfn 0 (by omega)).1
        have h0' : w.cell? a = some (.int .u8 ((f 0 : Nat) : Int)) := by simpa [Addr.add] using h0
        unfold World.cell? at h0'
        split at h0'
        · split at h0'
          · cases h0'
          · rename_i q
            simpa using q
        · cases h0'
      obtain ⟨b, s, sp⟩ := a
      simp only at hs
      subst hs
      have hadd : ∀ j, (⟨b, s, none⟩ : Addr).add j = ⟨b, s + j, none⟩ := fun j => by
        unfold Addr.add
        split
        · rename_i q; subst q; rfl
        · rfl
      refine ⟨(List.range len).map f, fun p hp => ?_, ?_⟩
      · simp only [List.mem_map, List.mem_range] at hp
        obtain ⟨i, hi, rfl⟩ := hp
        exact (hfn i hi).2
      · simp only [AVRel, List.length_map, List.length_range]
        refine .inr ⟨b, s, cap, _, rfl, ?_, fun j u hu => ?_, relL_bytes _, by omega, by simp⟩
        · have h0 := (hfn 0 (by omega)).1
          rw [hadd] at h0
          exact World.block_lt_of_cell? _ _ h0
        · rw [List.getElem?_map, Option.map_eq_some_iff] at hu
          obtain ⟨p, h1, rfl⟩ := hu
          rw [List.getElem?_map, Option.map_eq_some_iff] at h1
          obtain ⟨i', h1, rfl⟩ := h1
          have hi' : j < len := by
            rcases Nat.lt_or_ge j len with q | q
            · exact q
            · rw [List.getElem?_eq_none (by simpa using q)] at h1; cases h1
          rw [List.getElem?_range hi'] at h1
          cases h1
          rw [← hadd]
          exact (hfn _ hi').1
end
end Go.Proofs.YtfcgofffalmdfaaDoor.PA
namespace Go.Proofs.YtfcgofffalmdfaaDoor.ropeReversed
open Go Go.ChangeShapes Go.WideShapes Go.ChangeAt Go.RowKit Go.Deep Go.Joins Go.Eng
theorem own : ownKnob Tryd.prog.godebug = none := by kernel_rfl
theorem laidOut : laidOutB Tryd.prog = true := by kernel_rfl
theorem call (w : World) {P : Int} {g : Nat} {bs : List Nat} {v0 : Value} (hg : g < 256) (hbs : ∀ b ∈ bs, b < 256) (h0 : AVRel (E0 w) w (.agg (PA.cordA P g bs)) v0) :
    Calls Tryd.prog 6 #[v0] w fun e w' => e = .returned (.bool true) ∧ Below w.heap.size w w' := by
  obtain ⟨v, H', q1, rfl⟩ := PA.x6r (P := P) hg hbs (fun s l gap hE => by
    obtain ⟨_, h1, h2, _⟩ := PA.readE_zero hE
    exact PA.rope_reversed s l gap h1 h2)
  have h3 := (xfunc_sound PA.mixed (xcallK_sound PA.mixed PA.K6_ok PA.F_ok 3000 1) 3000 (PA.F_ok 6 PA.L6 rfl) q1).2 (E0 w) w [v0] (rel0 w) (by
    simp only [AVRelL]
    exact ⟨_, _, rfl, h0, rfl⟩)
  refine h3.mono fun e w' ⟨u, E', he, hs, hr⟩ => ?_
  simp only [AVRel] at hr
  subst hr
  exact ⟨he, below0 hs⟩
set_option maxRecDepth 100000 in
theorem lifted (os : Os) (started : os.Started) (H : Type) (enc : TypeId × Value → H) :
    ReturnsInHanded {} Tryd.checked os 6 .any (fun w args => (Rows.ropeReversedSpec.pre enc Tryd.prog Tryd.f6 Rows.ropeReversedRow.domain false w args ∧ laidMetH Tryd.prog Rows.ropeReversedRow.laid w) ∧ sizedMet enc Tryd.prog Tryd.f6 (OpenSpec.ofChange Rows.ropeReversedSpec) false w args)
      (Rows.ropeReversedSpec.post enc Tryd.prog Tryd.f6 false true false false) := by
  refine returnsInHanded_of_change_and (C := Tryd.checked) (X := fun w _ => laidMetH Tryd.prog Rows.ropeReversedRow.laid w) (fun _ _ _ hh h => h.of_heap hh) own started (by kernel_rfl) Tryd.func6
    (ChangeSpec.witness_shaped (enc := enc) (C := Tryd.checked) (os := os) (X := fun w _ => laidMetH Tryd.prog Rows.ropeReversedRow.laid w) false (World.laidAll Tryd.prog os Rows.ropeReversedRow.laid) #[.agg #[.int .u16 0, .int .u8 0, .slice none 0 0]] 8 (World.laidAll_os _ _ _)
      (World.shaped_of_ZipB (by kernel_rfl) (by kernel_rfl)) (by kernel_rfl) (by kernel_rfl) (by kernel_rfl)
      (by rw [MakeChecks.laidMetH_plain _ _ _ (by kernel_rfl)]; exact laidMet_laidAll _ (by kernel_rfl) (by kernel_rfl))) ?_
  intro W base args ds gs before hval0 hW hcnd _ _ _
  have hval : ∀ (j : Nat) t v, Tryd.f6.params[j]? = some t → args[j]? = some v → Value.okWide Tryd.prog W .any base t v := hval0
  have hW' := hW
  obtain ⟨p, q, hA0, hV, rfl, hfz, hnd⟩ := hW
  have hA : DataW.TrodAll enc Tryd.prog W 0 (fun _ => true) true Tryd.f6.params.toList args.toList ds p := hA0
  rw [Tryd.params6] at hA hval
  obtain ⟨v0, vs0, d0, ds0, p0, q0, hargs, rfl, rfl, h0, r0⟩ := trodAll_cons hA
  obtain ⟨rfl, rfl, rfl⟩ := trodAll_nil r0
  obtain rfl : args = #[v0] := by cases args; simp_all
  obtain ⟨rfl, rfl⟩ := trodVars_none hV
  have k0 := h0
  have lt0 : ∀ x ∈ p0, x.block < W.heap.size := by obtain ⟨m, hm⟩ := k0; exact DataW.trod_lt m _ _ _ hm
  obtain ⟨c0, c1, c2, y0, y1, y2, n, rfl, hd0, hp0, t0, t1, t2⟩ := open_agg3 Tryd.underlying46 (by kernel_rfl) (by kernel_rfl) (hval 0 46 v0 rfl rfl) h0
  obtain ⟨z0, e0, _⟩ := DataW.trod_int Tryd.underlying43 t0
  obtain ⟨z1, e1, _, w1⟩ := DataW.trod_int Tryd.underlying5 t1
  simp only [List.cons.injEq, and_true] at e0 e1
  subst e0 e1
  obtain ⟨g, rfl, hg⟩ := PA.u8_nat w1
  obtain ⟨a2, l2, cc2, hs2⟩ := slice_form Tryd.underlying44 t2
  simp only [List.cons.injEq, and_true] at hs2
  obtain ⟨bs, hbs, r2⟩ := PA.read_bytes (v := c2) Tryd.underlying44 Tryd.underlying5 (by kernel_rfl) hs2 ⟨n, by subst hs2; exact t2⟩
  clear hA0 hval0
  refine (call (P := z0) W hg hbs (by
    unfold PA.cordA PA.bA
    simp only [AVRel, AVRelL]
    exact ⟨_, rfl, _, _, rfl, rfl, _, _, rfl, rfl, _, _, rfl, r2, rfl⟩)).mono fun e W' ⟨he, bel⟩ => ?_
  subst he
  exact ⟨_, rfl, _, _, _, [], _, [], hW', trodAll_mk1 (shut_bool Tryd.underlying4 _), (trodAll_cons_mk (Below.trod laidOut (by kernel_rfl) (of_decide_eq_true (by kernel_rfl)) k0 bel lt0) trodAll_mk0), rfl, bel.frame _, fun h => by cases h⟩
theorem over : Rows.RopeReversedSaid :=
  OpenClaim.holds_of_wide 6 Tryd.f6 rfl rfl rfl rfl rfl rfl rfl ⟨rfl, rfl, rfl, rfl, rfl⟩ rfl rfl rfl rfl rfl (by kernel_rfl) Tryd.func6 (by kernel_rfl)
    (of_decide_eq_true (by kernel_rfl)) (by unfold Func.isWrapper; first | (rw [if_pos (by decide +kernel)]; kernel_rfl) | (rw [if_neg (by decide +kernel)]; exact ⟨rfl, rfl⟩))
    (fun os started H enc _ => lifted os started H enc)
end Go.Proofs.YtfcgofffalmdfaaDoor.ropeReversed
namespace Go.Proofs.YtfcgofffalmdfaaDoor
open Go
theorem ropeReversed_card : Rows.RopeReversedCardSaid :=
  Claim7.holds_tied_plain_at .later [] [.data, .pinned] true (true, "3f00498b81f2a32d3926e506fd4d6cec9b56b57de8ec6ed9ec835dbada23b520") false ropeReversed.over (fun _ h => by cases h) (by kernel_rfl) (fun _ h => by cases h) ropeReversed_row_tie rfl ⟨rfl, rfl⟩ (by kernel_rfl) rfl
    (fun f fn hf hfn => by
      obtain rfl : f = 6 := Option.some.inj ((show Tryd.prog.funcNamed "woggle/wogglelaw03.RopeReversed" = some 6 by kernel_rfl).symm.trans hf) |>.symm
      obtain rfl : fn = Tryd.f6 := (Option.some.inj (Tryd.func6.symm.trans hfn)).symm
      exact ⟨by kernel_rfl, fun j t ht => by
        rw [Tryd.params6] at ht
        have hm : t ∈ [46] := by simpa using Array.mem_of_getElem? ht
        have hall : ([46].all fun u => !Tryd.prog.wantsStandIn u) = true := by kernel_rfl
        exact (show Tryd.prog.wantsStandIn t = false by simpa using List.all_eq_true.1 hall t hm)⟩)
    (by kernel_rfl)
#print axioms ropeReversed_card
end Go.Proofs.YtfcgofffalmdfaaDoor
