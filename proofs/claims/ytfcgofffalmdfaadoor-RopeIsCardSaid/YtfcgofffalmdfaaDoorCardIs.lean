/- Is reports whether a string is a folding of a rope, or returns the error that the document names, for all rules and strings: the row and its tied card. No condition. -/
import Derived.Test.YtfcgofffalmdfaaDoorRows
import Derived.Test.YtfcgofffalmdfaaDoorCards
import Derived.Test.YtfcgofffalmdfaaDoorTie
import Derived.Test.YtfcgofffalmdfaaDoorPAx4
import Derived.Test.YtfcgofffalmdfaaDoorPureRopeIs
import Derived.ProofKit
import Derived.OpenShut
import Derived.LaidMore
import Derived.Lay
import Derived.SevenTiedAt
import Derived.Stop.Joined
import Derived.ShutString
import Derived.SizedLaws
import Derived.ChangeMaps
import Derived.Carry
import Derived.Lib.SmallJoins
import Derived.Deep.Slices
import Derived.Deep.Fields
import Derived.ChangeSame
namespace Go.Proofs.YtfcgofffalmdfaaDoor.ropeIs
open Go Go.ChangeShapes Go.WideShapes Go.ChangeAt Go.RowKit Go.Deep Go.Joins
open Go.ChangeMaps (open_string shut_string)
open Go.Proofs.YtfcgofffalmdfaaDoor.PA Go.Proofs.YtfcgofffalmdfaaDoorW.PrintWords
set_option linter.unusedVariables false
theorem own : ownKnob Tryd.prog.godebug = none := by kernel_rfl
theorem laidOut : laidOutB Tryd.prog = true := by kernel_rfl
theorem listed {α : Type} {P : Nat → α → Prop} : ∀ (n : Nat), (∀ i, i < n → ∃ x, P i x) → ∃ l : List α, l.length = n ∧ ∀ i x, l[i]? = some x → P i x
  | 0, _ => ⟨[], rfl, fun i x h => by simp at h⟩
  | n + 1, h => by
    obtain ⟨l, h1, h2⟩ := listed n (fun i hi => h i (by omega))
    obtain ⟨x, hx⟩ := h n (by omega)
    refine ⟨l ++ [x], by simp [h1], fun i y hy => ?_⟩
    by_cases hi : i < l.length
    · rw [List.getElem?_append_left hi] at hy; exact h2 i y hy
    · rw [List.getElem?_append_right (by omega)] at hy
      have : i = n := by
        rcases Nat.lt_or_ge (i - l.length) 1 with q | q
        · omega
        · rw [List.getElem?_eq_none (by simpa using q)] at hy; cases hy
      subst this
      rw [← h1, Nat.sub_self] at hy
      simp at hy
      rw [← hy]; exact hx
theorem open_pairs {H : Type} {enc : TypeId × Value → H} {W : World} {n : Nat} {v : Value} {x : DataW H × List MemPlace} (h : DataW.trod enc Tryd.prog W 0 (fun _ => true) true n 22 [v] = some x) :
    ∃ A cap l, v = .slice A (l : List S31).length cap ∧ Kd.C k31 W A l.length l ∧ l.length ≤ cap := by
  have c31 : Tryd.prog.cellsOf 31 = 2 := by kernel_rfl
  have c3 : Tryd.prog.cellsOf 3 = 1 := by kernel_rfl
  rcases open_slice Tryd.underlying22 h with ⟨h0, _⟩ | ⟨a, len, cap, m, n', D, Pl, hcs, hb, hl, hm, hmm, hx, hi⟩
  · cases h0
    exact ⟨none, 0, [], rfl, ⟨rfl, by decide, fun q => absurd q (by decide)⟩, Nat.le_refl _⟩
  · cases hcs
    obtain ⟨l, hl1, hl2⟩ := listed (P := fun i (x : S31) => W.cell? (a.add (i * 2)) = some (.int .i64 x.f0) ∧ W.cell? (a.add (i * 2 + 1)) = some (.int .i64 x.f1)) len (fun i hlt => by
      obtain ⟨cs', hc, ht⟩ := hi i (by rw [hmm]; simp only [if_true]; omega)
      rw [c31] at hc
      obtain ⟨y0, y1, n2, _, hlen, h0, h1⟩ := trod_struct2 Tryd.underlying31 ht
      obtain ⟨_, hcl, hat⟩ := World.cells?_some hc
      rw [c3] at h0 h1
      obtain ⟨z0, e0, _⟩ := DataW.trod_int Tryd.underlying3 h0
      obtain ⟨z1, e1, _⟩ := DataW.trod_int Tryd.underlying3 h1
      match cs', hcl with
      | [u0, u1], _ =>
        simp at e0 e1
        have q0 := hat 0 (by omega)
        have q1 := hat 1 (by omega)
        subst e0 e1
        refine ⟨⟨z0, z1⟩, ?_, ?_⟩
        · simpa [Go.Deep.add_add] using q0
        · simpa [Go.Deep.add_add] using q1)
    subst hl1
    refine ⟨some a, cap, l, rfl, ⟨rfl, Nat.le_trans hl (Nat.le_trans hm (by decide)), fun _ => ⟨a, rfl, fun j p hj => ?_⟩⟩, hl⟩
    obtain ⟨q0, q1⟩ := hl2 j p hj
    refine ⟨[.int .i64 p.f0, .int .i64 p.f1], rfl, k31_mk W p, fun i u hu => ?_⟩
    match i, hu with
    | 0, hu => simp at hu; subst hu; exact q0
    | 1, hu => simp at hu; subst hu; exact q1
set_option maxRecDepth 100000 in
theorem lifted (os : Os) (started : os.Started) (H : Type) (enc : TypeId × Value → H) :
    ReturnsInHanded {} Tryd.checked os 4 .any (fun w args => (Rows.ropeIsSpec.pre enc Tryd.prog Tryd.f4 Rows.ropeIsRow.domain false w args ∧ laidMetH Tryd.prog Rows.ropeIsRow.laid w) ∧ sizedMet enc Tryd.prog Tryd.f4 (OpenSpec.ofChange Rows.ropeIsSpec) false w args)
      (Rows.ropeIsSpec.post enc Tryd.prog Tryd.f4 false true false false) := by
  refine returnsInHanded_of_change_and (C := Tryd.checked) (X := fun w _ => laidMetH Tryd.prog Rows.ropeIsRow.laid w) (fun _ _ _ hh h => h.of_heap hh) own started (by kernel_rfl) Tryd.func4
    (ChangeSpec.witness_shaped (enc := enc) (C := Tryd.checked) (os := os) (X := fun w _ => laidMetH Tryd.prog Rows.ropeIsRow.laid w) false (World.laidAll Tryd.prog os Rows.ropeIsRow.laid) #[.agg #[.slice none 0 0, .int .i64 0], .string ByteArray.empty, .string ByteArray.empty] 8 (World.laidAll_os _ _ _)
      (World.shaped_of_ZipB (by kernel_rfl) (by kernel_rfl)) (by kernel_rfl) (by kernel_rfl) (by kernel_rfl)
      (by rw [MakeChecks.laidMetH_plain _ _ _ (by kernel_rfl)]; exact laidMet_laidAll _ (by kernel_rfl) (by kernel_rfl))) ?_
  intro W base args ds gs before hval0 hW hcnd _ _ _
  have hval : ∀ (j : Nat) t v, Tryd.f4.params[j]? = some t → args[j]? = some v → Value.okWide Tryd.prog W .any base t v := hval0
  have hW' := hW
  obtain ⟨p, q, hA0, hV, rfl, hfz, hnd⟩ := hW
  have hA : DataW.TrodAll enc Tryd.prog W 0 (fun _ => true) true Tryd.f4.params.toList args.toList ds p := hA0
  rw [Tryd.params4] at hA hval
  obtain ⟨v0, vs0, d0, ds0, p0, q0, hargs, rfl, rfl, h0, r0⟩ := trodAll_cons hA
  obtain ⟨v1, vs1, d1, ds1, p1, q1, rfl, rfl, rfl, h1, r1⟩ := trodAll_cons r0
  obtain ⟨v2, vs2, d2, ds2, p2, q2, rfl, rfl, rfl, h2, r2⟩ := trodAll_cons r1
  obtain ⟨rfl, rfl, rfl⟩ := trodAll_nil r2
  obtain rfl : args = #[v0, v1, v2] := by cases args; simp_all
  obtain ⟨rfl, rfl⟩ := trodVars_none hV
  have k0 := h0
  have lt0 : ∀ x ∈ p0, x.block < W.heap.size := by obtain ⟨m, hm⟩ := k0; exact DataW.trod_lt m _ _ _ hm
  obtain ⟨c0, c1, y0, y1, n, rfl, hd0, hp0, t0, t1⟩ := open_agg2 Tryd.underlying34 (by kernel_rfl) (by kernel_rfl) (hval 0 34 v0 rfl rfl) h0
  obtain ⟨A, cap, l, rfl, hC, hlc⟩ := open_pairs t0
  obtain ⟨gap, hg, _⟩ := DataW.trod_int Tryd.underlying3 t1
  simp only [List.cons.injEq, and_true] at hg
  subst hg
  obtain ⟨a1, rfl, rfl, rfl, y1'⟩ := open_string Tryd.underlying9 (hval 1 9 v1 rfl rfl) h1
  obtain ⟨a2, rfl, rfl, rfl, y2'⟩ := open_string Tryd.underlying9 (hval 2 9 v2 rfl rfl) h2
  clear hA0 hval0
  obtain ⟨k, hk⟩ := Pure.RopeIs l gap a1 a2
  refine (PA.wogglelaw03_RopeIs.calls k A cap l gap a1 a2 true W hC hlc hk).mono fun e W' ⟨he, bel⟩ => ?_
  subst he
  exact ⟨_, rfl, _, _, _, [], _, [], hW', trodAll_mk1 (shut_bool Tryd.underlying4 _), (trodAll_cons_mk (Below.trod laidOut (by kernel_rfl) (of_decide_eq_true (by kernel_rfl)) k0 bel lt0) (trodAll_cons_mk (shut_string Tryd.underlying9 y1') (trodAll_cons_mk (shut_string Tryd.underlying9 y2') trodAll_mk0))), rfl, bel.frame _, fun h => by cases h⟩
theorem over : Rows.RopeIsSaid :=
  OpenClaim.holds_of_wide 4 Tryd.f4 rfl rfl rfl rfl rfl rfl rfl ⟨rfl, rfl, rfl, rfl, rfl⟩ rfl rfl rfl rfl rfl (by kernel_rfl) Tryd.func4 (by kernel_rfl)
    (of_decide_eq_true (by kernel_rfl)) (by unfold Func.isWrapper; first | (rw [if_pos (by decide +kernel)]; kernel_rfl) | (rw [if_neg (by decide +kernel)]; exact ⟨rfl, rfl⟩))
    (fun os started H enc _ => lifted os started H enc)
end Go.Proofs.YtfcgofffalmdfaaDoor.ropeIs
namespace Go.Proofs.YtfcgofffalmdfaaDoor
open Go
/-- The card of RopeIs. -/
theorem ropeIs_card : Rows.RopeIsCardSaid :=
  Claim7.holds_tied_plain_at .later [] [.data, .pinned] true (true, "3f00498b81f2a32d3926e506fd4d6cec9b56b57de8ec6ed9ec835dbada23b520") false ropeIs.over (fun _ h => by cases h) (by kernel_rfl) (fun _ h => by cases h) ropeIs_row_tie rfl ⟨rfl, rfl⟩ (by kernel_rfl) rfl
    (fun f fn hf hfn => by
      obtain rfl : f = 4 := Option.some.inj ((show Tryd.prog.funcNamed "woggle/wogglelaw03.RopeIs" = some 4 by kernel_rfl).symm.trans hf) |>.symm
      obtain rfl : fn = Tryd.f4 := (Option.some.inj (Tryd.func4.symm.trans hfn)).symm
      exact ⟨by kernel_rfl, fun j t ht => by
        rw [Tryd.params4] at ht
        have hm : t ∈ [34, 9, 9] := by simpa using Array.mem_of_getElem? ht
        have hall : ([34, 9, 9].all fun u => !Tryd.prog.wantsStandIn u) = true := by kernel_rfl
        exact (show Tryd.prog.wantsStandIn t = false by simpa using List.all_eq_true.1 hall t hm)⟩)
    (by kernel_rfl)
#print axioms ropeIs_card
end Go.Proofs.YtfcgofffalmdfaaDoor
