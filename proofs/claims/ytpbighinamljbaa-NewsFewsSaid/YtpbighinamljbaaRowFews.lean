/- NewsFews: Fewest returns the least number of calls that complete gossip, and Few the first of the shortest lists of calls, for all numbers: the row. No condition. -/
import Derived.Test.YtpbighinamljbaaRows
import Derived.Test.YtpbighinamljbaaFews
import Derived.Test.YtpbighinamljbaaFw4
import Derived.Test.YtpbighinamljbaaFew3
import Derived.ProofKit
import Derived.OpenShut
import Derived.LaidMore
import Derived.Lay
import Derived.SizedLaws
import Derived.Carry
namespace Go.Proofs.Ytpbighinamljbaa.newsFews
open Go Go.ChangeShapes Go.WideShapes Go.ChangeAt Go.RowKit Go.Eng
set_option linter.unusedVariables false
theorem own : ownKnob Try.prog.godebug = none := by kernel_rfl
theorem run5 : ∃ H', PA.cfZ 9 8 [.int .i64 5] ⟨.e, 0⟩ = some (.bool true, H') := by
  have hd : ∀ d, d ≤ 6 → PA.compl 5 (PA.runM (PA.begM 5) (PA.pr5.take d)) = decide (d = 6) := by decide
  have h52 : ∀ k H, ∃ v H', PA.cfZ (k + 1) 52 [nA 5] H = some (v, H') ∧ v = nA 6 ∧ H'.m = H.m ∧ H.next ≤ H'.next := fun k H => by
    obtain ⟨v, H', h, q⟩ := PA.x52c (cf := PA.cfZ k) (fuel := 300) (H := H)
    exact ⟨v, H', (PA.cfZ_step rfl rfl).trans h, q⟩
  obtain ⟨v, H', h, rfl, _⟩ := PA.x8c (cf := PA.cfZ 8) (fuel := 300) (H := ⟨.e, 0⟩) (fun H => PA.z_17) (fun H => by
    obtain ⟨v, H', h, q⟩ := PA.x26c (cf := PA.cfZ 7) (fuel := 300) (H := H) (h52 6)
    exact ⟨v, H', (PA.cfZ_step rfl rfl).trans h, q⟩) (fun H => by
    obtain ⟨v, H', h, q⟩ := PA.x27c (cf := PA.cfZ 7) (fuel := 300) (H := H) (h52 6) (fun H => PA.y_54) (fun M => PA.y_53 (by omega) 6 0 (by omega))
    exact ⟨v, H', (PA.cfZ_step rfl rfl).trans h, q⟩) (fun H => by
    obtain ⟨v, H', h, q⟩ := PA.x28c (cf := PA.cfZ 7) (fuel := 300) (H := H)
    exact ⟨v, H', (PA.cfZ_step rfl rfl).trans h, q⟩) (fun u H hu => by
    have := PA.z_29 (k := 8) (n := 5) (x := u) (l := PA.pr5.map fun c => ((c.1 : Int), (c.2 : Int))) (H := H) (by
      rw [PA.zc_prs, List.length_map]
      exact .inl hu)
    rw [show PA.errZ 5 (PA.pr5.map fun c => ((c.1 : Int), (c.2 : Int))) = 0 by decide] at this
    exact this) (fun u H hu => by
    obtain ⟨r, H', h, hr, _⟩ := PA.z_30 (k := 6) (p := 5) (l := PA.pr5) (x := u) (H := H) (by omega) (by omega) (by decide) (by intro q hq; revert q; decide) (.inl hu)
    refine ⟨_, H', h, ?_, trivial⟩
    rcases hr with ⟨d, d1, d2, _, rfl⟩ | ⟨d3, rfl⟩
    · have := hd d d1
      rw [d2] at this
      have : d = 6 := by simpa using this.symm
      subst this
      rfl
    · have := d3 6 (by decide)
      rw [hd 6 (by decide)] at this
      cases this)
  exact ⟨H', (PA.cfZ_step rfl rfl).trans h⟩
theorem run (n : Int) : ∃ cf, CFok Try.prog cf ∧ ∃ H', cf 8 [.int .i64 n] ⟨.e, 0⟩ = some (.bool true, H') := by
  by_cases h1 : n < 1 ∨ n > 1000000
  · obtain ⟨v, H', h, rfl, _⟩ := PA.x8a (cf := PA.cfL 1) (fuel := 300) (H := ⟨.e, 0⟩) h1 (fun H => PA.fw_17) (fun H => by
      obtain ⟨v, H', h, q⟩ := PA.x26a (cf := PA.cfL 0) (fuel := 300) (H := H) h1
      exact ⟨v, H', (PA.fw_step rfl rfl).trans h, q⟩) (fun H => by
      obtain ⟨v, H', h, q⟩ := PA.x27a (cf := PA.cfL 0) (fuel := 300) (H := H) (n := n) (by omega)
      exact ⟨v, H', (PA.fw_step rfl rfl).trans h, q⟩)
    exact ⟨_, PA.cfL_ok 2, H', (PA.fw_step rfl rfl).trans h⟩
  · by_cases h2 : n > 5
    · obtain ⟨m, rfl⟩ : ∃ m : Nat, n = (m : Int) := ⟨n.toNat, by omega⟩
      have hm : 6 ≤ m ∧ m ≤ 1000000 := by omega
      obtain ⟨v, H', h, rfl, _⟩ := PA.x8b (cf := PA.cfL 2) (fuel := 300) (H := ⟨.e, 0⟩) hm (fun H => PA.fw_17) (fun H => by
        obtain ⟨v, H', h, q⟩ := PA.x26b (cf := PA.cfL 1) (fuel := 300) (H := H) hm (fun H => by
          obtain ⟨v, H', h, q⟩ := PA.x52b (cf := PA.cfL 0) (fuel := 300) (H := H) hm
          exact ⟨v, H', (PA.fw_step rfl rfl).trans h, q⟩)
        exact ⟨v, H', (PA.fw_step rfl rfl).trans h, q⟩) (fun H => by
        obtain ⟨v, H', h, q⟩ := PA.x27a (cf := PA.cfL 1) (fuel := 300) (H := H) (n := (m : Int)) (by omega)
        exact ⟨v, H', (PA.fw_step rfl rfl).trans h, q⟩) (fun H => by
        obtain ⟨v, H', h, q⟩ := PA.x28b (cf := PA.cfL 1) (fuel := 300) (H := H) hm
        exact ⟨v, H', (PA.fw_step rfl rfl).trans h, q⟩)
      exact ⟨_, PA.cfL_ok 3, H', (PA.fw_step rfl rfl).trans h⟩
    · have h3 : n = 1 ∨ n = 2 ∨ n = 3 ∨ n = 4 ∨ n = 5 := by omega
      rcases h3 with rfl | rfl | rfl | rfl | rfl
      · exact ⟨_, PA.cfZ_ok 30, PA.isAV_some PA.fews1⟩
      · exact ⟨_, PA.cfZ_ok 30, PA.isAV_some PA.fews2⟩
      · exact ⟨_, PA.cfZ_ok 30, PA.isAV_some PA.fews3⟩
      · exact ⟨_, PA.cfZ_ok 30, PA.isAV_some PA.fews4⟩
      · exact ⟨_, PA.cfZ_ok 9, run5⟩
theorem call (w : World) (n : Int) : Calls Try.prog 8 #[.int .i64 n] w fun e w' => e = .returned (.bool true) ∧ Below w.heap.size w w' := by
  obtain ⟨cf, hcf, H', h1⟩ := run n
  have h3 := (hcf _ _ _ _ _ h1).2 (E0 w) w [.int .i64 n] (rel0 w) (by
    simp only [AVRelL]
    exact ⟨_, _, rfl, by simp only [AVRel], rfl⟩)
  refine h3.mono fun e w' ⟨u, E', he, hs, hr⟩ => ?_
  simp only [AVRel] at hr
  subst hr
  exact ⟨he, below0 hs⟩
set_option maxRecDepth 100000 in
theorem lifted (os : Os) (started : os.Started) (H : Type) (enc : TypeId × Value → H) :
    ReturnsInHanded {} Try.checked os 8 .any (Rows.newsFewsSpec.pre6 enc Try.prog Try.f8 Rows.newsFewsRow.domain false) (Rows.newsFewsSpec.post enc Try.prog Try.f8 false true false false) := by
  refine returnsInHanded_of_change (C := Try.checked) own started (by kernel_rfl) Try.func8
    (ChangeSpec.witness6 (enc := enc) (C := Try.checked) false ⟨#[], #[.int .i64 0], []⟩ 8 (by kernel_rfl) (by kernel_rfl) (by kernel_rfl) (by kernel_rfl)) ?_
  intro W base args ds gs before hval0 hW hcnd _
  have hval : ∀ (j : Nat) t v, Try.f8.params[j]? = some t → args[j]? = some v → Value.okWide Try.prog W .any base t v := hval0
  have hW' := hW
  obtain ⟨p, q, hA0, hV, rfl, hfz, hnd⟩ := hW
  have hA : DataW.TrodAll enc Try.prog W 0 (fun _ => true) true Try.f8.params.toList args.toList ds p := hA0
  rw [Try.params8] at hA hval
  obtain ⟨v0, vs0, d0, ds0, p0, q0, hargs, rfl, rfl, h0, r0⟩ := trodAll_cons hA
  obtain ⟨rfl, rfl, rfl⟩ := trodAll_nil r0
  obtain rfl : args = #[v0] := by cases args; simp_all
  obtain ⟨rfl, rfl⟩ := trodVars_none hV
  obtain ⟨n, rfl, rfl, rfl, wn⟩ := open_int Try.underlying3 (hval 0 3 v0 rfl rfl) h0
  clear hA0 hval0
  refine (call W n).mono fun e W' ⟨he, bel⟩ => ?_
  subst he
  exact ⟨_, rfl, _, _, _, [], _, [], hW', trodAll_mk1 (shut_bool Try.underlying4 _), trodAll_mk1 (shut_int Try.underlying3 wn), rfl, bel.frame _, fun h => by cases h⟩
end Go.Proofs.Ytpbighinamljbaa.newsFews
namespace Go.Proofs.Ytpbighinamljbaa
open Go
/-- The row of NewsFews. -/
theorem newsFews_holds : Rows.NewsFewsSaid :=
  OpenClaim.holds_of_wide 8 Try.f8 rfl rfl rfl rfl rfl rfl rfl ⟨rfl, rfl, rfl, rfl, rfl⟩ rfl rfl rfl rfl rfl (by kernel_rfl) Try.func8 (by kernel_rfl)
    (of_decide_eq_true (by kernel_rfl)) (by unfold Func.isWrapper; first | (rw [if_pos (by decide +kernel)]; kernel_rfl) | (rw [if_neg (by decide +kernel)]; exact ⟨rfl, rfl⟩))
    (fun os started H enc _ => newsFews.lifted os started H enc)
#print axioms newsFews_holds
end Go.Proofs.Ytpbighinamljbaa
