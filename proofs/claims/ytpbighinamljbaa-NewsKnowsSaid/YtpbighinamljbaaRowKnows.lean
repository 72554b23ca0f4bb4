/- NewsKnows: Knows and Done return what the reference returns, for all numbers and all calls: the row. No condition. -/
import Derived.Test.YtpbighinamljbaaRows
import Derived.Test.YtpbighinamljbaaLaw11e
import Derived.Test.YtpbighinamljbaaLaw11v
import Derived.Test.YtpbighinamljbaaInput2
import Derived.ProofKit
import Derived.OpenShut
import Derived.LaidMore
import Derived.Lay
import Derived.SizedLaws
import Derived.Carry
namespace Go.Proofs.Ytpbighinamljbaa.newsKnows
open Go Go.ChangeShapes Go.WideShapes Go.ChangeAt Go.RowKit Go.Eng
set_option linter.unusedVariables false
theorem own : ownKnob Try.prog.godebug = none := by kernel_rfl
theorem laidOut : laidOutB Try.prog = true := by kernel_rfl
theorem call (w : World) (n : Int) (x : PA.ZPrs) (v : Value) (hv : AVRel (E0 w) w (.imm (PA.zc x) x.length false) v) :
    Calls Try.prog 11 #[.int .i64 n, v] w fun e w' => e = .returned (.bool true) ∧ Below w.heap.size w w' := by
  have h1 : ∃ u H', xfunc (PA.cfZ 2) 300 PA.L11 [.int .i64 n, .imm (PA.zc x) x.length false] ⟨.e, 0⟩ = some (u, H') ∧ u = .bool true := by
    by_cases he : PA.errZ n (x.take (min x.length 61)) = 0
    · exact PA.knows_law_v (k := 0) (fuel := 300) he (by omega)
    · exact PA.knows_law_e (k := 1) (fuel := 300) he
  obtain ⟨u, H', h1, rfl⟩ := h1
  have h2 : PA.cfZ 3 11 [.int .i64 n, .imm (PA.zc x) x.length false] ⟨.e, 0⟩ = some (.bool true, H') := (PA.cfZ_step rfl rfl).trans h1
  have h3 := (PA.cfZ_ok 3 _ _ _ _ _ h2).2 (E0 w) w [.int .i64 n, v] (rel0 w) (by
    simp only [AVRelL]
    exact ⟨_, _, rfl, by simp only [AVRel], _, _, rfl, hv, rfl⟩)
  refine h3.mono fun e w' ⟨u, E', he, hs, hr⟩ => ?_
  simp only [AVRel] at hr
  subst hr
  exact ⟨he, below0 hs⟩
set_option maxRecDepth 100000 in
theorem lifted (os : Os) (started : os.Started) (H : Type) (enc : TypeId × Value → H) :
    ReturnsInHanded {} Try.checked os 11 .any (Rows.newsKnowsSpec.pre6 enc Try.prog Try.f11 Rows.newsKnowsRow.domain false) (Rows.newsKnowsSpec.post enc Try.prog Try.f11 false true false false) := by
  refine returnsInHanded_of_change (C := Try.checked) own started (by kernel_rfl) Try.func11
    (ChangeSpec.witness6 (enc := enc) (C := Try.checked) false ⟨#[], #[.int .i64 0, .slice none 0 0], []⟩ 8 (by kernel_rfl) (by kernel_rfl) (by kernel_rfl) (by kernel_rfl)) ?_
  intro W base args ds gs before hval0 hW hcnd _
  have hval : ∀ (j : Nat) t v, Try.f11.params[j]? = some t → args[j]? = some v → Value.okWide Try.prog W .any base t v := hval0
  have hW' := hW
  obtain ⟨p, q, hA0, hV, rfl, hfz, hnd⟩ := hW
  have hA : DataW.TrodAll enc Try.prog W 0 (fun _ => true) true Try.f11.params.toList args.toList ds p := hA0
  rw [Try.params11] at hA hval
  obtain ⟨v0, v1, d0, d1, p0, p1, rfl, rfl, rfl, h0, h1⟩ := trodAll_two hA
  obtain ⟨rfl, rfl⟩ := trodVars_none hV
  obtain ⟨n, rfl, rfl, rfl, wn⟩ := open_int Try.underlying3 (hval 0 3 v0 rfl rfl) h0
  obtain ⟨a0, len, cap, hv1⟩ := okWide_slice Try.underlying22 (hval 1 22 v1 rfl rfl)
  obtain ⟨x, hrel⟩ := PA.read_pairs Try.underlying22 Try.underlying40 (by kernel_rfl) rfl rfl (by kernel_rfl) (by kernel_rfl) Try.underlying3 Try.underlying3 hv1 h1
  clear hA0 hval0
  refine (call W n x v1 hrel).mono fun e W' ⟨he, bel⟩ => ?_
  subst he
  have hlt : ∀ x ∈ p1, x.block < W.heap.size := fun x hx => by simpa using hW'.lt x (by simpa using hx)
  exact ⟨_, rfl, _, _, _, [], _, [], hW', trodAll_mk1 (shut_bool Try.underlying4 _), trodAll_mk2 (shut_int Try.underlying3 wn) (Below.trod laidOut (by kernel_rfl) (of_decide_eq_true (by kernel_rfl)) h1 bel hlt), rfl, bel.frame _, fun h => by cases h⟩
end Go.Proofs.Ytpbighinamljbaa.newsKnows
namespace Go.Proofs.Ytpbighinamljbaa
open Go
/-- The row of NewsKnows. -/
theorem newsKnows_holds : Rows.NewsKnowsSaid :=
  OpenClaim.holds_of_wide 11 Try.f11 rfl rfl rfl rfl rfl rfl rfl ⟨rfl, rfl, rfl, rfl, rfl⟩ rfl rfl rfl rfl rfl (by kernel_rfl) Try.func11 (by kernel_rfl)
    (of_decide_eq_true (by kernel_rfl)) (by unfold Func.isWrapper; first | (rw [if_pos (by decide +kernel)]; kernel_rfl) | (rw [if_neg (by decide +kernel)]; exact ⟨rfl, rfl⟩))
    (fun os started H enc _ => newsKnows.lifted os started H enc)
#print axioms newsKnows_holds
end Go.Proofs.Ytpbighinamljbaa
