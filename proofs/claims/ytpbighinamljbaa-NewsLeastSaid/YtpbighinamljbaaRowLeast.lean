/- NewsLeast: calls after which all know all are at least as many as Fewest tells, for all inputs: the row. No condition. -/
import Derived.Test.YtpbighinamljbaaRows
import Derived.Test.YtpbighinamljbaaLeast
import Derived.Test.YtpbighinamljbaaInput
import Derived.ProofKit
import Derived.OpenShut
import Derived.LaidMore
import Derived.Lay
import Derived.SizedLaws
import Derived.Carry
namespace Go.Proofs.Ytpbighinamljbaa.newsLeast
open Go Go.ChangeShapes Go.WideShapes Go.ChangeAt Go.RowKit Go.Eng
set_option linter.unusedVariables false
theorem own : ownKnob Try.prog.godebug = none := by kernel_rfl
theorem laidOut : laidOutB Try.prog = true := by kernel_rfl

theorem call (w : World) (n : Nat) (x : PA.Prs) (v : Value) (hn : n < 256) (hx : ∀ p ∈ x, p.1 < 256 ∧ p.2 < 256) (hv : AVRel (E0 w) w (.imm (PA.arrC x) x.length false) v) :
    Calls Try.prog 9 #[.int .u8 (n : Int), v] w fun e w' => e = .returned (.bool true) ∧ Below w.heap.size w w' := by
  obtain ⟨u, H', h1, rfl⟩ := PA.least_ok (k := 0) (fuel := 300) (H := ⟨.e, 0⟩) hn hx
  have h2 : PA.cfD 3 9 [.int .u8 (n : Int), .imm (PA.arrC x) x.length false] ⟨.e, 0⟩ = some (.bool true, H') := (PA.cfD_step rfl rfl).trans h1
  have h3 := (PA.cfD_ok 3 _ _ _ _ _ h2).2 (E0 w) w [.int .u8 (n : Int), v] (rel0 w) (by
    simp only [AVRelL]
    exact ⟨_, _, rfl, by simp only [AVRel], _, _, rfl, hv, rfl⟩)
  refine h3.mono fun e w' ⟨u, E', he, hs, hr⟩ => ?_
  simp only [AVRel] at hr
  subst hr
  exact ⟨he, below0 hs⟩

set_option maxRecDepth 100000 in
theorem lifted (os : Os) (started : os.Started) (H : Type) (enc : TypeId × Value → H) :
    ReturnsInHanded {} Try.checked os 9 .any (Rows.newsLeastSpec.pre6 enc Try.prog Try.f9 Rows.newsLeastRow.domain false) (Rows.newsLeastSpec.post enc Try.prog Try.f9 false true false false) := by
  refine returnsInHanded_of_change (C := Try.checked) own started (by kernel_rfl) Try.func9
    (ChangeSpec.witness6 (enc := enc) (C := Try.checked) false ⟨#[], #[.int .u8 0, .slice none 0 0], []⟩ 8 (by kernel_rfl) (by kernel_rfl) (by kernel_rfl) (by kernel_rfl)) ?_
  intro W base args ds gs before hval0 hW hcnd _
  have hval : ∀ (j : Nat) t v, Try.f9.params[j]? = some t → args[j]? = some v → Value.okWide Try.prog W .any base t v := hval0
  have hW' := hW
  obtain ⟨p, q, hA0, hV, rfl, hfz, hnd⟩ := hW
  have hA : DataW.TrodAll enc Try.prog W 0 (fun _ => true) true Try.f9.params.toList args.toList ds p := hA0
  rw [Try.params9] at hA hval
  obtain ⟨v0, v1, d0, d1, p0, p1, rfl, rfl, rfl, h0, h1⟩ := trodAll_two hA
  obtain ⟨rfl, rfl⟩ := trodVars_none hV
  obtain ⟨n, rfl, rfl, rfl, wn⟩ := open_int Try.underlying5 (hval 0 5 v0 rfl rfl) h0
  obtain ⟨a0, len, cap, hv1⟩ := okWide_slice Try.underlying36 (hval 1 36 v1 rfl rfl)
  obtain ⟨x, hx, hrel⟩ := PA.read_input Try.underlying36 Try.underlying74 Try.underlying5 (by kernel_rfl) (by kernel_rfl) hv1 h1
  obtain ⟨n, rfl, hn⟩ := PA.u8_nat wn
  clear hA0 hval0
  refine (call W n x v1 hn hx hrel).mono fun e W' ⟨he, bel⟩ => ?_
  subst he
  have hlt : ∀ x ∈ p1, x.block < W.heap.size := fun x hx => by simpa using hW'.lt x (by simpa using hx)
  exact ⟨_, rfl, _, _, _, [], _, [], hW', trodAll_mk1 (shut_bool Try.underlying4 _), trodAll_mk2 (shut_int Try.underlying5 wn) (Below.trod laidOut (by kernel_rfl) (of_decide_eq_true (by kernel_rfl)) h1 bel hlt), rfl, bel.frame _, fun h => by cases h⟩
end Go.Proofs.Ytpbighinamljbaa.newsLeast
namespace Go.Proofs.Ytpbighinamljbaa
open Go
/-- The row of NewsLeast. -/
theorem newsLeast_holds : Rows.NewsLeastSaid :=
  OpenClaim.holds_of_wide 9 Try.f9 rfl rfl rfl rfl rfl rfl rfl ⟨rfl, rfl, rfl, rfl, rfl⟩ rfl rfl rfl rfl rfl (by kernel_rfl) Try.func9 (by kernel_rfl)
    (of_decide_eq_true (by kernel_rfl)) (by unfold Func.isWrapper; first | (rw [if_pos (by decide +kernel)]; kernel_rfl) | (rw [if_neg (by decide +kernel)]; exact ⟨rfl, rfl⟩))
    (fun os started H enc _ => newsLeast.lifted os started H enc)
#print axioms newsLeast_holds
end Go.Proofs.Ytpbighinamljbaa
