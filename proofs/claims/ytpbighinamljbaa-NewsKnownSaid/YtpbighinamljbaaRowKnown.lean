/- NewsKnown: one call more leaves everybody with what was known, and both callers with the same, for all inputs: the row. No condition. -/
import Derived.Test.YtpbighinamljbaaRows
import Derived.Test.YtpbighinamljbaaKnown3
import Derived.Test.YtpbighinamljbaaInput
import Derived.ProofKit
import Derived.OpenShut
import Derived.LaidMore
import Derived.Lay
import Derived.SizedLaws
import Derived.Carry
namespace Go.Proofs.Ytpbighinamljbaa.newsKnown
open Go Go.ChangeShapes Go.WideShapes Go.ChangeAt Go.RowKit Go.Eng
set_option linter.unusedVariables false
theorem own : ownKnob Try.prog.godebug = none := by kernel_rfl
theorem laidOut : laidOutB Try.prog = true := by kernel_rfl

theorem call (w : World) (n : Nat) (x : PA.Prs) (c : Nat × Nat) (v : Value) (hn : n < 256) (hx : ∀ p ∈ x, p.1 < 256 ∧ p.2 < 256) (hc : c.1 < 256 ∧ c.2 < 256) (hv : AVRel (E0 w) w (.imm (PA.arrC x) x.length false) v) :
    Calls Try.prog 12 #[.int .u8 (n : Int), v, .agg #[.int .u8 (c.1 : Int), .int .u8 (c.2 : Int)]] w fun e w' => e = .returned (.bool true) ∧ Below w.heap.size w w' := by
  obtain ⟨u, H', h1, rfl⟩ := PA.known_ok (k := 0) (fuel := 300) (H := ⟨.e, 0⟩) (c := c) (fun j _ => rfl) hn hx hc (by omega)
  have h2 : PA.cfL 2 12 [.int .u8 (n : Int), .imm (PA.arrC x) x.length false, .agg [.int .u8 (c.1 : Int), .int .u8 (c.2 : Int)]] ⟨.e, 0⟩ = some (.bool true, H') := (PA.cfL_step rfl rfl).trans h1
  have h3 := (PA.cfL_ok 2 _ _ _ _ _ h2).2 (E0 w) w [.int .u8 (n : Int), v, .agg #[.int .u8 (c.1 : Int), .int .u8 (c.2 : Int)]] (rel0 w) (by
    simp only [AVRelL]
    refine ⟨_, _, rfl, by simp only [AVRel], _, _, rfl, hv, _, _, rfl, ?_, rfl⟩
    simp only [AVRel, AVRelL]
    exact ⟨_, rfl, _, _, rfl, rfl, _, _, rfl, rfl, rfl⟩)
  refine h3.mono fun e w' ⟨u, E', he, hs, hr⟩ => ?_
  simp only [AVRel] at hr
  subst hr
  exact ⟨he, below0 hs⟩

set_option maxRecDepth 100000 in
theorem lifted (os : Os) (started : os.Started) (H : Type) (enc : TypeId × Value → H) :
    ReturnsInHanded {} Try.checked os 12 .any (Rows.newsKnownSpec.pre6 enc Try.prog Try.f12 Rows.newsKnownRow.domain false) (Rows.newsKnownSpec.post enc Try.prog Try.f12 false true false false) := by
  refine returnsInHanded_of_change (C := Try.checked) own started (by kernel_rfl) Try.func12
    (ChangeSpec.witness6 (enc := enc) (C := Try.checked) false ⟨#[], #[.int .u8 0, .slice none 0 0, .agg #[.int .u8 0, .int .u8 0]], []⟩ 8 (by kernel_rfl) (by kernel_rfl) (by kernel_rfl) (by kernel_rfl)) ?_
  intro W base args ds gs before hval0 hW hcnd _
  have hval : ∀ (j : Nat) t v, Try.f12.params[j]? = some t → args[j]? = some v → Value.okWide Try.prog W .any base t v := hval0
  have hW' := hW
  obtain ⟨p, q, hA0, hV, rfl, hfz, hnd⟩ := hW
  have hA : DataW.TrodAll enc Try.prog W 0 (fun _ => true) true Try.f12.params.toList args.toList ds p := hA0
  rw [Try.params12] at hA hval
  obtain ⟨v0, vs0, d0, ds0, p0, q0, hargs, rfl, rfl, h0, r0⟩ := trodAll_cons hA
  obtain ⟨v1, vs1, d1, ds1, p1, q1, hargs1, rfl, rfl, h1, r1⟩ := trodAll_cons r0
  obtain ⟨v2, vs2, d2, ds2, p2, q2, hargs2, rfl, rfl, h2, r2⟩ := trodAll_cons r1
  obtain ⟨rfl, rfl, rfl⟩ := trodAll_nil r2
  subst hargs2; subst hargs1
  obtain rfl : args = #[v0, v1, v2] := by cases args; simp_all
  obtain ⟨rfl, rfl⟩ := trodVars_none hV
  obtain ⟨n, rfl, rfl, rfl, wn⟩ := open_int Try.underlying5 (hval 0 5 v0 rfl rfl) h0
  obtain ⟨a0, len, cap, hv1⟩ := okWide_slice Try.underlying36 (hval 1 36 v1 rfl rfl)
  obtain ⟨x, hx, hrel⟩ := PA.read_input Try.underlying36 Try.underlying74 Try.underlying5 (by kernel_rfl) (by kernel_rfl) hv1 h1
  obtain ⟨n, rfl, hn⟩ := PA.u8_nat wn
  obtain ⟨cs, rfl⟩ : ∃ cs, v2 = .agg cs := by
    have h := hval 2 74 v2 rfl rfl
    simp only [Value.okWide, Try.underlying74] at h
    obtain ⟨cs, h, _⟩ := h
    exact ⟨cs, h⟩
  obtain ⟨c, hc, hc0, hc1⟩ : ∃ c : Nat × Nat, cs = #[.int .u8 (c.1 : Int), .int .u8 (c.2 : Int)] ∧ c.1 < 256 ∧ c.2 < 256 := by
    obtain ⟨fuel, hf⟩ := id h2
    obtain ⟨c, e, q1, q2⟩ := PA.open_arr2 Try.underlying74 Try.underlying5 (by kernel_rfl) (by kernel_rfl) hf
    exact ⟨c, by cases cs; simpa [Value.cells] using e, q1, q2⟩
  subst hc
  clear hA0 hval0
  refine (call W n x c v1 hn hx ⟨hc0, hc1⟩ hrel).mono fun e W' ⟨he, bel⟩ => ?_
  subst he
  have hlt1 : ∀ x ∈ p1, x.block < W.heap.size := fun x hx => by simpa using hW'.lt x (by simp [hx])
  have hlt2 : ∀ x ∈ p2, x.block < W.heap.size := fun x hx => by simpa using hW'.lt x (by simp [hx])
  exact ⟨_, rfl, _, _, _, [], _, [], hW', trodAll_mk1 (shut_bool Try.underlying4 _),
    trodAll_cons_mk (shut_int Try.underlying5 wn) (trodAll_cons_mk (Below.trod laidOut (by kernel_rfl) (of_decide_eq_true (by kernel_rfl)) h1 bel hlt1) (trodAll_cons_mk (Below.trod laidOut (by kernel_rfl) (of_decide_eq_true (by kernel_rfl)) h2 bel hlt2) trodAll_mk0)), rfl, bel.frame _, fun h => by cases h⟩
end Go.Proofs.Ytpbighinamljbaa.newsKnown
namespace Go.Proofs.Ytpbighinamljbaa
open Go
/-- The row of NewsKnown. -/
theorem newsKnown_holds : Rows.NewsKnownSaid :=
  OpenClaim.holds_of_wide 12 Try.f12 rfl rfl rfl rfl rfl rfl rfl ⟨rfl, rfl, rfl, rfl, rfl⟩ rfl rfl rfl rfl rfl (by kernel_rfl) Try.func12 (by kernel_rfl)
    (of_decide_eq_true (by kernel_rfl)) (by unfold Func.isWrapper; first | (rw [if_pos (by decide +kernel)]; kernel_rfl) | (rw [if_neg (by decide +kernel)]; exact ⟨rfl, rfl⟩))
    (fun os started H enc _ => newsKnown.lifted os started H enc)
#print axioms newsKnown_holds
end Go.Proofs.Ytpbighinamljbaa
