/- A call, run on six numbers that are not known. No condition. -/
import Derived.Test.YtpbighinamljbaaTab
set_option linter.unusedSimpArgs false
set_option linter.unusedVariables false
namespace Go.Proofs.Ytpbighinamljbaa.PA
open Go Go.Eng Go.Proofs
/-- Two sets together. -/
def orU (x y : Int) : Int := match binA .or (.int .u8 x) (.int .u8 y) with | some (.int _ n) => n | _ => 0
/-- The six numbers behind a call. -/
def callA (k : List Int) (a b : Nat) : List Int := (k.set a (orU (k.getD a 0) (k.getD b 0))).set b (orU (k.getD a 0) (k.getD b 0))
theorem map_fst {r : Option (AV × AHeap)} {v : AV} (h : r.map (·.1) = some v) : ∃ H', r = some (v, H') := by
  obtain ⟨⟨u, H⟩, h1, h2⟩ := Option.map_eq_some_iff.1 h
  simp only at h2
  subst h2
  exact ⟨H, h1⟩
theorem tabCall (x0 x1 x2 x3 x4 x5 : Int) : ∀ a b : Nat, a < 6 → b < 6 → ∃ H', xcall F 300 2 59 [.agg ([x0, x1, x2, x3, x4, x5].map (AV.int .u8)), .agg [natA a, natA b]] H0 = some (.agg ((callA [x0, x1, x2, x3, x4, x5] a b).map (AV.int .u8)), H') := by
  intro a b ha hb
  match a, b, ha, hb with
  | 0, 0, _, _ => exact map_fst (by kernel_rfl)
  | 0, 1, _, _ => exact map_fst (by kernel_rfl)
  | 0, 2, _, _ => exact map_fst (by kernel_rfl)
  | 0, 3, _, _ => exact map_fst (by kernel_rfl)
  | 0, 4, _, _ => exact map_fst (by kernel_rfl)
  | 0, 5, _, _ => exact map_fst (by kernel_rfl)
  | 1, 0, _, _ => exact map_fst (by kernel_rfl)
  | 1, 1, _, _ => exact map_fst (by kernel_rfl)
  | 1, 2, _, _ => exact map_fst (by kernel_rfl)
  | 1, 3, _, _ => exact map_fst (by kernel_rfl)
  | 1, 4, _, _ => exact map_fst (by kernel_rfl)
  | 1, 5, _, _ => exact map_fst (by kernel_rfl)
  | 2, 0, _, _ => exact map_fst (by kernel_rfl)
  | 2, 1, _, _ => exact map_fst (by kernel_rfl)
  | 2, 2, _, _ => exact map_fst (by kernel_rfl)
  | 2, 3, _, _ => exact map_fst (by kernel_rfl)
  | 2, 4, _, _ => exact map_fst (by kernel_rfl)
  | 2, 5, _, _ => exact map_fst (by kernel_rfl)
  | 3, 0, _, _ => exact map_fst (by kernel_rfl)
  | 3, 1, _, _ => exact map_fst (by kernel_rfl)
  | 3, 2, _, _ => exact map_fst (by kernel_rfl)
  | 3, 3, _, _ => exact map_fst (by kernel_rfl)
  | 3, 4, _, _ => exact map_fst (by kernel_rfl)
  | 3, 5, _, _ => exact map_fst (by kernel_rfl)
  | 4, 0, _, _ => exact map_fst (by kernel_rfl)
  | 4, 1, _, _ => exact map_fst (by kernel_rfl)
  | 4, 2, _, _ => exact map_fst (by kernel_rfl)
  | 4, 3, _, _ => exact map_fst (by kernel_rfl)
  | 4, 4, _, _ => exact map_fst (by kernel_rfl)
  | 4, 5, _, _ => exact map_fst (by kernel_rfl)
  | 5, 0, _, _ => exact map_fst (by kernel_rfl)
  | 5, 1, _, _ => exact map_fst (by kernel_rfl)
  | 5, 2, _, _ => exact map_fst (by kernel_rfl)
  | 5, 3, _, _ => exact map_fst (by kernel_rfl)
  | 5, 4, _, _ => exact map_fst (by kernel_rfl)
  | 5, 5, _, _ => exact map_fst (by kernel_rfl)
end Go.Proofs.Ytpbighinamljbaa.PA
