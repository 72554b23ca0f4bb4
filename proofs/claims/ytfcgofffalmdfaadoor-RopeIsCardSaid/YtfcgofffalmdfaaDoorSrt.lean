/- slices.SortFunc at pairs of numbers: the kit's contract at this program. No condition. -/
import Derived.Test.YtfcgofffalmdfaaDoorEngC
import Derived.Test.YtfcgofffalmdfaaDoorShelf
import Derived.WalkKit
import Derived.KernelRfl
namespace Go.Proofs
open Go.Shelf Go.RowKit Go.Lib Go.Sort Go.Eng
set_option maxHeartbeats 1000000 in
theorem Tryd.closure34 (x0 x1 y0 y1 : Int) (W : World) (hs : IntKind.i64.wrap (x0 - y0) = x0 - y0) : Calls Tryd.prog 34 #[.agg #[.int .i64 x0, .int .i64 x1], .agg #[.int .i64 y0, .int .i64 y1]] W fun e w' => e = .returned (.int .i64 (x0 - y0)) ∧ ∃ q os', w' = Go.Sort.grow (W.drewN q) os' := by
  go_enter Tryd.func34, Tryd.ntmps34
  go_wp2
  go_ret
  refine ⟨?_, 0, _, by rw [alloc_eq_grow, alloc_eq_grow, grow_grow]; rfl⟩
  first | rfl | simp [hs]
theorem Tryd.sortC : SortC Tryd.prog 33 34 := by
  intro blk off cap d w hH hblk hsz
  have eg : ∀ args w, (callFunc 34 args).run Tryd.prog w = .ok (.enter 34 args) w := enters_of Tryd.func34 (by kernel_rfl) rfl
  have hlt : ∀ x y : BP, ltOf cmpBP x y = ltBP x y := by
    intro x y
    unfold ltOf cmpBP ltBP
    by_cases h : x.1.1 < y.1.1
    · rw [decide_eq_true h, decide_eq_true (by omega)]
    · rw [decide_eq_false h, decide_eq_false (by omega)]
  have hO : SWO (ltOf cmpBP) := ⟨fun x => by rw [hlt]; simp [ltBP], fun x y z h1 h2 => by rw [hlt] at *; simp [ltBP] at *; omega, fun x y z h1 h2 => by rw [hlt] at *; simp [ltBP] at *; omega⟩
  have hc : CmpLays Tryd.prog 34 #[] encBP 2 cmpBP blk off d.size w := by
    intro m os dk _ x y
    have hx := x.2
    have hy := y.2
    simp only [okP, Bool.and_eq_true, decide_eq_true_eq] at hx hy
    exact Tryd.closure34 _ _ _ _ _ (by simp only [IntKind.wrap, IntKind.bits, IntKind.signed]; simp; omega)
  have h := AnyQ.slices_SortFunc Tryd.sortPair 2 Tryd.isAgg31 Tryd.sizeOf31 encBP (fun _ => rfl) (fun x v hv => by simp [encBP] at hv; rcases hv with rfl | rfl <;> rfl) cmpBP hO 34 #[] blk off cap d w eg hc hH hblk hsz
  refine h.mono ?_
  rintro e w' ⟨rfl, d', n, os, hp, hs, rfl⟩
  refine ⟨rfl, d', n, os, hp, ?_, rfl⟩
  intro i j h1 h2 h3
  rw [← hlt]
  exact hs i j h1 h2 h3
theorem Tryd.sortK_ok : CFok Tryd.prog (sortK 33 34) := Go.Eng.sortK_ok ⟨_, Tryd.func33, by kernel_rfl, by kernel_rfl⟩ Tryd.sortC
end Go.Proofs
