/- A list of pairs of ints, as it is read. No condition. -/
import Derived.Test.YtpbighinamljbaaChk
import Derived.Test.YtpbighinamljbaaInput
set_option linter.unusedSimpArgs false
set_option linter.unusedVariables false
namespace Go.Proofs.Ytpbighinamljbaa.PA
open Go Go.Eng Go.Proofs Go.RowKit Go.ChangeShapes Go.Deep
instance : Inhabited (Int × Int) := ⟨(0, 0)⟩
theorem relL_zc {E : Env} {w : World} : ∀ x : ZPrs, AVRelL E w (zc x) (x.flatMap fun p => [Value.int .i64 p.1, Value.int .i64 p.2])
  | [] => by simp [zc, AVRelL]
  | p :: x => by
    have := relL_zc (E := E) (w := w) x
    simp only [zc, List.flatMap_cons, List.cons_append, List.nil_append, AVRelL, AVRel] at this ⊢
    exact ⟨_, _, rfl, rfl, _, _, rfl, rfl, this⟩
theorem zc_vals : ∀ (x : ZPrs) (j : Nat) (u : Value), (x.flatMap fun p => [Value.int .i64 p.1, Value.int .i64 p.2])[j]? = some u →
    ∃ i p, x[i]? = some p ∧ ((j = i * 2 ∧ u = .int .i64 p.1) ∨ (j = i * 2 + 1 ∧ u = .int .i64 p.2))
  | [], j, u, h => by simp at h
  | p :: x, 0, u, h => by simp at h; exact ⟨0, p, rfl, .inl ⟨rfl, h.symm⟩⟩
  | p :: x, 1, u, h => by simp at h; exact ⟨0, p, rfl, .inr ⟨rfl, h.symm⟩⟩
  | p :: x, j + 2, u, h => by
    have h' : (x.flatMap fun p => [Value.int .i64 p.1, Value.int .i64 p.2])[j]? = some u := by simpa using h
    obtain ⟨i, q, h1, h2⟩ := zc_vals x j u h'
    refine ⟨i + 1, q, by simpa using h1, ?_⟩
    rcases h2 with ⟨rfl, h2⟩ | ⟨rfl, h2⟩
    · exact .inl ⟨by omega, h2⟩
    · exact .inr ⟨by omega, h2⟩
section
variable {H : Type} {enc : TypeId × Value → H} {P : Program} {w : World} {base : Nat} {held : Bool}
/-- The pairs, read. -/
theorem read_pairs {t te : TypeId} {f0 f1 : Field} {v : Value} {d : DataW H} {ps : List MemPlace} (ht : P.underlying t = some (.slice te)) (hte : P.underlying te = some (.struct #[f0, f1])) (ct : P.cellsOf te = 2) (o0 : f0.offset = 0) (o1 : f1.offset = 1)
    (c0 : P.cellsOf f0.type = 1) (c1 : P.cellsOf f1.type = 1) (u0 : P.underlying f0.type = some (.int .i64)) (u1 : P.underlying f1.type = some (.int .i64))
    {a0 : Option Addr} {len cap : Nat} (hv : v = .slice a0 len cap) (h : DataW.Trod enc P w base (fun _ => true) held t v d ps) :
    ∃ x : ZPrs, AVRel (E0 w) w (.imm (zc x) x.length false) v := by
  subst hv
  obtain ⟨fuel, hf⟩ := h
  have hf' : DataW.trod enc P w base (fun _ => true) held fuel t [.slice a0 len cap] = some (d, ps) := hf
  rcases open_slice_pairs ht hte ct o0 o1 c0 c1 hf' with ⟨h0, _⟩ | ⟨a, len', cap', m, n, V0, V1, D0, D1, P0, P1, h0, hb, hl, hm, hmm, _, hx⟩
  · cases h0
    refine ⟨[], ?_⟩
    simp only [AVRel]
    exact .inl ⟨rfl, rfl, none, 0, rfl, by simp⟩
  · cases h0
    by_cases hz : len = 0
    · subst hz
      refine ⟨[], ?_⟩
      simp only [AVRel]
      exact .inl ⟨rfl, rfl, some a, cap, rfl, by simp⟩
    · have hmc : m = cap := by simpa using hmm
      obtain ⟨f, hfn⟩ := choose_lt (n := len) (p := fun i p => w.cell? (a.add (i * 2)) = some (.int .i64 (p : Int × Int).1) ∧ w.cell? (a.add (i * 2 + 1)) = some (.int .i64 p.2)) (fun i hi => by
        obtain ⟨e0, e1, t0, t1⟩ := hx i (by omega)
        obtain ⟨n0, q0, _, _⟩ := DataW.trod_int u0 t0
        obtain ⟨n1, q1, _, _⟩ := DataW.trod_int u1 t1
        refine ⟨(n0, n1), ?_, ?_⟩
        · rw [e0]; simpa using q0
        · rw [e1]; simpa using q1)
      have hs : a.spot = none := by
        have h0 := (hfn 0 (by omega)).1
        rw [Nat.zero_mul] at h0
        have h0' : w.cell? a = some (.int .i64 (f 0).1) := by simpa [Addr.add] using h0
        unfold World.cell? at h0'
        split at h0'
        · split at h0'
          · cases h0'
          · rename_i q
            simpa using q
        · cases h0'
      obtain ⟨b, s, sp⟩ := a
      simp only at hs
      subst hs
      have hadd : ∀ j, (⟨b, s, none⟩ : Addr).add j = ⟨b, s + j, none⟩ := fun j => by
        unfold Addr.add
        split
        · rename_i q; subst q; rfl
        · rfl
      refine ⟨(List.range len).map f, ?_⟩
      simp only [AVRel, List.length_map, List.length_range]
      refine .inr ⟨b, s, cap, _, rfl, ?_, fun j u hu => ?_, relL_zc _, hl, by simp⟩
      · have h0 := (hfn 0 (by omega)).1
        rw [hadd] at h0
        exact World.block_lt_of_cell? _ _ h0
      · obtain ⟨i, p, h1, h2⟩ := zc_vals _ _ _ hu
        rw [List.getElem?_map, Option.map_eq_some_iff] at h1
        obtain ⟨i', h1, rfl⟩ := h1
        have hi' : i < len := by
          rcases Nat.lt_or_ge i len with q | q
          · exact q
          · rw [List.getElem?_eq_none (by simpa using q)] at h1; cases h1
        rw [List.getElem?_range hi'] at h1
        cases h1
        rcases h2 with ⟨rfl, rfl⟩ | ⟨rfl, rfl⟩
        · rw [← hadd]; exact (hfn i hi').1
        · rw [← hadd]; exact (hfn i hi').2
end
end Go.Proofs.Ytpbighinamljbaa.PA
