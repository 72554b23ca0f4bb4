/- The keys of a map collected, at this program, as the abstract machine sees it: in some order. No condition. -/
import Derived.Test.YtpbighinamljbaaEngC
import Derived.Test.YtpbighinamljbaaColU
import Derived.Test.YtpbighinamljbaaProg
import Derived.KernelRfl
set_option linter.unusedSimpArgs false
set_option linter.unusedVariables false
namespace Go.Proofs.Ytpbighinamljbaa.PA
open Go Go.Eng Go.Proofs Go.Maps Go.Shelf Go.RowKit Go.WideShapes
def colRen : Ren := ⟨fun | 8 => 79 | 10 => 81 | 11 => 84 | n => n, fun | 23 => 105 | 24 => 101 | 26 => 100 | 28 => 109 | 33 => 121 | 3 => 62 | n => n, fun | n => n⟩
theorem col10 : SlLaysZU.n10 Try.prog colRen := {
  mixed := by kernel_rfl
  f10 := ⟨Try.f81.name, by decide, Try.func81.trans (congrArg some (by kernel_rfl))⟩
  t0 := Try.underlying0
  a0 := Try.isAgg0
  z0 := Try.sizeOf0
  v0 := Try.zeroValue0
  t4 := Try.underlying4
  a4 := Try.isAgg4
  z4 := Try.sizeOf4
  v4 := Try.zeroValue4
  t23 := Try.underlying105
  a23 := Try.isAgg105
  z23 := Try.sizeOf105
  v23 := Try.zeroValue105
  t26 := Try.underlying100
  a26 := Try.isAgg100
  z26 := Try.sizeOf100
  v26 := Try.zeroValue100
  t33 := Try.underlying121
  a33 := Try.isAgg121
  z33 := Try.sizeOf121
  v33 := Try.zeroValue121 }
theorem col11 : SlLaysZU.n11 Try.prog colRen := {
  mixed := by kernel_rfl
  f11 := ⟨Try.f84.name, by decide, Try.func84.trans (congrArg some (by kernel_rfl))⟩
  t0 := Try.underlying0
  a0 := Try.isAgg0
  z0 := Try.sizeOf0
  v0 := Try.zeroValue0
  t24 := Try.underlying101
  a24 := Try.isAgg101
  z24 := Try.sizeOf101
  v24 := Try.zeroValue101
  t26 := Try.underlying100
  a26 := Try.isAgg100
  z26 := Try.sizeOf100
  v26 := Try.zeroValue100
  t28 := Try.underlying109
  a28 := Try.isAgg109
  z28 := Try.sizeOf109
  v28 := Try.zeroValue109
  i26 := by kernel_rfl }
theorem col8 : SlLaysZU.n8 Try.prog colRen := { col11 with
  f8 := ⟨Try.f79.name, by decide, Try.func79.trans (congrArg some (by kernel_rfl))⟩ }
/-- A new object, in a world that has grown. -/
theorem Step.grown {E : Env} {H : AHeap} {w w' : World} (hR : Rel E H w) (hb : Below w.heap.size w w') {g room : Nat} (hg : w.heap.size ≤ g) (hg' : g < w'.heap.size) {o : AObj}
    (hO : Env.Ext E (E.add H.next ⟨g, 0, room⟩) w w' → ObjR (E.add H.next ⟨g, 0, room⟩) w' ⟨g, 0, room⟩ o) : Step E H w (E.add H.next ⟨g, 0, room⟩) (H.add o) w' := by
  have hn : E.ρ H.next = none := by
    cases h : E.ρ H.next with
    | none => rfl
    | some L => exact absurd (hR.dom _ _ h).1 (Nat.lt_irrefl _)
  have hext : Env.Ext E (E.add H.next ⟨g, 0, room⟩) w w' := by
    refine ⟨fun j L h => ?_, fun _ h => h, fun b hbI => hb.block b (hR.imm b hbI), fun _ _ _ h => h⟩
    simp only [Env.add]
    rw [if_neg (fun e => by rw [e, hn] at h; cases h)]
    exact h
  have hget : ∀ j, (H.add o).get j = if j = H.next then some o else H.get j := fun j => AHeap.get_add H o j
  have hsz := hb.size
  have hold : ∀ j p L, H.get j = some p → (E.add H.next ⟨g, 0, room⟩).ρ j = some L → E.ρ j = some L := by
    intro j p L hj hρ
    obtain ⟨L', q1, _⟩ := hR.obj j p hj
    have := hext.ρ j L' q1
    rw [hρ] at this
    cases this
    exact q1
  refine ⟨hext, ⟨fun j L hj => ?_, fun b hbI => ?_, fun j p hj => ?_, fun j k p q Lj Lk hj hk hρj hρk hne => ?_⟩, ⟨hb.os, hb.tape, hb.output, hsz, fun b hbI _ => hb.block b hbI⟩, fun j p L hj hρ => ?_, Nat.le_succ _, fun j L h => ?_, fun _ h => .inl h⟩
  · simp only [Env.add] at hj
    split at hj
    · rename_i e
      cases hj
      exact ⟨by subst e; exact Nat.lt_succ_self _, hg'⟩
    · have := hR.dom j L hj
      exact ⟨Nat.lt_succ_of_lt this.1, by omega⟩
  · have := hR.imm b hbI
    omega
  · rw [hget] at hj
    split at hj
    · rename_i e
      subst e
      cases hj
      refine ⟨⟨g, 0, room⟩, by simp [Env.add], hO hext, fun q => ?_⟩
      have := hR.imm _ q
      simp only at this
      omega
    · obtain ⟨L, q1, q2, q3⟩ := hR.obj j p hj
      exact ⟨L, hext.ρ _ _ q1, ObjR.mono hext (hb.block _ (hR.dom j L q1).2) q2, q3⟩
  · rw [hget] at hj hk
    by_cases ej : j = H.next
    · by_cases ek : k = H.next
      · exact absurd (ej.trans ek.symm) hne
      · rw [if_neg ek] at hk
        have h1 := hold k q Lk hk hρk
        have := (hR.dom k Lk h1).2
        subst ej
        simp only [Env.add, if_true, Option.some.injEq] at hρj
        subst hρj
        simp only
        omega
    · rw [if_neg ej] at hj
      have h1 := hold j p Lj hj hρj
      have := (hR.dom j Lj h1).2
      by_cases ek : k = H.next
      · subst ek
        simp only [Env.add, if_true, Option.some.injEq] at hρk
        subst hρk
        simp only
        omega
      · rw [if_neg ek] at hk
        exact hR.inj j k p q Lj Lk hj hk h1 (hold k q Lk hk hρk) hne
  · rw [hget] at hj
    split at hj
    · rename_i e
      subst e
      simp only [Env.add, if_true, Option.some.injEq] at hρ
      subst hρ
      exact .inl hg
    · exact .inr ⟨j, p, L, hj, hold j p L hj hρ, rfl⟩
  · simp only [Env.add] at h
    split at h
    · rename_i e; exact .inr (by omega)
    · exact .inl h
theorem Step.grown0 {E : Env} {H : AHeap} {w w' : World} (hR : Rel E H w) (hb : Below w.heap.size w w') : Step E H w E H w' := by
  have hext : Env.Ext E E w w' := ⟨fun _ _ h => h, fun _ h => h, fun b hbI => hb.block b (hR.imm b hbI), fun _ _ _ h => h⟩
  have hsz := hb.size
  refine ⟨hext, ⟨fun j L hj => ?_, fun b hbI => ?_, fun j p hj => ?_, hR.inj⟩, ⟨hb.os, hb.tape, hb.output, hsz, fun b hbI _ => hb.block b hbI⟩, fun j p L hj hρ => .inr ⟨j, p, L, hj, hρ, rfl⟩, Nat.le_refl _, fun j L h => .inl h, fun _ h => .inl h⟩
  · have := hR.dom j L hj
    exact ⟨this.1, by omega⟩
  · have := hR.imm b hbI
    omega
  · obtain ⟨L, q1, q2, q3⟩ := hR.obj j p hj
    exact ⟨L, q1, ObjR.mono hext (hb.block _ (hR.dom j L q1).2) q2, q3⟩
def keyInt : AV → Int
  | .int _ n => n
  | _ => 0
def keyU : AV → Bool
  | .int .u16 n => decide (0 ≤ n) && decide (n < 65536)
  | _ => false
theorem keyU_inv {x : AV} (h : keyU x = true) : ∃ n, x = .int .u16 n ∧ 0 ≤ n ∧ n < 65536 := by
  unfold keyU at h
  split at h
  · rename_i n
    simp only [Bool.and_eq_true, decide_eq_true_eq] at h
    exact ⟨n, rfl, h⟩
  · cases h
def colV (H : AHeap) (l : List Int) : AV := if l = [] then .nils else .sl H.next 0 l.length openCap
def colH (H : AHeap) (l : List Int) : AHeap := if l = [] then H else H.add (.cells (l.map (.int .u16)) (some 1))
theorem ent_keys {E : Env} {w : World} : ∀ {es : List (AV × AV)} {rows : List MapEntry}, EntR E w es rows → (∀ e ∈ es, keyU e.1 = true) → rows.map (·.key) = es.map (fun e => Value.int .u16 (keyInt e.1))
  | [], rows, h, _ => by simp only [EntR] at h; subst h; rfl
  | (k, v) :: es, rows, h, hk => by
    simp only [EntR] at h
    obtain ⟨e, rows', rfl, h1, h2, h3⟩ := h
    obtain ⟨n, e1, _⟩ := keyU_inv (hk (k, v) (by simp))
    simp only at e1
    subst e1
    simp only [AVRel] at h1
    rw [List.map_cons, List.map_cons, ent_keys h3 (fun e he => hk e (by simp [he])), h1]
    rfl
theorem u16_wf {n : Int} (h0 : 0 ≤ n) (h1 : n < 65536) : (Lit.int .u16 n).wf = true := by
  simp [Lit.wf, IntKind.min, IntKind.max, IntKind.bits, IntKind.signed]
  omega
def colR (_ : Value) : Option (DataW Nat × List MemPlace) := some (.nil, [])
theorem key_read {n : Int} (h0 : 0 ≤ n) (h1 : n < 65536) : keyOf Try.prog 100 (.int .u16 n) = some (.int .u16 n) := by
  simp [keyOf, Try.underlying100, mapKey, u16_wf h0 h1]
theorem fold_keys : ∀ (L : List (Lit × DataW Nat)), ((L.foldr DataW.insert []).map fun p => intOfU p.1).Perm (L.map fun p => intOfU p.1) := fun L => (sorted_perm L).map _
theorem collect_call {E : Env} {H : AHeap} {w : World} (hR : Rel E H w) {p q j : Nat} {cs : List AV} {opn : Option Nat} {es : List (AV × AV)} (hp : H.get p = some (.cells cs opn)) (hq : cs[q]? = some (.map j)) (hj : H.get j = some (.map es))
    (hk : ∀ e ∈ es, keyU e.1 = true) (hn : es.length ≤ 65536) {us : List Value} (hu : AVRelL E w [.fn 81 [.ptr p q]] us) :
    Calls Try.prog 79 us.toArray w fun e w' => ∃ (l : List Int) (u : Value) (E' : Env), e = .returned u ∧ l.Perm (es.map fun e => keyInt e.1) ∧ Step E H w E' (colH H l) w' ∧ AVRel E' w' (colV H l) u := by
  simp only [AVRelL, AVRel] at hu
  obtain ⟨u0, us', rfl, ⟨cap, rfl, hcap⟩, rfl⟩ := hu
  obtain ⟨u1, us1, e1, hptr, rfl⟩ := hcap
  obtain ⟨Lp, hρp, rfl⟩ := hptr
  have hcap : cap = #[.pointer (some ⟨Lp.b, Lp.s + q, none⟩)] := Array.toList_inj.1 e1
  subst hcap
  -- the box
  obtain ⟨L', q1, ⟨C, t, fz, vs, c1, c2, c3, _⟩, _⟩ := hR.obj _ _ hp
  rw [hρp] at q1
  cases q1
  obtain ⟨mv, hmv, hmr⟩ := c2.get hq
  simp only [AVRel] at hmr
  obtain ⟨Lj, hρj, rfl⟩ := hmr
  have hcell : w.cell? ⟨Lp.b, Lp.s + q, none⟩ = some (.map (some Lj.b)) := by
    simp only [World.cell?, c1]
    exact c3 q _ hmv
  have hlt : Lp.b < w.heap.size := (hR.dom p Lp hρp).2
  -- the map
  obtain ⟨L', q1, ⟨rows, clock, hb, es', hE, hpm, hd, hcl, hbn⟩, _⟩ := hR.obj _ _ hj
  rw [hρj] at q1
  cases q1
  have hk' : ∀ e ∈ es', keyU e.1 = true := fun e he => hk e (hpm.mem_iff.1 he)
  have hkeys := ent_keys hE hk'
  have hlen : rows.toList.length = es.length := by rw [hE.length, hpm.length_eq]
  have hkn : ∀ x ∈ rows.toList, ∃ n, x.key = .int .u16 n ∧ 0 ≤ n ∧ n < 65536 := by
    intro x hx
    have : x.key ∈ rows.toList.map (·.key) := List.mem_map_of_mem hx
    rw [hkeys] at this
    obtain ⟨e, he, hee⟩ := List.mem_map.1 this
    obtain ⟨n, hn, h0, h1⟩ := keyU_inv (hk' e he)
    refine ⟨n, ?_, h0, h1⟩
    rw [← hee, hn]
    rfl
  have hdis : (rows.toList.map (·.key)).Nodup := by
    rw [hkeys]
    have h1 : es'.Pairwise (fun a b => a.1 ≠ b.1) := (hpm.pairwise_iff (fun h e => h e.symm)).2 hd
    refine List.pairwise_map.2 (h1.imp_of_mem fun {a b} ha hb hne e => hne ?_)
    obtain ⟨n, hn, _⟩ := keyU_inv (hk' a ha)
    obtain ⟨m, hm, _⟩ := keyU_inv (hk' b hb)
    rw [hn, hm] at e ⊢
    simp only [keyInt, Value.int.injEq, true_and] at e
    rw [e]
  have hrd : ∀ x ∈ rows.toList, WideElems.rd Try.prog 100 colR x = some (.int .u16 (match x.key with | .int _ n => n | _ => 0), .nil) := by
    intro x hx
    obtain ⟨n, hn, h0, h1⟩ := hkn x hx
    simp [WideElems.rd, hn, key_read h0 h1, colR]
  have F : WideElems.Fit Try.prog 100 colR rows clock := ⟨by rw [← Array.length_toList, hlen]; unfold maxLen; omega, ⟨hcl, hbn, hdis⟩, fun x hx => ⟨_, hrd x hx⟩⟩
  have hown : w.ownsMap Try.prog (colRen.t 26) colR Lj.b rows.size (.map ((rows.toList.map (WideElems.rg Try.prog 100 colR)).foldr DataW.insert [])) := ⟨rows, clock, hb, F, Nat.le_refl _, rfl⟩
  have hrg : (rows.toList.map (WideElems.rg Try.prog 100 colR)).map (fun p => intOfU p.1) = es'.map fun e => keyInt e.1 := by
    have h1 : (rows.toList.map (WideElems.rg Try.prog 100 colR)).map (fun p => intOfU p.1) = (rows.toList.map (·.key)).map (fun k => match k with | .int _ n => n | _ => 0) := by
      rw [List.map_map, List.map_map]
      refine List.map_congr_left fun x hx => ?_
      simp only [Function.comp, WideElems.rg, hrd x hx, Option.getD_some, intOfU]
    rw [h1, hkeys, List.map_map]
    rfl
  have hsize : Maps.size (DataW.map ((rows.toList.map (WideElems.rg Try.prog 100 colR)).foldr DataW.insert [])) = es.length := by
    rw [Maps.size_eq, (sorted_perm _).length_eq, List.length_map, hlen]
  have hseq := AnyZU.keys_gives col10 (H := Nat) Fence.wide 1 trivial rfl (Nat.le_refl _) Lp.b (Lp.s + q) Lj.b rows.size _ w hlt hcell hown
  rw [hsize] at hseq
  have hcol := AnyZU.collect_in col8 Fence.wide 3 trivial trivial rfl (Nat.le_refl _) 81 #[.pointer (some ⟨Lp.b, Lp.s + q, none⟩)] trivial (fun args w => by
    have := (col10.f10).enters rfl
    exact this args w) _ es.length (by unfold maxLen; omega) (by omega) w hseq
  have hcall := callsIn_wide.1 hcol
  refine hcall.mono ?_
  rintro e w' ⟨v, ss, rfl, hS, hrow, hnil, hbel⟩
  refine ⟨ss, v, ?_⟩
  have hperm : ss.Perm (es.map fun e => keyInt e.1) := by
    refine hS.trans ((fold_keys _).trans ?_)
    rw [hrg]
    exact hpm.map _
  by_cases h0 : ss = []
  · refine ⟨E, rfl, hperm, ?_, ?_⟩
    · unfold colH
      rw [if_pos h0]
      exact Step.grown0 hR hbel
    · unfold colV
      rw [if_pos h0]
      simp only [AVRel]
      exact hnil.2 h0
  · obtain ⟨hl, hrow⟩ := hrow
    rcases hrow with ⟨e, _⟩ | ⟨g, cp, cur, rfl, g1, g2, g3, g4, g5, g6⟩
    · exact absurd (hnil.1 e) h0
    · have hgl : g < w'.heap.size := (Array.getElem?_eq_some_iff.1 g2).1
      have hvals : AVRelL (E.add H.next ⟨g, 0, cp⟩) w' (ss.map (AV.int .u16)) (ss.map encU) := by
        clear hS hnil hperm h0 hl g3 g6 hcall hcol
        induction ss with
        | nil => simp [AVRelL]
        | cons x r ih =>
          simp only [List.map_cons, AVRelL]
          exact ⟨_, _, rfl, by simp [AVRel], ih⟩
      refine ⟨E.add H.next ⟨g, 0, cp⟩, rfl, hperm, ?_, ?_⟩
      · unfold colH
        rw [if_neg h0]
        refine Step.grown hR hbel g1 hgl (fun hext => ⟨cur, _, (0, 0), ss.map encU, g2, hvals, fun j u hj => ?_, ?_, ?_, ?_⟩)
        · have : (cur.toList.take (ss.length * 1))[j]? = some u := by rw [g6]; exact hj
          rw [List.getElem?_take] at this
          split at this
          · simpa using this
          · cases this
        · simp only [span, List.length_map]
          omega
        · intro j _
          simp
        · simp only [fits, List.length_map]
          omega
      · unfold colV
        rw [if_neg h0]
        simp only [AVRel]
        refine ⟨⟨g, 0, cp⟩, ⟨g, 0, none⟩, cp, by simp [Env.add], rfl, .inr ⟨by unfold openAt openCap; decide, ⟨0, rfl, rfl⟩, .inl rfl⟩, g3⟩
end Go.Proofs.Ytpbighinamljbaa.PA
