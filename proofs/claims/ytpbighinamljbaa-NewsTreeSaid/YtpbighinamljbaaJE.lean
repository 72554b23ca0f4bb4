/- The keys of a map collected, at this program, as the abstract machine sees it: in some order. No condition. -/
import Derived.Test.YtpbighinamljbaaJC
import Derived.Test.YtpbighinamljbaaJD
import Derived.Test.YtpbighinamljbaaProg
import Derived.KernelRfl
set_option linter.unusedSectionVars false
set_option linter.unusedVariables false
set_option linter.unusedSimpArgs false
namespace Go.Proofs.Ytpbighinamljbaa.PA
open Go Go.Eng Go.Proofs Go.Maps Go.Shelf Go.RowKit Go.WideShapes
def colRen : Ren := ⟨fun | 8 => 79 | 10 => 81 | 11 => 84 | n => n, fun | 23 => 105 | 24 => 101 | 26 => 100 | 28 => 109 | 33 => 121 | 3 => 62 | n => n, fun | n => n⟩
theorem col10 : SlLaysZU.n10 Try.prog colRen := {
  mixed := by kernel_rfl
  f10 := ⟨Try.f81.name, by decide, Try.func81.trans (congrArg some (by kernel_rfl))⟩
  t0 := Try.underlying0
  a0 := Try.isAgg0
  z0 := Try.sizeOf0
  v0 := Try.zeroValue0
  t4 := Try.underlying4
  a4 := Try.isAgg4
  z4 := Try.sizeOf4
  v4 := Try.zeroValue4
  t23 := Try.underlying105
  a23 := Try.isAgg105
  z23 := Try.sizeOf105
  v23 := Try.zeroValue105
  t26 := Try.underlying100
  a26 := Try.isAgg100
  z26 := Try.sizeOf100
  v26 := Try.zeroValue100
  t33 := Try.underlying121
  a33 := Try.isAgg121
  z33 := Try.sizeOf121
  v33 := Try.zeroValue121 }
theorem col11 : SlLaysZU.n11 Try.prog colRen := {
  mixed := by kernel_rfl
  f11 := ⟨Try.f84.name, by decide, Try.func84.trans (congrArg some (by kernel_rfl))⟩
  t0 := Try.underlying0
  a0 := Try.isAgg0
  z0 := Try.sizeOf0
  v0 := Try.zeroValue0
  t24 := Try.underlying101
  a24 := Try.isAgg101
  z24 := Try.sizeOf101
  v24 := Try.zeroValue101
  t26 := Try.underlying100
  a26 := Try.isAgg100
  z26 := Try.sizeOf100
  v26 := Try.zeroValue100
  t28 := Try.underlying109
  a28 := Try.isAgg109
  z28 := Try.sizeOf109
  v28 := Try.zeroValue109
  i26 := by kernel_rfl }
theorem col8 : SlLaysZU.n8 Try.prog colRen := { col11 with
  f8 := ⟨Try.f79.name, by decide, Try.func79.trans (congrArg some (by kernel_rfl))⟩ }
theorem Step.grown {E : Env} {H : AHeap} {w w' : World} (hR : Rel E H w) (hb : Below w.heap.size w w') {g room : Nat} (hg : w.heap.size ≤ g) (hg' : g < w'.heap.size) {o : AObj}
    (hO : Env.Ext E (E.add H.next ⟨g, 0, room⟩) w w' → ObjR (E.add H.next ⟨g, 0, room⟩) w' ⟨g, 0, room⟩ o) : Step E H w (E.add H.next ⟨g, 0, room⟩) (H.add o) w' := by
  have hn : E.ρ H.next = none := by
    cases h : E.ρ H.next with
    | none => rfl
    | some L => exact absurd (hR.dom _ _ h).1 (Nat.lt_irrefl _)
  have hext : Env.Ext E (E.add H.next ⟨g, 0, room⟩) w w' := by
    refine ⟨fun j L h => ?_, fun _ h => h, fun b hbI => hb.block b (hR.imm b hbI), fun _ _ _ h => h⟩
    simp only [Env.add]
    rw [if_neg (fun e => by rw [e, hn] at h; cases h)]
    exact h
  have hget : ∀ j, (H.add o).get j = if j = H.next then some o else H.get j := fun j => AHeap.get_add H o j
  have hsz := hb.size
  have hold : ∀ j p L, H.get j = some p → (E.add H.next ⟨g, 0, room⟩).ρ j = some L → E.ρ j = some L := by
    intro j p L hj hρ
    obtain ⟨L', q1, _⟩ := hR.obj j p hj
    have := hext.ρ j L' q1
    rw [hρ] at this
    cases this
    exact q1
  refine ⟨hext, ⟨fun j L hj => ?_, fun b hbI => ?_, fun j p hj => ?_, fun j k p q Lj Lk hj hk hρj hρk hne => ?_⟩, ⟨hb.os, hb.tape, hb.output, hsz, fun b hbI _ => hb.block b hbI⟩, fun j p L hj hρ => ?_, Nat.le_succ _, fun j L h => ?_, fun _ h => .inl h⟩
  · simp only [Env.add] at hj
    split at hj
    · rename_i e
      cases hj
      exact ⟨by subst e; exact Nat.lt_succ_self _, hg'⟩
    · have := hR.dom j L hj
      exact ⟨Nat.lt_succ_of_lt this.1, by omega⟩
  · have := hR.imm b hbI
    omega
  · rw [hget] at hj
    split at hj
    · rename_i e
      subst e
      cases hj
      refine ⟨⟨g, 0, room⟩, by simp [Env.add], hO hext, fun q => ?_⟩
      have := hR.imm _ q
      simp only at this
      omega
    · obtain ⟨L, q1, q2, q3⟩ := hR.obj j p hj
      exact ⟨L, hext.ρ _ _ q1, ObjR.mono hext (hb.block _ (hR.dom j L q1).2) q2, q3⟩
  · rw [hget] at hj hk
    by_cases ej : j = H.next
    · by_cases ek : k = H.next
      · exact absurd (ej.trans ek.symm) hne
      · rw [if_neg ek] at hk
        have h1 := hold k q Lk hk hρk
        have := (hR.dom k Lk h1).2
        subst ej
        simp only [Env.add, if_true, Option.some.injEq] at hρj
        subst hρj
        simp only
        omega
    · rw [if_neg ej] at hj
      have h1 := hold j p Lj hj hρj
      have := (hR.dom j Lj h1).2
      by_cases ek : k = H.next
      · subst ek
        simp only [Env.add, if_true, Option.some.injEq] at hρk
        subst hρk
        simp only
        omega
      · rw [if_neg ek] at hk
        exact hR.inj j k p q Lj Lk hj hk h1 (hold k q Lk hk hρk) hne
  · rw [hget] at hj
    split at hj
    · rename_i e
      subst e
      simp only [Env.add, if_true, Option.some.injEq] at hρ
      subst hρ
      exact .inl hg
    · exact .inr ⟨j, p, L, hj, hold j p L hj hρ, rfl⟩
  · simp only [Env.add] at h
    split at h
    · rename_i e; exact .inr (by omega)
    · exact .inl h
theorem Step.grown0 {E : Env} {H : AHeap} {w w' : World} (hR : Rel E H w) (hb : Below w.heap.size w w') : Step E H w E H w' := by
  have hext : Env.Ext E E w w' := ⟨fun _ _ h => h, fun _ h => h, fun b hbI => hb.block b (hR.imm b hbI), fun _ _ _ h => h⟩
  have hsz := hb.size
  refine ⟨hext, ⟨fun j L hj => ?_, fun b hbI => ?_, fun j p hj => ?_, hR.inj⟩, ⟨hb.os, hb.tape, hb.output, hsz, fun b hbI _ => hb.block b hbI⟩, fun j p L hj hρ => .inr ⟨j, p, L, hj, hρ, rfl⟩, Nat.le_refl _, fun j L h => .inl h, fun _ h => .inl h⟩
  · have := hR.dom j L hj
    exact ⟨this.1, by omega⟩
  · have := hR.imm b hbI
    omega
  · obtain ⟨L, q1, q2, q3⟩ := hR.obj j p hj
    exact ⟨L, q1, ObjR.mono hext (hb.block _ (hR.dom j L q1).2) q2, q3⟩
def keyInt : AV → Int
  | .int _ n => n
  | _ => 0
def keyU : AV → Bool
  | .int .u16 n => decide (0 ≤ n) && decide (n < 65536)
  | _ => false
theorem keyU_inv {x : AV} (h : keyU x = true) : ∃ n, x = .int .u16 n ∧ 0 ≤ n ∧ n < 65536 := by
  unfold keyU at h
  split at h
  · rename_i n
    simp only [Bool.and_eq_true, decide_eq_true_eq] at h
    exact ⟨n, rfl, h⟩
  · cases h
def colV (H : AHeap) (l : List Int) : AV := if l = [] then .nils else .sl H.next 0 l.length openCap
def colH (H : AHeap) (l : List Int) : AHeap := if l = [] then H else H.add (.cells (l.map (.int .u16)) (some 1))
theorem ent_keys {E : Env} {w : World} : ∀ {es : List (AV × AV)} {rows : List MapEntry}, EntR E w es rows → (∀ e ∈ es, keyU e.1 = true) → rows.map (·.key) = es.map (fun e => Value.int .u16 (keyInt e.1))
  | [], rows, h, _ => by simp only [EntR] at h; subst h; rfl
  | (k, v) :: es, rows, h, hk => by
    simp only [EntR] at h
    obtain ⟨e, rows', rfl, h1, h2, h3⟩ := h
    obtain ⟨n, e1, _⟩ := keyU_inv (hk (k, v) (by simp))
    simp only at e1
    subst e1
    simp only [AVRel] at h1
    rw [List.map_cons, List.map_cons, ent_keys h3 (fun e he => hk e (by simp [he])), h1]
    rfl
theorem u16_wf {n : Int} (h0 : 0 ≤ n) (h1 : n < 65536) : (Lit.int .u16 n).wf = true := by
  simp [Lit.wf, IntKind.min, IntKind.max, IntKind.bits, IntKind.signed]
  omega
def colR (_ : Value) : Option (DataW Nat × List MemPlace) := some (.nil, [])
theorem key_read {n : Int} (h0 : 0 ≤ n) (h1 : n < 65536) : keyOf Try.prog 100 (.int .u16 n) = some (.int .u16 n) := by
  simp [keyOf, Try.underlying100, mapKey, u16_wf h0 h1]
theorem fold_keys : ∀ (L : List (Lit × DataW Nat)), ((L.foldr DataW.insert []).map fun p => intOfU p.1).Perm (L.map fun p => intOfU p.1) := fun L => (sorted_perm L).map _
theorem collect_call {E : Env} {H : AHeap} {w : World} (hR : Rel E H w) {p q j : Nat} {cs : List AV} {opn : Option Nat} {es : List (AV × AV)} (hp : H.get p = some (.cells cs opn)) (hq : cs[q]? = some (.map j)) (hj : H.get j = some (.map es))
    (hk : ∀ e ∈ es, keyU e.1 = true) (hn : es.length ≤ 65536) {us : List Value} (hu : AVRelL E w [.fn 81 [.ptr p q]] us) :
    Calls Try.prog 79 us.toArray w fun e w' => ∃ (l : List Int) (u : Value) (E' : Env), e = .returned u ∧ l.Perm (es.map fun e => keyInt e.1) ∧ Step E H w E' (colH H l) w' ∧ AVRel E' w' (colV H l) u := by
  simp only [AVRelL, AVRel] at hu
  obtain ⟨u0, us', rfl, ⟨cap, rfl, hcap⟩, rfl⟩ := hu
  obtain ⟨u1, us1, e1, hptr, rfl⟩ := hcap
  obtain ⟨Lp, hρp, rfl⟩ := hptr
  have hcap : cap = #[.pointer (some ⟨Lp.b, Lp.s + q, none⟩)] := Array.toList_inj.1 e1
  subst hcap
  -- the box
  obtain ⟨L', q1, ⟨C, t, fz, vs, c1, c2, c3, _⟩, _⟩ := hR.obj _ _ hp
  rw [hρp] at q1
  cases q1
  obtain ⟨mv, hmv, hmr⟩ := c2.get hq
  simp only [AVRel] at hmr
  obtain ⟨Lj, hρj, rfl⟩ := hmr
  have hcell : w.cell? ⟨Lp.b, Lp.s + q, none⟩ = some (.map (some Lj.b)) := by
    simp only [World.cell?, c1]
    exact c3 q _ hmv
  have hlt : Lp.b < w.heap.size := (hR.dom p Lp hρp).2
  -- the map
  obtain ⟨L', q1, ⟨rows, clock, hb, es', hE, hpm, hd, hcl, hbn⟩, _⟩ := hR.obj _ _ hj
  rw [hρj] at q1
  cases q1
  have hk' : ∀ e ∈ es', keyU e.1 = true := fun e he => hk e (hpm.mem_iff.1 he)
  have hkeys := ent_keys hE hk'
  have hlen : rows.toList.length = es.length := by rw [hE.length, hpm.length_eq]
  have hkn : ∀ x ∈ rows.toList, ∃ n, x.key = .int .u16 n ∧ 0 ≤ n ∧ n < 65536 := by
    intro x hx
    have : x.key ∈ rows.toList.map (·.key) := List.mem_map_of_mem hx
    rw [hkeys] at this
    obtain ⟨e, he, hee⟩ := List.mem_map.1 this
    obtain ⟨n, hn, h0, h1⟩ := keyU_inv (hk' e he)
    refine ⟨n, ?_, h0, h1⟩
    rw [← hee, hn]
    rfl
  have hdis : (rows.toList.map (·.key)).Nodup := by
    rw [hkeys]
    have h1 : es'.Pairwise (fun a b => a.1 ≠ b.1) := (hpm.pairwise_iff (fun h e => h e.symm)).2 hd
    refine List.pairwise_map.2 (h1.imp_of_mem fun {a b} ha hb hne e => hne ?_)
    obtain ⟨n, hn, _⟩ := keyU_inv (hk' a ha)
    obtain ⟨m, hm, _⟩ := keyU_inv (hk' b hb)
    rw [hn, hm] at e ⊢
    simp only [keyInt, Value.int.injEq, true_and] at e
    rw [e]
  have hrd : ∀ x ∈ rows.toList, WideElems.rd Try.prog 100 colR x = some (.int .u16 (match x.key with | .int _ n => n | _ => 0), .nil) := by
    intro x hx
    obtain ⟨n, hn, h0, h1⟩ := hkn x hx
    simp [WideElems.rd, hn, key_read h0 h1, colR]
  have F : WideElems.Fit Try.prog 100 colR rows clock := ⟨by rw [← Array.length_toList, hlen]; unfold maxLen; omega, ⟨hcl, hbn, hdis⟩, fun x hx => ⟨_, hrd x hx⟩⟩
  have hown : w.ownsMap Try.prog (colRen.t 26) colR Lj.b rows.size (.map ((rows.toList.map (WideElems.rg Try.prog 100 colR)).foldr DataW.insert [])) := ⟨rows, clock, hb, F, Nat.le_refl _, rfl⟩
  have hrg : (rows.toList.map (WideElems.rg Try.prog 100 colR)).map (fun p => intOfU p.1) = es'.map fun e => keyInt e.1 := by
    have h1 : (rows.toList.map (WideElems.rg Try.prog 100 colR)).map (fun p => intOfU p.1) = (rows.toList.map (·.key)).map (fun k => match k with | .int _ n => n | _ => 0) := by
      rw [List.map_map, List.map_map]
      refine List.map_congr_left fun x hx => ?_
      simp only [Function.comp, WideElems.rg, hrd x hx, Option.getD_some, intOfU]
    rw [h1, hkeys, List.map_map]
    rfl
  have hsize : Maps.size (DataW.map ((rows.toList.map (WideElems.rg Try.prog 100 colR)).foldr DataW.insert [])) = es.length := by
    rw [Maps.size_eq, (sorted_perm _).length_eq, List.length_map, hlen]
  have hseq := AnyZU.keys_gives col10 (H := Nat) Fence.wide 1 trivial rfl (Nat.le_refl _) Lp.b (Lp.s + q) Lj.b rows.size _ w hlt hcell hown
  rw [hsize] at hseq
  have hcol := AnyZU.collect_in col8 Fence.wide 3 trivial trivial rfl (Nat.le_refl _) 81 #[.pointer (some ⟨Lp.b, Lp.s + q, none⟩)] trivial (fun args w => by
    have := (col10.f10).enters rfl
    exact this args w) _ es.length (by unfold maxLen; omega) (by omega) w hseq
  have hcall := callsIn_wide.1 hcol
  refine hcall.mono ?_
  rintro e w' ⟨v, ss, rfl, hS, hrow, hnil, hbel⟩
  refine ⟨ss, v, ?_⟩
  have hperm : ss.Perm (es.map fun e => keyInt e.1) := by
    refine hS.trans ((fold_keys _).trans ?_)
    rw [hrg]
    exact hpm.map _
  by_cases h0 : ss = []
  · refine ⟨E, rfl, hperm, ?_, ?_⟩
    · unfold colH
      rw [if_pos h0]
      exact Step.grown0 hR hbel
    · unfold colV
      rw [if_pos h0]
      simp only [AVRel]
      exact hnil.2 h0
  · obtain ⟨hl, hrow⟩ := hrow
    rcases hrow with ⟨e, _⟩ | ⟨g, cp, cur, rfl, g1, g2, g3, g4, g5, g6⟩
    · exact absurd (hnil.1 e) h0
    · have hgl : g < w'.heap.size := (Array.getElem?_eq_some_iff.1 g2).1
      have hvals : AVRelL (E.add H.next ⟨g, 0, cp⟩) w' (ss.map (AV.int .u16)) (ss.map encU) := by
        clear hS hnil hperm h0 hl g3 g6 hcall hcol
        induction ss with
        | nil => simp [AVRelL]
        | cons x r ih =>
          simp only [List.map_cons, AVRelL]
          exact ⟨_, _, rfl, by simp [AVRel], ih⟩
      refine ⟨E.add H.next ⟨g, 0, cp⟩, rfl, hperm, ?_, ?_⟩
      · unfold colH
        rw [if_neg h0]
        refine Step.grown hR hbel g1 hgl (fun hext => ⟨cur, _, (0, 0), ss.map encU, g2, hvals, fun j u hj => ?_, ?_, ?_, ?_⟩)
        · have : (cur.toList.take (ss.length * 1))[j]? = some u := by rw [g6]; exact hj
          rw [List.getElem?_take] at this
          split at this
          · simpa using this
          · cases this
        · simp only [span, List.length_map]
          omega
        · intro j _
          simp
        · simp only [fits, List.length_map]
          omega
      · unfold colV
        rw [if_neg h0]
        simp only [AVRel]
        refine ⟨⟨g, 0, cp⟩, ⟨g, 0, none⟩, cp, by simp [Env.add], rfl, .inr ⟨by unfold openAt openCap; decide, ⟨0, rfl, rfl⟩, .inl rfl⟩, g3⟩
end Go.Proofs.Ytpbighinamljbaa.PA
namespace Go.Eng
variable {P : Program}
theorem region_set {cf : CF} (hcf : CFok P cf) {id nt : Nat} {ops : Array Oper} {pre post : List XOper} {d : Nat} {f : XO} {args : List XO} {g : Nat} {cs l : List AV} {s s1 : St} {S : AV → AHeap → Prop} {G : St → Prop}
    (hm : ops.toList.mapM (compOper P ops) = some (pre ++ ⟨some d, .call f args, none⟩ :: post)) (hd : ∀ x ∈ pre ++ ⟨some d, .call f args, none⟩ :: post, dstOk nt x = true)
    (h1 : xops cf pre s.H.next (bump s (pre.length + 1 + post.length)) = some s1) (h2 : St.ev s1.tm f = some (.fn g cs)) (h3 : evL (St.ev s1.tm) args = some l)
    (hf : ∃ fn, P.funcs[g]? = some fn ∧ fn.body.isNone = false ∧ (fn.name == "runtime.NumGoroutine") = false)
    (hcall : ∀ E w us, Rel E s1.H w → AVRelL E w (l ++ cs) us → Calls P g us.toArray w fun e w' => ∃ v H' u E', S v H' ∧ e = .returned u ∧ Step E s1.H w E' H' w' ∧ AVRel E' w' v u)
    (hpost : ∀ v H', S v H' → s1.H.next ≤ H'.next → ∃ s2, xops cf post (s.H.next + (pre.length + 1)) ⟨s1.tm.set d (some v), H'⟩ = some s2 ∧ G s2)
    {E : Env} {w : World} {a : Act} (hsz : a.tmps.size = nt) (hR : Rel E s.H w) (hT : TmR E w s.tm a.tmps) {Q : Exit → Act → World → Prop}
    (hQ : ∀ s2, G s2 → ∀ E' a' w', Step E s.H w E' s2.H w' → TmR E' w' s2.tm a'.tmps → a'.defers = a.defers → a'.tmps.size = nt → Q .normal a' w') : (Code.region id ops false).wp P Q a w := by
  obtain ⟨l1, l2⟩ := mapM_get hm
  have hr : List.range ops.size = List.range' 0 pre.length ++ (pre.length :: List.range' (pre.length + 1) post.length) := by
    have : ops.size = pre.length + 1 + post.length := by
      have := l1.symm
      simp only [Array.length_toList, List.length_append, List.length_cons] at this
      omega
    rw [this, List.range_eq_range', show pre.length + 1 + post.length = pre.length + (post.length + 1) by omega, ← List.range'_append_1, List.range'_succ]
    simp
  have hnone : ∀ k, E.ρ (s.H.next + k) = none := by
    intro k
    cases hq : E.ρ (s.H.next + k) with
    | none => rfl
    | some L => have := (hR.dom _ L hq).1; omega
  refine wp_region ?_
  rw [hr]
  refine ops_sound_k hcf (base := s.H.next) pre 0 (bump s (pre.length + 1 + post.length)) s1 E w a (fun k x hk => ?_) (fun x hx => by rw [hsz]; exact hd x (by simp [hx])) h1 (rel_bump (tm := s.tm) _ hR) hT (fun k _ _ => hnone k) (by show s.H.next + 0 + pre.length ≤ s.H.next + (pre.length + 1 + post.length); omega) (fun E1 a1 w1 r1 r2 r3 r4 r5 => ?_)
  · obtain ⟨o, q1, q2⟩ := l2 k x (by
      rw [List.getElem?_append_left (by
        rcases Nat.lt_or_ge k pre.length with q | q
        · exact q
        · rw [List.getElem?_eq_none q] at hk; cases hk)]
      exact hk)
    exact ⟨o, by simpa using q1, q2⟩
  · have st1 : Step E s.H w E1 s1.H w1 := rstep_step (tm := s.tm) r1
    have hnx : s.H.next + (pre.length + 1 + post.length) ≤ s1.H.next := r1.nx
    obtain ⟨o0, ho0, hc0⟩ := l2 pre.length ⟨some d, .call f args, none⟩ (by simp)
    rw [Array.getElem?_toList] at ho0
    obtain ⟨c1, c2, c3⟩ := compOper_inv hc0
    have hno : o0.guard = none := by
      rcases c3 with ⟨q, _⟩ | ⟨_, _, _, _, q, _⟩
      · exact q
      · cases q
    obtain ⟨us, he, hus⟩ := call_exec r2 c1 h2 h3 hf
    rw [wpOps_cons]
    unfold wpOp
    rw [ho0]
    simp only [Region.wanted, hno, if_true]
    refine .inl ?_
    unfold Oper.wp
    rw [he]
    simp only [Oper.upon]
    refine (hcall E1 w1 us r1.rel hus).mono ?_
    rintro e w2 ⟨v, H', u, E2, hS, rfl, st2, hv⟩
    obtain ⟨s2, hs2, hG⟩ := hpost v H' hS st2.nx
    have hT2 : TmR E2 w2 (s1.tm.set d (some v)) (a1.put o0.dst u).tmps := by
      rw [← c2]
      refine TmR.put (dst := some d) (r2.mono st2.ext) hv (fun d' hd' => ?_)
      cases hd'
      have := hd ⟨some d, .call f args, none⟩ (by simp)
      rw [r4, hsz]
      simpa [dstOk] using this
    have hnone2 : ∀ k, pre.length + 1 ≤ k → k < pre.length + 1 + post.length → E2.ρ (s.H.next + k) = none := by
      intro k k1 k2
      cases hq : E2.ρ (s.H.next + k) with
      | none => rfl
      | some L =>
        rcases st2.ids _ _ hq with q | q
        · rcases r5 _ _ q with p | p | p
          · rw [hnone k] at p; cases p
          · omega
          · have hb : (bump s (pre.length + 1 + post.length)).H.next = s.H.next + (pre.length + 1 + post.length) := rfl
            rw [hb] at p
            omega
        · omega
    refine ops_sound hcf (base := s.H.next) post (pre.length + 1) ⟨s1.tm.set d (some v), H'⟩ s2 E2 w2 (a1.put o0.dst u) (fun k x hk => ?_) (fun x hx => by rw [put_size, r4, hsz]; exact hd x (by simp [hx])) hs2 st2.rel hT2 hnone2 (by have := st2.nx; show s.H.next + (pre.length + 1) + post.length ≤ H'.next; omega) (fun E3 a3 w3 q1 q2 q3 q4 => ?_)
    · obtain ⟨o, p1, p2⟩ := l2 (pre.length + 1 + k) x (by
        rw [List.getElem?_append_right (by omega), show pre.length + 1 + k - pre.length = k + 1 by omega, List.getElem?_cons_succ]
        exact hk)
      exact ⟨o, by simpa using p1, p2⟩
    · refine hQ s2 hG E3 a3 w3 (rstep_step (tm := s.tm) ((r1.trans (st2.toR (by omega))).trans q1)) q2 ?_ ?_
      · rw [q3, put_defers, r3]
      · rw [q4, put_size, r4, hsz]
theorem comp_facts {f : Nat} {fn : XFunc} (hc : compFunc P f = some fn) : ∃ fn, P.funcs[f]? = some fn ∧ fn.body.isNone = false ∧ (fn.name == "runtime.NumGoroutine") = false := by
  unfold compFunc at hc
  simp only [bind] at hc
  obtain ⟨fd, hfd, hc⟩ := bindSome hc
  obtain ⟨c, hbody, hc⟩ := bindSome hc
  split at hc
  · cases hc
  · rename_i hname
    exact ⟨fd, hfd, by rw [hbody]; rfl, by simpa using hname⟩
theorem func_set {f : Nat} {fn : XFunc} (hc : compFunc P f = some fn) {args : List AV} {H H' : AHeap} {v : AV} (hnp : args.length = fn.np ∧ args.length ≤ fn.nt)
    (hwp : ∀ c, compCode P c = some fn.code → fn.code.room fn.nt = true → ∀ E w a, a.tmps.size = fn.nt → Rel E H w → TmR E w (argsT args 0 .e) a.tmps → ∀ Q : Exit → Act → World → Prop,
      (∀ e s1, (e = .normal ∨ e = .ret) → (∃ l, resL s1 fn.res = some l ∧ (match l with | [x] => some (x, s1.H) | l => some (.tup l, s1.H)) = some (v, s1.H) ∧ HSame s1.H H') → ∀ E' a' w', Step E H w E' s1.H w' → TmR E' w' s1.tm a'.tmps → a'.defers = a.defers → Q (exOf e) a' w') → c.wp P Q a w) :
    CallOK P f args H v H' := by
  unfold compFunc at hc
  simp only [bind] at hc
  obtain ⟨fd, hfd, hc⟩ := bindSome hc
  obtain ⟨c, hbody, hc⟩ := bindSome hc
  split at hc
  · cases hc
  · rename_i hname
    obtain ⟨xc, hxc, hc⟩ := bindSome hc
    split at hc
    · cases hc
    · rename_i hroom
      obtain ⟨rs, hrs, hc⟩ := bindSome hc
      cases hc
      refine ⟨⟨fd, hfd, by rw [hbody]; rfl, by simpa using hname⟩, fun E w us hR hus => ?_⟩
      have hlen := hus.length
      have hsz : (us.toArray ++ Array.replicate (fd.ntmps - us.toArray.size) undef).size = fd.ntmps := by
        have := hnp.2
        simp only [Array.size_append, Array.size_replicate, List.size_toArray]
        simp only at this
        omega
      have hT : TmR E w (argsT args 0 .e) (us.toArray ++ Array.replicate (fd.ntmps - us.toArray.size) undef) := by
        intro t x hx
        rw [argsT_get] at hx
        simp only [Nat.zero_le, Nat.zero_add, true_and, Nat.sub_zero] at hx
        split at hx
        · rename_i hlt
          obtain ⟨u, h1, h2⟩ := hus.get hx
          refine ⟨u, ?_, h2⟩
          rw [Array.getElem?_append_left (by simp only [List.size_toArray]; omega)]
          simpa using h1
        · simp [Tr.get] at hx
      refine calls_of_wp hfd hbody ?_
      refine hwp c hxc (by simpa using hroom) E w _ hsz hR hT _ (fun e s1 he hl E' a' w' h1 h2 h3 => ?_)
      have fin : a'.defers = [] ∧ ∃ u, (results fd a'.tmps).run P w' = .ok u w' ∧ ∃ u' E', Ending.returned u = .returned u' ∧ Step E H w E' H' w' ∧ AVRel E' w' v u' := by
        obtain ⟨l, hl, hv, hsame⟩ := hl
        have h1' := h1.same hsame
        refine ⟨h3, ?_⟩
        obtain ⟨vs, q1, q2⟩ := res_sound h1.rel h2 hrs hl
        have hm : (fd.results.mapM (resM a'.tmps)).run P w' = .ok vs.toArray w' := by
          rw [Array.mapM_eq_mapM_toList]
          simp [q1]
        match l, hv, q2 with
        | [x], hv, q2 =>
          simp only [Option.some.injEq, Prod.mk.injEq, and_true] at hv
          subst hv
          simp only [AVRelL] at q2
          obtain ⟨u, us', rfl, q3, rfl⟩ := q2
          refine ⟨u, ?_, u, E', rfl, h1', q3⟩
          simp only [results_eq, Sem.run_bind, hm]
          simp
        | [], hv, q2 =>
          simp only [Option.some.injEq, Prod.mk.injEq, and_true] at hv
          subst hv
          have hl2 := q2.length
          refine ⟨.tuple vs.toArray, ?_, _, E', rfl, h1', by simp only [AVRel]; exact ⟨_, rfl, by simpa using q2⟩⟩
          simp only [results_eq, Sem.run_bind, hm]
          simp only [List.length_nil] at hl2
          simp [hl2]
        | x :: y :: l, hv, q2 =>
          simp only [Option.some.injEq, Prod.mk.injEq, and_true] at hv
          subst hv
          have hl2 := q2.length
          refine ⟨.tuple vs.toArray, ?_, _, E', rfl, h1', by simp only [AVRel]; exact ⟨_, rfl, by simpa using q2⟩⟩
          simp only [results_eq, Sem.run_bind, hm]
          simp only [List.length_cons] at hl2
          simp [hl2]
      rcases he with rfl | rfl <;> exact fin
end Go.Eng
namespace Go.Proofs.Ytpbighinamljbaa.PA
open Go Go.Eng Go.Proofs
def sC0 : XCode := .reg [o 2 (.mv (.k .nils))]
def sPre : List XOper := [o 4 (.mv (.t 0))]
def sPost : List XOper := [o 3 (.mv (.t 5))]
def sRest : XCode := .seq (.reg [o 6 (.mv (.t 3)), o 7 (.call (.k (.fn 80 [])) [.t 6])]) (.seq (.reg [o 8 (.mv (.t 3)), o 2 (.mv (.t 8))]) .ret)
def sortedRun (cf : CF) (fuel : Nat) (x : AV) (H : AHeap) (l : List Int) : Option (AV × AHeap) :=
  match xcode cf fuel sC0 ⟨argsT [x] 0 .e, H⟩ with
  | some (.normal, s0) => match xops cf sPre s0.H.next (bump s0 3) with
    | some s1 => match xops cf sPost (s0.H.next + 2) ⟨s1.tm.set 5 (some (colV s1.H l)), colH s1.H l⟩ with
      | some s2 => match xcode cf fuel sRest s2 with
        | some (.ret, s3) => (s3.tm.get 2).map fun v => (v, s3.H)
        | _ => none
      | none => none
    | none => none
  | _ => none
theorem sorted_call {cf : CF} (hcf : CFok Try.prog cf) {fuel : Nat} {H H' : AHeap} {v : AV} {p q j : Nat} {cs : List AV} {opn : Option Nat} {es : List (AV × AV)} (hp : H.get p = some (.cells cs opn)) (hq : cs[q]? = some (.map j)) (hj : H.get j = some (.map es))
    (hk : ∀ e ∈ es, keyU e.1 = true) (hn : es.length ≤ 65536) (hall : ∀ l : List Int, l.Perm (es.map fun e => keyInt e.1) → ∃ H1, sortedRun cf fuel (.fn 81 [.ptr p q]) H l = some (v, H1) ∧ HSame H1 H') :
    CallOK Try.prog 68 [.fn 81 [.ptr p q]] H v H' := by
  have hmix : Try.prog.follows .mixedOrders = true := by kernel_rfl
  refine func_set l68 ⟨rfl, by show 1 ≤ 9; decide⟩ (fun c hc hroom E w a hsz hR hT Q hQ => ?_)
  have hc' : compCode Try.prog c = some (.seq sC0 (.seq (.reg (sPre ++ o 5 (.call (.k (.fn 79 [])) [.t 4]) :: sPost)) sRest)) := hc
  have hroom' : XCode.room 9 (.seq sC0 (.seq (.reg (sPre ++ o 5 (.call (.k (.fn 79 [])) [.t 4]) :: sPost)) sRest)) = true := hroom
  simp only [XCode.room, Bool.and_eq_true] at hroom'
  obtain ⟨r0, r1, r2⟩ := hroom'
  obtain ⟨c0, c12, rfl, h0, h12⟩ := inv_seq hc'
  obtain ⟨c1, c2, rfl, h1, h2⟩ := inv_seq h12
  obtain ⟨id, ops, rfl, hops⟩ := inv_reg h1
  -- one order is as good as another
  obtain ⟨_, hsome, _⟩ := hall _ (List.Perm.refl _)
  unfold sortedRun at hsome
  split at hsome
  · rename_i s0 hs0
    split at hsome
    · rename_i s1 hs1
      refine wp_seq (code_sound hmix hcf fuel 9 c0 sC0 h0 r0 _ _ s0 hs0 E w a hsz hR hT _ (fun E1 a1 w1 q1 q2 q3 q4 => ?_))
      simp only [exOf, Exit.then]
      refine wp_seq ?_
      have e0 : s0 = ⟨(argsT [.fn 81 [.ptr p q]] 0 .e).set 2 (some .nils), H.bump 1⟩ := by
        simp [xcode, sC0, xops, xstep, wantedA, xval, xop, St.ev, AR.ofV, putT, bump] at hs0
        exact hs0.symm
      have e1 : s1 = ⟨s0.tm.set 4 (some (.fn 81 [.ptr p q])), H.bump 4⟩ := by
        subst e0
        simp [sPre, xops, xstep, wantedA, xval, xop, St.ev, AR.ofV, putT, bump, argsT, Tr.get_set] at hs1
        exact hs1.symm
      have hget : ∀ i, s1.H.get i = H.get i := fun i => by rw [e1]; rfl
      refine region_set hcf (nt := 9) (f := .k (.fn 79 [])) (args := [.t 4]) (g := 79) (cs := []) (l := [.fn 81 [.ptr p q]]) (s1 := s1)
        (S := fun v H'' => ∃ l : List Int, l.Perm (es.map fun e => keyInt e.1) ∧ v = colV s1.H l ∧ H'' = colH s1.H l)
        (G := fun s2 => ∃ s3, xcode cf fuel sRest s2 = some (.ret, s3) ∧ s3.tm.get 2 = some v ∧ HSame s3.H H') hops (fun x hx => ?_) hs1 rfl ?_ ?_ ?_ ?_ q4 q1.rel q2 ?_
      · have hr1 : (XCode.reg (sPre ++ o 5 (.call (.k (.fn 79 [])) [.t 4]) :: sPost)).room 9 = true := r1
        simp only [XCode.room, List.all_eq_true] at hr1
        exact hr1 x hx
      · rw [e1]
        simp [evL, St.ev, Tr.get_set]
      · exact comp_facts l79
      · intro E2 w2 us hR2 hus
        refine (collect_call hR2 ((hget p).trans hp) hq ((hget j).trans hj) hk hn (by simpa using hus)).mono ?_
        rintro e w' ⟨l, u, E', rfl, hl, hst, hv⟩
        exact ⟨_, _, u, E', ⟨l, hl, rfl, rfl⟩, rfl, hst, hv⟩
      · rintro v' H'' ⟨l, hl, rfl, rfl⟩ _
        obtain ⟨H1, hl', hsm⟩ := hall l hl
        unfold sortedRun at hl'
        simp only [hs0, hs1] at hl'
        split at hl'
        · rename_i s2 hs2
          split at hl'
          · rename_i s3 hs3
            obtain ⟨x, hx, e⟩ := Option.map_eq_some_iff.1 hl'
            simp only [Prod.mk.injEq] at e
            obtain ⟨rfl, rfl⟩ := e
            exact ⟨s2, hs2, s3, hs3, hx, hsm⟩
          · cases hl'
        · cases hl'
      · rintro s2 ⟨s3, hs3, hv3, hsm⟩ E2 a2 w2 p1 p2 p3 p4
        simp only [Exit.then]
        refine code_sound hmix hcf fuel 9 c2 sRest h2 r2 _ _ s3 hs3 E2 w2 a2 p4 p1.rel p2 _ (fun E3 a3 w3 t1 t2 t3 t4 => ?_)
        refine hQ .ret s3 (.inr rfl) ⟨[v], by show resL s3 [.t 2] = _; simp [resL, resA, hv3], rfl, hsm⟩ E3 a3 w3 ((q1.trans p1).trans t1) t2 (by rw [t3, p3, q3])
    · cases hsome
  · cases hsome
end Go.Proofs.Ytpbighinamljbaa.PA
namespace Go.Proofs.Ytpbighinamljbaa.PA
open Go Go.Eng Go.Proofs
def entBeq : List (AV × AV) → List (AV × AV) → Bool
  | [], [] => true
  | x :: r, y :: q => AV.beq x.1 y.1 && AV.beq x.2 y.2 && entBeq r q
  | _, _ => false
def objBeq : Option AObj → Option AObj → Bool
  | none, none => true
  | some (.cells c o), some (.cells c' o') => AV.beqL c c' && o == o'
  | some (.map es), some (.map es') => entBeq es es'
  | some (.lmap es t), some (.lmap es' t') => entBeq es es' && t == t'
  | _, _ => false
def trBeq : Tr AObj → Tr AObj → Bool
  | .e, .e => true
  | .n l v r, .n l' v' r' => trBeq l l' && objBeq v v' && trBeq r r'
  | _, _ => false
theorem entBeq_eq : ∀ {a b : List (AV × AV)}, entBeq a b = true → a = b
  | [], [], _ => rfl
  | [], _ :: _, h => by simp [entBeq] at h
  | _ :: _, [], h => by simp [entBeq] at h
  | x :: r, y :: q, h => by
    simp only [entBeq, Bool.and_eq_true] at h
    rw [entBeq_eq h.2, Prod.ext (AV.beq_sound h.1.1) (AV.beq_sound h.1.2)]
theorem objBeq_eq {a b : Option AObj} (h : objBeq a b = true) : a = b := by
  unfold objBeq at h
  split at h
  · rfl
  · rw [Bool.and_eq_true] at h
    rw [AV.beqL_sound h.1, eq_of_beq h.2]
  · rw [entBeq_eq h]
  · rw [Bool.and_eq_true] at h
    rw [entBeq_eq h.1, eq_of_beq h.2]
  · cases h
theorem trBeq_eq : ∀ {a b : Tr AObj}, trBeq a b = true → a = b
  | .e, .e, _ => rfl
  | .e, .n .., h => by simp [trBeq] at h
  | .n .., .e, h => by simp [trBeq] at h
  | .n l v r, .n l' v' r', h => by
    simp only [trBeq, Bool.and_eq_true] at h
    rw [trBeq_eq h.1.1, objBeq_eq h.1.2, trBeq_eq h.2]
def allSame : List (Option (AV × AHeap)) → Option (AV × AHeap)
  | [] => none
  | [r] => r
  | some (v, H) :: r => match allSame r with
    | some (v', H') => if AV.beq v v' && trBeq H.m H'.m then some (v', ⟨H'.m, Nat.max H.next H'.next⟩) else none
    | none => none
  | none :: _ => none
theorem allSame_mem : ∀ {l : List (Option (AV × AHeap))} {r : AV × AHeap}, allSame l = some r → ∀ q ∈ l, ∃ H1, q = some (r.1, H1) ∧ HSame H1 r.2
  | [], _, h, _, _ => by simp [allSame] at h
  | [x], r, h, q, hq => by
    simp only [allSame] at h
    simp only [List.mem_singleton] at hq
    exact ⟨r.2, by rw [hq, h], fun i => .refl _, Nat.le_refl _⟩
  | some (v, H) :: y :: l, r, h, q, hq => by
    simp only [allSame] at h
    split at h
    · rename_i v' H' h1
      split at h
      · rename_i hb
        simp only [Bool.and_eq_true] at hb
        obtain ⟨b1, b2⟩ := hb
        cases h
        rcases List.mem_cons.1 hq with rfl | hq
        · have e1 := AV.beq_sound b1
          have e2 := trBeq_eq b2
          refine ⟨H, by rw [e1], fun i => ?_, Nat.le_max_left _ _⟩
          show ObjSame (H.m.get i) (H'.m.get i)
          rw [e2]
          exact .refl _
        · obtain ⟨H1, q1, q2⟩ := allSame_mem h1 q hq
          exact ⟨H1, q1, q2.obj, Nat.le_trans q2.nx (Nat.le_max_right _ _)⟩
      · cases h
    · cases h
  | none :: y :: l, r, h, q, hq => by simp [allSame] at h
def sortedK (cf : CF) (fuel : Nat) : CF := fun f args H =>
  if f = 68 then match args with
    | [.fn 81 [.ptr p q]] => match H.get p with
      | some (.cells cs _) => match cs[q]? with
        | some (.map j) => match H.get j with
          | some (.map es) => if es.all (fun e => keyU e.1) && Nat.ble es.length 65536 then allSame ((permsL (es.map fun e => keyInt e.1)).map fun l => sortedRun cf fuel (.fn 81 [.ptr p q]) H l) else none
          | _ => none
        | _ => none
      | _ => none
    | _ => none
  else none
theorem sortedK_ok {cf : CF} (hcf : CFok Try.prog cf) (fuel : Nat) : CFok Try.prog (sortedK cf fuel) := by
  intro f args H v H' h
  unfold sortedK at h
  split at h
  · rename_i hf
    subst hf
    split at h
    · rename_i p q
      split at h
      · rename_i cs opn hp
        split at h
        · rename_i j hq
          split at h
          · rename_i es hj
            split at h
            · rename_i hc
              simp only [Bool.and_eq_true, List.all_eq_true, Nat.ble_eq] at hc
              exact sorted_call hcf hp hq hj hc.1 hc.2 (fun l hl => allSame_mem h _ (List.mem_map.2 ⟨l, perms_mem hl, rfl⟩))
            · cases h
          · cases h
        · cases h
      · cases h
    · cases h
  · cases h
theorem mixP : Try.prog.follows .mixedOrders = true := by kernel_rfl
def KN : CF := sortedK (xcall F 300 8) 300
theorem KN_ok : CFok Try.prog KN := sortedK_ok (xcall_sound mixP F_ok 300 8) 300
def cfN (fuel depth : Nat) : CF := xcallK KN F fuel depth
theorem cfN_ok (fuel depth : Nat) : CFok Try.prog (cfN fuel depth) := xcallK_sound mixP KN_ok F_ok fuel depth
def H0 : AHeap := ⟨.e, 0⟩
end Go.Proofs.Ytpbighinamljbaa.PA
namespace Go.Proofs.Ytpbighinamljbaa.PA
open Go Go.Eng Go.Proofs
theorem runLives0 : ((cfN 300 14 17 [] H0).map fun r => match r.1 with | .bool b => b | _ => false) = some true := by kernel_rfl
end Go.Proofs.Ytpbighinamljbaa.PA
namespace Go.Eng
def E0 (w : World) : Env := ⟨fun _ => none, fun b => b < w.heap.size, fun _ => none⟩
theorem rel0 (w : World) : Rel (E0 w) ⟨.e, 0⟩ w :=
  ⟨fun i L h => (by cases h), fun b h => h, fun i o h => (by simp [AHeap.get, Tr.get] at h), fun i j o o' L L' h => (by simp [AHeap.get, Tr.get] at h)⟩
theorem below0 {w w' : World} {E' : Env} {H' : AHeap} (h : Step (E0 w) ⟨.e, 0⟩ w E' H' w') : Go.RowKit.Below w.heap.size w w' :=
  ⟨h.fr.os, h.fr.tape, h.fr.output, h.fr.size, fun k hk => h.fr.block k hk (fun i o L hg => (by simp [AHeap.get, Tr.get] at hg))⟩
mutual
def AV.plain : AV → Bool
  | .bool _ | .int _ _ | .str _ => true
  | .agg l | .tup l => AV.plainL l
  | _ => false
def AV.plainL : List AV → Bool
  | [] => true
  | x :: r => x.plain && AV.plainL r
end
mutual
theorem plain_rel {E E' : Env} {w w' : World} : ∀ {v : AV} {u : Value}, v.plain = true → AVRel E w v u → AVRel E' w' v u
  | .bool _, _, _, h => by simpa [AVRel] using h
  | .int _ _, _, _, h => by simpa [AVRel] using h
  | .str _, _, _, h => by simpa [AVRel] using h
  | .agg l, _, hp, h => by
    simp only [AV.plain] at hp
    simp only [AVRel] at h ⊢
    obtain ⟨us, h1, h2⟩ := h
    exact ⟨us, h1, plain_relL hp h2⟩
  | .tup l, _, hp, h => by
    simp only [AV.plain] at hp
    simp only [AVRel] at h ⊢
    obtain ⟨us, h1, h2⟩ := h
    exact ⟨us, h1, plain_relL hp h2⟩
  | .ptr .., _, hp, _ => by simp [AV.plain] at hp
  | .nilp, _, hp, _ => by simp [AV.plain] at hp
  | .sl .., _, hp, _ => by simp [AV.plain] at hp
  | .nils, _, hp, _ => by simp [AV.plain] at hp
  | .map _, _, hp, _ => by simp [AV.plain] at hp
  | .nilm, _, hp, _ => by simp [AV.plain] at hp
  | .fn .., _, hp, _ => by simp [AV.plain] at hp
  | .nilf, _, hp, _ => by simp [AV.plain] at hp
  | .ifc .., _, hp, _ => by simp [AV.plain] at hp
  | .nili, _, hp, _ => by simp [AV.plain] at hp
  | .imm .., _, hp, _ => by simp [AV.plain] at hp
  | .iptr .., _, hp, _ => by simp [AV.plain] at hp
  | .glob .., _, hp, _ => by simp [AV.plain] at hp
theorem plain_relL {E E' : Env} {w w' : World} : ∀ {l : List AV} {us : List Value}, AV.plainL l = true → AVRelL E w l us → AVRelL E' w' l us
  | [], _, _, h => by simpa [AVRelL] using h
  | x :: l, _, hp, h => by
    simp only [AV.plainL, Bool.and_eq_true] at hp
    simp only [AVRelL] at h ⊢
    obtain ⟨u, us, h1, h2, h3⟩ := h
    exact ⟨u, us, h1, plain_rel hp.1 h2, plain_relL hp.2 h3⟩
end
theorem step_of_below {E : Env} {H : AHeap} {w w' : World} (hR : Rel E H w) (hb : Go.RowKit.Below w.heap.size w w') : Step E H w E H w' := by
  have hext : Env.Ext E E w w' := ⟨fun _ _ h => h, fun _ h => h, fun b hbI => hb.block b (hR.imm b hbI), fun _ _ _ h => h⟩
  have hsz := hb.size
  refine ⟨hext, ⟨fun j L hj => ?_, fun b hbI => ?_, fun j p hj => ?_, hR.inj⟩, ⟨hb.os, hb.tape, hb.output, hsz, fun b hbI _ => hb.block b hbI⟩, fun j p L hj hρ => .inr ⟨j, p, L, hj, hρ, rfl⟩, Nat.le_refl _, fun j L h => .inl h, fun _ h => .inl h⟩
  · have := hR.dom j L hj
    exact ⟨this.1, by omega⟩
  · have := hR.imm b hbI
    omega
  · obtain ⟨L, q1, q2, q3⟩ := hR.obj j p hj
    exact ⟨L, q1, ObjR.mono hext (hb.block _ (hR.dom j L q1).2) q2, q3⟩
theorem frame0 {P : Program} {f : Nat} {args args0 : List AV} {v : AV} {H H1 : AHeap} (h : CallOK P f args0 ⟨.e, 0⟩ v H1) (hv : v.plain = true) (ha : ∀ E w us, Rel E H w → AVRelL E w args us → AVRelL (E0 w) w args0 us) : CallOK P f args H v H := by
  refine ⟨h.1, fun E w us hR hus => ?_⟩
  refine (h.2 (E0 w) w us (rel0 w) (ha E w us hR hus)).mono ?_
  rintro e w' ⟨u, E', rfl, hst, hvr⟩
  exact ⟨u, E, rfl, step_of_below hR (below0 hst), plain_rel hv hvr⟩
theorem freeze {E : Env} {H : AHeap} {w : World} (hR : Rel E H w) {v : AV} {u : Value} (hv : AVRel E w v u) {z l : Nat} {cs : List AV} (hl : lenA v = some l) (hs : srcA H z l v = some cs) (hns : ∀ s, v ≠ .str s) (hp : AV.plainL cs = true) (hcl : l = 0 → cs = []) :
    AVRel (E0 w) w (.imm cs l false) u := by
  unfold srcA at hs
  split at hs
  · simp only [lenA, Option.some.injEq] at hl
    subst hl
    simp only [if_true, Option.some.injEq] at hs
    subst hs
    simp only [AVRel] at hv ⊢
    exact .inl ⟨trivial, trivial, none, 0, hv, fun q => by cases q⟩
  · rename_i i o l' c
    simp only [lenA, Option.some.injEq] at hl
    subst hl
    split at hs
    · rename_i cells opn hg
      split at hs
      · cases hs
        obtain ⟨L, ad, c', C, t, fz, us, hρ, rfl, hsl, hlc, hb, hr, hcell, _⟩ := row_sound hR hv hg
        simp only [AVRel]
        by_cases h0 : l' = 0
        · exact .inl ⟨h0, hcl h0, some ad, c', by rw [h0], fun q => by cases q⟩
        · obtain rfl := hsl.addr hlc h0
          refine .inr ⟨L.b, L.s + o, c', (us.drop o).take (l' * z), rfl, (hR.dom i L hρ).2, fun j x hj => ?_, ?_, hlc, fun q => by cases q⟩
          · rw [List.getElem?_take] at hj
            split at hj
            · rw [List.getElem?_drop] at hj
              have := hcell _ x hj
              simp only [World.cell?, hb]
              rw [show L.s + o + j = L.s + (o + j) by omega]
              exact this
            · cases hj
          · exact plain_relL hp ((hr.drop o).take (l' * z))
      · cases hs
    · cases hs
  · rename_i cs' l' full
    simp only [lenA, Option.some.injEq] at hl
    subst hl
    split at hs
    · cases hs
      simp only [AVRel] at hv ⊢
      rcases hv with ⟨h0, h1, a, c, h2, _⟩ | ⟨b, s, c, us, h1, h2, h3, h4, h5, _⟩
      · subst h0 h1
        exact .inl ⟨rfl, hcl rfl, a, c, h2, fun q => by cases q⟩
      · refine .inr ⟨b, s, c, us.take (l' * z), h1, hR.imm b h2, fun j x hj => ?_, plain_relL hp (h4.take _), h5, fun q => by cases q⟩
        rw [List.getElem?_take] at hj
        split at hj
        · exact h3 j x hj
        · cases hj
    · cases hs
  · rename_i s
    exact absurd rfl (hns s)
  · cases hs
end Go.Eng
namespace Go.Proofs.Ytpbighinamljbaa.PA
open Go Go.Eng Go.Proofs
def memb (n m : Nat) : List Nat := (List.range n).filter fun i => m.testBit i
def natA (n : Nat) : AV := .int .i64 (n : Int)
def isAV (v : AV) : Option (AV × AHeap) → Bool
  | some (u, _) => AV.beq v u
  | none => false
theorem isAV_some {v : AV} {r : Option (AV × AHeap)} (h : isAV v r = true) : ∃ H, r = some (v, H) := by
  unfold isAV at h
  split at h
  · rename_i u H
    rw [AV.beq_sound h]
    exact ⟨H, rfl⟩
  · cases h
end Go.Proofs.Ytpbighinamljbaa.PA
namespace Go.Proofs.Ytpbighinamljbaa.PA
open Go Go.Eng Go.Proofs
theorem x103 {cf : CF} {fuel : Nat} {x : Int} {H : AHeap} : ∃ v H', xfunc cf fuel L103 [.int .u16 x] H = some (v, H') ∧ v = .bool false ∧ True := by
  refine xfunc_ofK rfl (by show 1 ≤ 6; omega) ?_
  have h : ∀ {l : KL0} {H : AHeap} {n : Nat} {p q : XO}, evK l p = some (.int .u16 x) → evK l q = some (.int .u16 x) → XV cf l H n (.bin .neq p q) = some (.bool false, H) := fun h1 h2 => k_bin h1 h2 (by
    show some (AV.bool (x != x)) = _
    simp)
  unfold L103
  dsimp only
  repeat' (first | refine WK.seq ?_ | refine WK.ret ?_ | (apply WK.reg; (· exact lnn)) | refine WKO.nil ?_ | ((first | apply WKO.op); (· first | exact k_mv rfl | exact h rfl rfl); (· rfl)) | refine pN ?_ | fail)
  exact ⟨fun _ => by simp, _, rfl, rfl, trivial⟩
theorem x93 {cf : CF} {fuel : Nat} {x y : Int} {H : AHeap} (h103 : ∀ x H, ∃ v H', cf 103 [.int .u16 x] H = some (v, H') ∧ v = .bool false ∧ True) : ∃ v H', xfunc cf fuel L93 [.int .u16 x, .int .u16 y] H = some (v, H') ∧ v = .bool (lt6 x y) ∧ True := by
  refine xfunc_ofK rfl (by show 2 ≤ 17; omega) ?_
  have h : ∀ {l : KL0} {H : AHeap} {n : Nat} {p q : XO}, evK l p = some (.int .u16 x) → evK l q = some (.int .u16 y) → XV cf l H n (.bin .lss p q) = some (.bool (lt6 x y), H) := fun h1 h2 => k_bin h1 h2 (by
    show some (AV.bool (decide (x < y))) = _
    rw [lt6])
  unfold L93
  dsimp only
  repeat' (first | refine WK.seq ?_ | refine WK.ret ?_ | (apply WK.reg; (· exact lnn)) | (refine WKO.callV rfl rfl rfl (h103 _ _) ?_; rintro _ _ ⟨rfl, _⟩) | refine WKO.nil ?_ | ((first | apply WKO.op | ((first | apply WKO.gop); (· rfl); (· exact dcd))); (· first | exact k_mv rfl | exact h rfl rfl | exact opA); (· rfl)) | ((first | apply WKO.gnoT); (· rfl); (· exact dcd)) | refine pN ?_ | fail)
  exact ⟨fun _ => by simp, _, rfl, rfl, trivial⟩
theorem tabLen : ((List.range 1025).all fun m => isAV (natA (Sort.bitsLen m)) (xcall F 300 4 86 [.int .u64 (m : Int)] H0)) = true := by kernel_rfl
def KS : CF := fun f args H => match f, args with
  | 93, [.int .u16 x, .int .u16 y] => some (.bool (lt6 x y), H)
  | 86, [.int .u64 (.ofNat m)] => if m ≤ 1024 then some (nA (Sort.bitsLen m), H) else none
  | _, _ => none
theorem KS_ok : CFok Try.prog KS := by
  intro f args H v H' h
  unfold KS at h
  split at h
  · rename_i x y
    cases h
    have h103 : ∀ x H, ∃ v H', xcall F 300 1 103 [.int .u16 x] H = some (v, H') ∧ v = .bool false ∧ True := fun x H => x103 (cf := xcall F 300 0) (fuel := 300)
    obtain ⟨v, H1, h1, rfl, _⟩ := x93 (fuel := 300) (x := x) (y := y) (H := ⟨.e, 0⟩) h103
    have h1' : xcall F 300 2 93 [.int .u16 x, .int .u16 y] ⟨.e, 0⟩ = some (.bool (lt6 x y), H1) := h1
    exact frame0 (xcall_sound mixP F_ok 300 2 _ _ _ _ _ h1') rfl (fun E w us _ h => plain_relL rfl h)
  · rename_i m
    split at h
    · cases h
      have ht := List.all_eq_true.1 tabLen m (List.mem_range.2 (by omega))
      obtain ⟨H1, h1⟩ := isAV_some ht
      exact frame0 (xcall_sound mixP F_ok 300 4 _ _ _ _ _ h1) rfl (fun E w us _ h => plain_relL rfl h)
    · cases h
  · cases h
def cfS (k : Nat) : CF := xcallK KS F 2000 k
theorem cfS_ok (k : Nat) : CFok Try.prog (cfS k) := xcallK_sound mixP KS_ok F_ok 2000 k
theorem cfS_step {k f : Nat} {fn : XFunc} {args : List AV} {H : AHeap} (hK : KS f args H = none) (hF : F f = some fn) : cfS (k + 1) f args H = xfunc (cfS k) 2000 fn args H := by
  unfold cfS
  rw [xcallK, hK, hF]
theorem cfS_KS {k f : Nat} {args : List AV} {H : AHeap} {r : AV × AHeap} (h : KS f args H = some r) : cfS k f args H = some r := by
  unfold cfS
  cases k with
  | zero => exact h
  | succ k => unfold xcallK; rw [h]
theorem s_less (k : Nat) : Less (cfS k) := fun x y H => cfS_KS rfl
theorem s_86 (k : Nat) : K86 (cfS k) := fun m H hm => cfS_KS (by
  show (if m ≤ 1024 then some (nA (Sort.bitsLen m), H) else none) = _
  rw [if_pos hm])
section
variable {s c n : Nat} {rest : List AV} {opn : Option Nat}
theorem s_104 (k : Nat) : K104 (cfS (k + 1)) s c n rest opn := fun hS hW hw hs ha hb hsw => by
  obtain ⟨v, H', h, rfl, h2⟩ := x104 (fuel := 2000) (c := c) (s_less k) hS hW hw hs ha hb (by omega)
  exact ⟨H', (cfS_step rfl rfl).trans h, h2⟩
theorem s_102 (k : Nat) : K102 (cfS (k + 2)) s c n rest opn := fun hS hW hw hs ha hb he hsw => by
  obtain ⟨v, H', h, rfl, h2⟩ := x102 (fuel := 2000) (c := c) (s_104 k) hS hW hw hs ha hb he hsw
  exact ⟨H', (cfS_step rfl rfl).trans h, h2⟩
theorem s_101 (k : Nat) (hn : n ≤ 1024) : K101 (cfS (k + 3)) s c n rest opn := fun hS hW hw hs ha hb hsw => by
  obtain ⟨v, H', h, rfl, h2⟩ := x101 (fuel := 2000) (c := c) (s_102 k) hS hW hw hs ha hb (by omega) hsw
  exact ⟨H', (cfS_step rfl rfl).trans h, h2⟩
theorem s_99 (k : Nat) : K99 (cfS (k + 1)) := fun m H hm => by
  obtain ⟨v, H', h, rfl, h2⟩ := x99 (fuel := 2000) (H := H) (s_86 k) hm
  exact ⟨H', (cfS_step rfl rfl).trans h, h2⟩
theorem s_100 (k : Nat) : K100 (cfS (k + 1)) s n rest opn := fun hS hW hw hs hx => by
  obtain ⟨v, H', h, rfl, h2⟩ := x100 (cf := cfS k) (fuel := 2000) hS hW hw hs hx
  exact ⟨H', (cfS_step rfl rfl).trans h, h2⟩
theorem s_kp (k : Nat) (hn : n ≤ 1024) : KP (cfS (k + 4)) s c n rest opn where
  less := s_less _
  k87 := fun hS ha hb => by
    obtain ⟨v, H', h, rfl, h2⟩ := x87 (cf := cfS (k + 3)) (fuel := 2000) (c := c) (s_less _) hS ha hb (by omega) (by omega)
    exact ⟨H', (cfS_step rfl rfl).trans h, h2⟩
  k88 := fun hS ha hb => by
    obtain ⟨v, H', h, rfl, h2⟩ := x88 (cf := cfS (k + 3)) (fuel := 2000) (c := c) hS ha hb (by omega) (by omega) (fun q1 q2 q3 => by
      obtain ⟨v, H', h, rfl, h2⟩ := x98 (cf := cfS (k + 2)) (fuel := 2000) (c := c) (s_less _) q1 q2 q3 (by omega) (by omega)
      exact ⟨H', (cfS_step rfl rfl).trans h, h2⟩)
    exact ⟨H', (cfS_step rfl rfl).trans h, h2⟩
  k89 := fun hS hs ha hb => by
    obtain ⟨v, H', h, rfl, h2⟩ := x89 (cf := cfS (k + 3)) (fuel := 2000) (c := c) (s_99 _) (s_100 _) hS hs ha hb hn (by omega)
    exact ⟨H', (cfS_step rfl rfl).trans h, h2⟩
  k90 := fun hS hs ha hb => by
    obtain ⟨v, H', h, rfl, h2⟩ := x90 (cf := cfS (k + 3)) (fuel := 2000) (c := c) (s_101 _ hn) (s_102 _) hS hs ha hb (by omega)
    exact ⟨H', (cfS_step rfl rfl).trans h, h2⟩
  k91 := fun hS ha hb => by
    obtain ⟨v, H', h, rfl, h2⟩ := x91 (cf := cfS (k + 3)) (fuel := 2000) (c := c) hS ha hb (by omega) (by omega)
    exact ⟨H', (cfS_step rfl rfl).trans h, h2⟩
  k92 := fun hS ha hb => by
    obtain ⟨v, H', h, rfl, h2⟩ := x92 (cf := cfS (k + 3)) (fuel := 2000) (c := c) (s_less _) hS ha hb (by omega) (by omega)
    exact ⟨H', (cfS_step rfl rfl).trans h, h2⟩
  k94 := fun hS ha hp hb => by
    obtain ⟨v, H', h, rfl, h2⟩ := x94 (cf := cfS (k + 3)) (fuel := 2000) (c := c) (s_less _) hS ha hp hb (by omega) (by omega)
    exact ⟨H', (cfS_step rfl rfl).trans h, h2⟩
  k95 := fun hS ha hp hb => by
    obtain ⟨v, H', h, rfl, h2⟩ := x95 (cf := cfS (k + 3)) (fuel := 2000) (c := c) (s_less _) hS ha hp hb (by omega) (by omega)
    exact ⟨H', (cfS_step rfl rfl).trans h, h2⟩
theorem s_85 (hn : n ≤ 1024) : ∀ j k, K85 (cfS (k + 5 + j)) s c n rest opn (13 * 2 ^ j)
  | 0, k => fun hS hs ha hb hN hl => by
    obtain ⟨v, H', h, rfl, h2⟩ := x85 (cf := cfS (k + 4)) (fuel := 2000) (c := c) (N := 0) (s_kp k hn) (fun _ _ _ _ q => absurd q (by omega)) hS hs ha hb (.inr (by omega)) hl hn (by omega)
    exact ⟨H', (cfS_step rfl rfl).trans h, h2⟩
  | j + 1, k => fun hS hs ha hb hN hl => by
    obtain ⟨v, H', h, rfl, h2⟩ := x85 (cf := cfS (k + 5 + j)) (fuel := 2000) (c := c) (by have := s_kp (s := s) (c := c) (rest := rest) (opn := opn) (k + 1 + j) hn; rwa [show k + 1 + j + 4 = k + 5 + j by omega] at this) (s_85 hn j k) hS hs ha hb (.inl (by rw [Nat.pow_succ] at hN; omega)) hl hn (by omega)
    exact ⟨H', (cfS_step rfl rfl).trans h, h2⟩
theorem s_80 {k : Nat} {H0 H : AHeap} {d : Array Int} (hn : n ≤ 1024) (hS : SS H0 s rest opn n H d) (hs : s < H0.next) : ∃ H', cfS (k + 13) 80 [.sl s 0 n c] H = some (.tup [], H') ∧ SS H0 s rest opn n H' (Sort.sort lt6 d) := by
  have hb := len_b hn
  have h85 : ∀ {H : AHeap}, SS H0 s rest opn n H d → ∃ H', cfS (k + 12) 85 [.sl s 0 n c, nA 0, nA n, nA (Sort.bitsLen n)] H = some (.tup [], H') ∧ SS H0 s rest opn n H' (Sort.sort lt6 d) := fun q => by
    have h := s_85 (c := c) hn 7 k q hs (a := 0) (b := n) (limit := Sort.bitsLen n) (by omega) (by omega) (by omega) (by omega)
    rw [Sort.sort, hS.sz]
    exact h
  have : ∃ v H', xfunc (cfS (k + 12)) 2000 L80 [.sl s 0 n c] H = some (v, H') ∧ v = .tup [] ∧ SS H0 s rest opn n H' (Sort.sort lt6 d) := by
    refine xfunc_ofK rfl (by show 1 ≤ 11; omega) ?_
    unfold L80
    dsimp only
    repeat' (first | refine WK.seq ?_ | (apply WK.reg; (· exact lnn)) | (refine WKO.callE rfl rfl rfl (h85 (by apply SS.up; (· assumption); (· rfl); (· first | omega | (simp only [next_bump]; omega)))) ?_; intro _ _) | refine WKO.nil ?_ | ((first | apply WKO.op); (· first | exact k_mv rfl | exact k_convU rfl (by omega) | exact k_call rfl rfl (s_86 (k + 12) _ _ (by omega)) | exact opA); (· rfl)) | refine pN ?_ | fail)
    exact ⟨fun _ => by simp, _, rfl, rfl, (by apply SS.up; (· assumption); (· rfl); (· first | omega | (simp only [next_bump]; omega)))⟩
  obtain ⟨v, H', h, rfl, h2⟩ := this
  exact ⟨H', (cfS_step rfl rfl).trans h, h2⟩
end
end Go.Proofs.Ytpbighinamljbaa.PA
namespace Go.Eng
def Tr.filt {α : Type} : Tr α → (Nat → Bool) → Tr α
  | .e, _ => .e
  | .n l v r, p => .n (l.filt fun k => p (2 * k + 1)) (if p 0 then v else none) (r.filt fun k => p (2 * k + 2))
theorem Tr.get_filt {α : Type} : ∀ (t : Tr α) (p : Nat → Bool) (i : Nat), (t.filt p).get i = if p i then t.get i else none
  | .e, p, i => by simp [Tr.filt, Tr.get]
  | .n l v r, p, 0 => by simp [Tr.filt, Tr.get]
  | .n l v r, p, i + 1 => by
    simp only [Tr.filt, Tr.get]
    split
    · rename_i h
      have e : 2 * (i / 2) + 1 = i + 1 := by simp at h; omega
      rw [Tr.get_filt l, e]
    · rename_i h
      have e : 2 * (i / 2) + 2 = i + 1 := by simp at h; omega
      rw [Tr.get_filt r, e]
end Go.Eng
namespace Go.Proofs.Ytpbighinamljbaa.PA
open Go Go.Eng Go.Proofs
def runNext (x : AV) (H : AHeap) (l : List Int) : Nat := match sortedRun (cfS 14) 2000 x H l with
  | some (_, H1) => H1.next
  | none => 0
def sortL (l : List Int) : List Int := l.mergeSort (fun x y => decide (x ≤ y))
theorem sortL_perm (l : List Int) : (sortL l).Perm l := List.mergeSort_perm _ _
theorem sortL_eq {l m : List Int} (h : l.Perm m) : sortL l = sortL m := by
  have hs : ∀ l : List Int, (sortL l).Pairwise fun x y => decide (x ≤ y) = true := fun l => List.pairwise_mergeSort (le := fun x y => decide (x ≤ y)) (fun a b c h1 h2 => by simp at *; omega) (fun a b => by simp; omega) l
  exact List.Perm.eq_of_pairwise (le := fun x y : Int => decide (x ≤ y) = true) (fun a b _ _ h1 h2 => by simp at *; omega) (hs l) (hs m) ((sortL_perm l).trans (h.trans (sortL_perm m).symm))
def srtH (H : AHeap) (x : AV) (ks : List Int) : AHeap :=
  ⟨(H.m.filt fun k => Nat.blt k H.next).set (H.next + 4) (some (.cells ((sortL ks).map (AV.int .u16)) (some 1))), ((permsL ks).map (runNext x H)).foldl Nat.max (H.next + 5)⟩
theorem foldl_max_le : ∀ (l : List Nat) (a : Nat), a ≤ l.foldl Nat.max a
  | [], a => Nat.le_refl _
  | x :: l, a => Nat.le_trans (Nat.le_max_left a x) (foldl_max_le l _)
theorem foldl_max_mem : ∀ {l : List Nat} {a x : Nat}, x ∈ l → x ≤ l.foldl Nat.max a
  | y :: l, a, x, h => by
    rcases List.mem_cons.1 h with rfl | h
    · exact Nat.le_trans (Nat.le_max_right a x) (foldl_max_le l _)
    · exact foldl_max_mem (l := l) h
theorem sorted_run {H : AHeap} {x : AV} {l ks : List Int} (hl : l.Perm ks) (h0 : ks ≠ []) (hn : ks.length ≤ 1024) :
    ∃ H1, sortedRun (cfS 14) 2000 x H l = some (.sl (H.next + 4) 0 ks.length openCap, H1) ∧ HSame H1 (srtH H x ks) := by
  have hlen : l.length = ks.length := hl.length_eq
  have hl0 : l ≠ [] := by intro w; subst w; exact h0 (List.length_eq_zero_iff.1 hlen.symm)
  have hmain : ∃ H1, sortedRun (cfS 14) 2000 x H l = some (.sl (H.next + 4) 0 ks.length openCap, H1) ∧ H1.get (H.next + 4) = some (.cells ((sortL ks).map (AV.int .u16)) (some 1)) ∧ ∀ k, k < H.next → H1.get k = H.get k := by
    obtain ⟨H2, hH2⟩ : ∃ H2, colH (H.bump 4) l = H2 := ⟨_, rfl⟩
    have hv : colV (H.bump 4) l = .sl (H.next + 4) 0 ks.length openCap := by rw [colV, if_neg hl0, hlen]; rfl
    have hH : H2 = (H.bump 4).add (.cells (l.map (AV.int .u16)) (some 1)) := by rw [← hH2, colH, if_neg hl0]
    have hn2 : H2.next = H.next + 5 := by rw [hH]; rfl
    have hd : SS H2 (H.next + 4) [] (some 1) ks.length H2 l.toArray := ⟨by
      unfold Dat
      rw [hH, AHeap.get_add, List.append_nil]
      exact if_pos rfl, by simpa using hlen, Nat.le_refl _, fun _ _ _ => rfl⟩
    have hold : ∀ k, k < H.next → H2.get k = H.get k := fun k hk => by
      rw [hH, AHeap.get_add, if_neg (by show ¬ k = H.next + 4; omega)]
      rfl
    have hw : WK (cfS 14) 2000 sRest [(3, .sl (H.next + 4) 0 ks.length openCap)] H2 fun e l' H' => e = .ret ∧ Eng.look l' 2 = some (.sl (H.next + 4) 0 ks.length openCap) ∧ SS H2 (H.next + 4) [] (some 1) ks.length H' (Sort.sort lt6 l.toArray) := by
      have hc : ∀ {H3 : AHeap}, SS H2 (H.next + 4) [] (some 1) ks.length H3 l.toArray → ∃ H', cfS 14 80 [.sl (H.next + 4) 0 ks.length openCap] H3 = some (.tup [], H') ∧ SS H2 (H.next + 4) [] (some 1) ks.length H' (Sort.sort lt6 l.toArray) := fun q => s_80 (k := 1) hn q (by omega)
      unfold sRest
      repeat' (first | refine WK.seq ?_ | refine WK.ret ?_ | (apply WK.reg; (· exact lnn)) | (refine WKO.callE rfl rfl rfl (hc (by apply SS.up; (· assumption); (· rfl); (· first | omega | (simp only [next_bump]; omega)))) ?_; intro _ _) | refine WKO.nil ?_ | ((first | apply WKO.op); (· first | exact k_mv rfl); (· rfl)) | refine pN ?_ | fail)
      exact ⟨rfl, rfl, (by apply SS.up; (· assumption); (· rfl); (· first | omega | (simp only [next_bump]; omega)))⟩
    obtain ⟨tm2, htm⟩ : ∃ tm2, (((((argsT [x] 0 .e).set 2 (some .nils)).set 4 (some x)).set 5 (some (.sl (H.next + 4) 0 ks.length openCap))).set 3 (some (.sl (H.next + 4) 0 ks.length openCap))) = tm2 := ⟨_, rfl⟩
    have hk : Kw tm2 [(3, .sl (H.next + 4) 0 ks.length openCap)] := fun d v h => by
      unfold Eng.look at h
      split at h
      · rename_i q
        have : d = 3 := by simpa using q
        subst this
        cases h
        rw [← htm]
        exact Tr.get_set_self _ _ _
      · cases h
    have hw2 := hw
    unfold WK at hw2
    have hw3 := hw2 tm2 hk
    unfold W at hw3
    obtain ⟨e, s', q1, l', q2, rfl, q3, q4⟩ := hw3
    refine ⟨s'.H, ?_, ?_, fun k hk => ?_⟩
    · have hr : sortedRun (cfS 14) 2000 x H l = match xcode (cfS 14) 2000 sRest ⟨tm2, H2⟩ with
          | some (.ret, s3) => (s3.tm.get 2).map fun v => (v, s3.H)
          | _ => none := by
        rw [← htm, ← hv, ← hH2]
        rfl
      rw [hr, q1]
      show (s'.tm.get 2).map _ = _
      rw [q2 2 _ q3]
      rfl
    · have := q4.dat
      unfold Dat at this
      rw [this, List.append_nil]
      congr 3
      rw [lt6_eq, Sort.sortInt l]
      exact sortL_eq hl
    · exact (q4.fr k (by omega) (by omega)).trans (hold k hk)
  obtain ⟨H1, e1, g1, g2⟩ := hmain
  refine ⟨H1, e1, fun i => ?_, ?_⟩
  · show ObjSame (H1.get i) (((H.m.filt fun k => Nat.blt k H.next).set (H.next + 4) _).get i)
    rw [Tr.get_set]
    split
    · rename_i h
      rw [h, g1]
      exact .refl _
    · rw [Tr.get_filt]
      split
      · rename_i h
        rw [g2 i (by simpa [Nat.blt_eq] using h)]
        exact .refl _
      · exact .forget _
  · have : runNext x H l = H1.next := by unfold runNext; rw [e1]
    rw [← this]
    exact foldl_max_mem (List.mem_map.2 ⟨l, perms_mem hl, rfl⟩)
end Go.Proofs.Ytpbighinamljbaa.PA
namespace Go.Proofs.Ytpbighinamljbaa.PA
open Go Go.Eng Go.Proofs
def sA (m : Nat) : AV := .int .u16 (m : Int)
def sdiff (a b : Nat) : Nat := a ^^^ (a &&& b)
theorem sdiff_bit (a b i : Nat) : (sdiff a b).testBit i = (a.testBit i && !b.testBit i) := by
  simp only [sdiff, Nat.testBit_xor, Nat.testBit_and]
  cases a.testBit i <;> cases b.testBit i <;> rfl
theorem sdiff_le (a b : Nat) : sdiff a b ≤ a := by
  have h : a &&& sdiff a b = sdiff a b := by
    apply Nat.eq_of_testBit_eq
    intro i
    rw [Nat.testBit_and, sdiff_bit]
    cases a.testBit i <;> cases b.testBit i <;> rfl
  rw [← h]
  exact Nat.and_le_left
theorem wrap16 (n : Nat) (h : n < 65536) : wrapA .u16 (n : Int) = (n : Int) := by
  simp [wrapA, IntKind.wrap, IntKind.bits, IntKind.signed]
  omega
theorem bv_and (B a b : Nat) (ha : a < 2 ^ B) (hb : b < 2 ^ B) : (BitVec.ofInt B (a : Int) &&& BitVec.ofInt B (b : Int)).toNat = a &&& b := by
  rw [BitVec.toNat_and, BitVec.ofInt_natCast, BitVec.ofInt_natCast, BitVec.toNat_ofNat, BitVec.toNat_ofNat, Nat.mod_eq_of_lt ha, Nat.mod_eq_of_lt hb]
theorem bv_or (B a b : Nat) (ha : a < 2 ^ B) (hb : b < 2 ^ B) : (BitVec.ofInt B (a : Int) ||| BitVec.ofInt B (b : Int)).toNat = a ||| b := by
  rw [BitVec.toNat_or, BitVec.ofInt_natCast, BitVec.ofInt_natCast, BitVec.toNat_ofNat, BitVec.toNat_ofNat, Nat.mod_eq_of_lt ha, Nat.mod_eq_of_lt hb]
theorem bv_diff (B a b : Nat) (ha : a < 2 ^ B) (hb : b < 2 ^ B) : (BitVec.ofInt B (a : Int) &&& ~~~ BitVec.ofInt B (b : Int)).toNat = sdiff a b := by
  apply Nat.eq_of_testBit_eq
  intro i
  rw [sdiff_bit, BitVec.testBit_toNat, BitVec.getLsbD_and, BitVec.getLsbD_not, BitVec.ofInt_natCast, BitVec.ofInt_natCast, BitVec.getLsbD_ofNat, BitVec.getLsbD_ofNat]
  by_cases hi : i < B
  · simp [hi]
  · have : a.testBit i = false := Nat.testBit_lt_two_pow (Nat.lt_of_lt_of_le ha (Nat.pow_le_pow_right (by omega) (by omega)))
    simp [hi, this]
@[irreducible] def bt (a k : Nat) : Bool := a.testBit k
theorem bt_eq (a k : Nat) : bt a k = a.testBit k := by unfold bt; rfl
section
variable {cf : CF} {n a b : Nat} {H : AHeap} {l : KL0} {x y : XO}
theorem k_or16 (hx : evK l x = some (sA a)) (hy : evK l y = some (sA b)) (ha : a < 1024) (hb : b < 1024) : XV cf l H n (.bin .or x y) = some (sA (a ||| b), H) :=
  k_bin hx hy (by
    show some (AV.int .u16 (wrapA .u16 ((BitVec.ofInt 16 (a : Int) ||| BitVec.ofInt 16 (b : Int)).toNat : Nat))) = _
    have h : a ||| b < 2 ^ 10 := Nat.or_lt_two_pow ha hb
    rw [bv_or 16 a b (by omega) (by omega), wrap16 _ (by omega)]
    rfl)
theorem k_and16 (hx : evK l x = some (sA a)) (hy : evK l y = some (sA b)) (ha : a < 1024) (hb : b < 1024) : XV cf l H n (.bin .and x y) = some (sA (a &&& b), H) :=
  k_bin hx hy (by
    show some (AV.int .u16 (wrapA .u16 ((BitVec.ofInt 16 (a : Int) &&& BitVec.ofInt 16 (b : Int)).toNat : Nat))) = _
    have h : a &&& b ≤ a := Nat.and_le_left
    rw [bv_and 16 a b (by omega) (by omega), wrap16 _ (by omega)]
    rfl)
theorem k_dif16 (hx : evK l x = some (sA a)) (hy : evK l y = some (sA b)) (ha : a < 1024) (hb : b < 1024) : XV cf l H n (.bin .andNot x y) = some (sA (sdiff a b), H) :=
  k_bin hx hy (by
    show some (AV.int .u16 (wrapA .u16 ((BitVec.ofInt 16 (a : Int) &&& ~~~ BitVec.ofInt 16 (b : Int)).toNat : Nat))) = _
    have h : sdiff a b ≤ a := sdiff_le a b
    rw [bv_diff 16 a b (by omega) (by omega), wrap16 _ (by omega)]
    rfl)
theorem k_shl16 {k : Nat} (hx : evK l x = some (.int .u16 (.ofNat 1))) (hy : evK l y = some (nA k)) (h : k ≤ 10) : XV cf l H n (.bin .shl x y) = some (sA (2 ^ k), H) :=
  k_bin hx hy (by
    show (if (k : Int) < 0 then none else some (AV.int .u16 (wrapA .u16 ((1 : Int) * 2 ^ (min (k : Int).toNat 16))))) = _
    rw [if_neg (by omega), Int.toNat_natCast, Nat.min_eq_left (by omega)]
    have e : (1 : Int) * 2 ^ k = ((2 ^ k : Nat) : Int) := by simp
    have h2 : 2 ^ k ≤ 2 ^ 10 := Nat.pow_le_pow_right (by omega) h
    rw [e, wrap16 _ (by omega)]
    rfl)
theorem k_sub16 (hx : evK l x = some (sA a)) (hy : evK l y = some (sA b)) (h : b ≤ a) (ha : a < 65536) : XV cf l H n (.bin .sub x y) = some (sA (a - b), H) :=
  k_bin hx hy (by
    show some (AV.int .u16 (wrapA .u16 ((a : Int) - (b : Int)))) = _
    rw [show (a : Int) - (b : Int) = ((a - b : Nat) : Int) by omega, wrap16 _ (by omega)]
    rfl)
theorem k_eql16 (hx : evK l x = some (sA a)) (hy : evK l y = some (sA b)) : XV cf l H n (.bin .eql x y) = some (.bool (decide (a = b)), H) :=
  k_bin hx hy (by
    show some (AV.bool ((a : Int) == (b : Int))) = _
    congr 2
    rw [Bool.eq_iff_iff]
    simp
    omega)
theorem k_neq16 (hx : evK l x = some (sA a)) (hy : evK l y = some (sA b)) : XV cf l H n (.bin .neq x y) = some (.bool (decide (a ≠ b)), H) :=
  k_bin hx hy (by
    show some (AV.bool ((a : Int) != (b : Int))) = _
    congr 2
    rw [Bool.eq_iff_iff]
    simp
    omega)
theorem k_orN (hx : evK l x = some (nA a)) (hy : evK l y = some (nA b)) (ha : a < 1048576) (hb : b < 1048576) : XV cf l H n (.bin .or x y) = some (nA (a ||| b), H) :=
  k_bin hx hy (by
    show some (AV.int .i64 (wrapA .i64 ((BitVec.ofInt 64 (a : Int) ||| BitVec.ofInt 64 (b : Int)).toNat : Nat))) = _
    have h : a ||| b < 2 ^ 20 := Nat.or_lt_two_pow ha hb
    rw [bv_or 64 a b (by omega) (by omega), wrapI _ (by omega) (by omega)]
    rfl)
theorem k_andN (hx : evK l x = some (nA a)) (hy : evK l y = some (nA b)) (ha : a < 1048576) (hb : b < 1048576) : XV cf l H n (.bin .and x y) = some (nA (a &&& b), H) :=
  k_bin hx hy (by
    show some (AV.int .i64 (wrapA .i64 ((BitVec.ofInt 64 (a : Int) &&& BitVec.ofInt 64 (b : Int)).toNat : Nat))) = _
    have h : a &&& b ≤ a := Nat.and_le_left
    rw [bv_and 64 a b (by omega) (by omega), wrapI _ (by omega) (by omega)]
    rfl)
theorem k_difN (hx : evK l x = some (nA a)) (hy : evK l y = some (nA b)) (ha : a < 1048576) (hb : b < 1048576) : XV cf l H n (.bin .andNot x y) = some (nA (sdiff a b), H) :=
  k_bin hx hy (by
    show some (AV.int .i64 (wrapA .i64 ((BitVec.ofInt 64 (a : Int) &&& ~~~ BitVec.ofInt 64 (b : Int)).toNat : Nat))) = _
    have h : sdiff a b ≤ a := sdiff_le a b
    rw [bv_diff 64 a b (by omega) (by omega), wrapI _ (by omega) (by omega)]
    rfl)
theorem k_shlN {k : Nat} (hx : evK l x = some (nA a)) (hy : evK l y = some (nA k)) (h : a * 2 ^ k < 9223372036854775808) (hk : k ≤ 64) : XV cf l H n (.bin .shl x y) = some (nA (a * 2 ^ k), H) :=
  k_bin hx hy (by
    show (if (k : Int) < 0 then none else some (AV.int .i64 (wrapA .i64 ((a : Int) * 2 ^ (min (k : Int).toNat 64))))) = _
    rw [if_neg (by omega), Int.toNat_natCast, Nat.min_eq_left hk]
    have e : (a : Int) * 2 ^ k = ((a * 2 ^ k : Nat) : Int) := by simp
    rw [e, wrapI _ (by omega) (by omega)]
    rfl)
theorem k_shl1 {k : Nat} (hx : evK l x = some (nA 1)) (hy : evK l y = some (nA k)) (hk : k ≤ 20) : XV cf l H n (.bin .shl x y) = some (nA (2 ^ k), H) := by
  have h2 : 2 ^ k ≤ 2 ^ 20 := Nat.pow_le_pow_right (by omega) hk
  have := k_shlN (cf := cf) (H := H) (n := n) hx hy (by omega) (by omega)
  rwa [Nat.one_mul] at this
theorem k_shrN {k : Nat} (hx : evK l x = some (nA a)) (hy : evK l y = some (nA k)) (hk : k ≤ 64) : XV cf l H n (.bin .shr x y) = some (nA (a >>> k), H) :=
  k_bin hx hy (by
    show (if (k : Int) < 0 then none else some (AV.int .i64 ((a : Int).fdiv (2 ^ (min (k : Int).toNat 64))))) = _
    rw [if_neg (by omega), Int.toNat_natCast, Nat.min_eq_left hk]
    have : (2 : Int) ^ k = ((2 ^ k : Nat) : Int) := by simp
    rw [this, Int.fdiv_eq_ediv_of_nonneg _ (Int.natCast_nonneg _), Nat.shiftRight_eq_div_pow]
    rfl)
theorem bit_and (a k : Nat) : (a >>> k) &&& 1 = if a.testBit k then 1 else 0 := by
  rw [Nat.and_comm, Nat.testBit_eq_decide_div_mod_eq, Nat.one_and_eq_mod_two, Nat.shiftRight_eq_div_pow]
  have : a / 2 ^ k % 2 = 0 ∨ a / 2 ^ k % 2 = 1 := by omega
  rcases this with h | h <;> simp [h]
theorem k_bitN {k : Nat} (hx : evK l x = some (nA ((a >>> k) &&& 1))) (hy : evK l y = some (nA 1)) : XV cf l H n (.bin .eql x y) = some (.bool (bt a k), H) := by
  have h := k_eqlN (cf := cf) (H := H) (n := n) hx hy
  have e : decide ((a >>> k) &&& 1 = 1) = bt a k := by
    rw [bit_and, bt_eq]
    cases a.testBit k <;> rfl
  rwa [e] at h
theorem k_andB {k : Nat} (hx : evK l x = some (nA (a >>> k))) (hy : evK l y = some (nA 1)) (ha : a < 1048576) : XV cf l H n (.bin .and x y) = some (nA ((a >>> k) &&& 1), H) :=
  k_andN hx hy (Nat.lt_of_le_of_lt (by rw [Nat.shiftRight_eq_div_pow]; exact Nat.div_le_self _ _) ha) (by omega)
theorem k_ia1 {len : Nat} {cs : List AV} {f : Bool} (hx : evK l x = some (.imm cs len f)) (hy : evK l y = some (nA a)) (h : a < len) : XV cf l H n (.iaddr 1 x y) = some (.iptr cs a, H) := by
  have q := k_iaM (cf := cf) (H := H) (n := n) (z := 1) hx hy h
  rwa [Nat.mul_one] at q
theorem k_ldM {cs : List AV} {p : Nat} {v : AV} (hx : evK l x = some (.iptr cs p)) (h : cs[p]? = some v) : XV cf l H n (.load none x) = some (v, H) :=
  k_load hx (by simp only [loadA, cellsAt, List.getElem?_drop, Nat.add_zero, h])
end
theorem map_at {f : Nat → AV} {N : List Nat} {p : Nat} (h : p < N.length) : (N.map f)[p]? = some (f (N.getD p 0)) := by
  rw [List.getElem?_map, List.getD_eq_getElem?_getD, List.getElem?_eq_getElem h]
  rfl
theorem or10 {a b : Nat} (ha : a < 1024) (hb : b < 1024) : a ||| b < 1024 := Nat.or_lt_two_pow (n := 10) ha hb
theorem getD_lt10 {N : List Nat} (h : ∀ m ∈ N, m < 1024) (i : Nat) : N.getD i 0 < 1024 := by
  rw [List.getD_eq_getElem?_getD]
  cases q : N[i]? with
  | none => simp
  | some m => exact h m (List.mem_of_getElem? q)
end Go.Proofs.Ytpbighinamljbaa.PA
namespace Go.Eng
def Clean (H : AHeap) : Prop := ∀ j, H.next ≤ j → H.get j = none
def CleanTo (H H' : AHeap) : Prop := (Clean H → Clean H') ∧ H.next ≤ H'.next
def CleanCF (cf : CF) : Prop := ∀ f args H v H', cf f args H = some (v, H') → CleanTo H H'
theorem CleanTo.refl (H : AHeap) : CleanTo H H := ⟨id, Nat.le_refl _⟩
theorem CleanTo.trans {a b c : AHeap} (h : CleanTo a b) (k : CleanTo b c) : CleanTo a c := ⟨fun q => k.1 (h.1 q), Nat.le_trans h.2 k.2⟩
theorem clean_bump (H : AHeap) (k : Nat) : CleanTo H (H.bump k) := ⟨fun h j hj => h j (by rw [next_bump] at hj; omega), by rw [next_bump]; omega⟩
theorem clean_add (H : AHeap) (o : AObj) : CleanTo H (H.add o) := ⟨fun h j hj => by
  rw [next_add] at hj
  rw [AHeap.get_add, if_neg (by omega)]
  exact h j (by omega), by rw [next_add]; omega⟩
theorem clean_set {H : AHeap} {i : Nat} {o : Option AObj} (hi : i < H.next ∨ H.get i ≠ none ∨ o = none) : CleanTo H (H.set i o) := ⟨fun h j hj => by
  rw [next_set] at hj
  rw [AHeap.get_set]
  split
  · rename_i q
    subst q
    rcases hi with p | p | p
    · omega
    · exact absurd (h j hj) p
    · exact p
  · exact h j hj, by rw [next_set]; omega⟩
theorem clean_some {H : AHeap} {i : Nat} {o : Option AObj} {p : AObj} (h : H.get i = some p) : CleanTo H (H.set i o) := clean_set (.inr (.inl (by rw [h]; simp)))
theorem ofV_eff {o : Option AV} {x : AV} {H : AHeap} (h : AR.ofV o = .eff x H) : False := by
  cases o <;> simp [AR.ofV] at h
theorem storeA_clean {H H' : AHeap} {n : Nat} {a x : AV} (h : storeA H n a x = some H') : CleanTo H H' := by
  simp only [storeA] at h
  split at h
  · cases h
  · split at h
    · split at h
      · rename_i hg
        split at h
        · cases h; exact clean_some hg
        · cases h
      · cases h
    · cases h
theorem mkSliceA_clean {H H' : AHeap} {z : List AV} {b : Nat} {l c v : AV} (h : mkSliceA H z b l c = .eff v H') : CleanTo H H' := by
  unfold mkSliceA at h
  split at h
  · split at h
    · cases h; exact clean_add _ _
    · cases h
  · cases h
theorem appA_clean {H H' : AHeap} {z b : Nat} {x y v : AV} (h : appA H z b x y = .eff v H') : CleanTo H H' := by
  unfold appA at h
  repeat' (split at h)
  all_goals first
    | (cases h; done)
    | (cases h; exact .refl _)
    | (cases h; exact clean_add _ _)
    | (cases h; exact clean_some ‹_›)
    | (cases h; exact (clean_set (.inr (.inr rfl))).trans (clean_add _ _))
theorem xop_clean {ev : XO → Option AV} {H H' : AHeap} {n : Nat} {op : XOp} {x : AV} (h : xop ev H n op = .eff x H') : CleanTo H H' := by
  cases op <;> simp only [xop] at h
  all_goals (try (exact (ofV_eff h).elim))
  all_goals (try (cases h; done))
  all_goals (repeat' (split at h))
  all_goals first
    | (cases h; done)
    | (exact (ofV_eff h).elim)
    | (cases h; exact .refl _)
    | (cases h; exact clean_add _ _)
    | (cases h; exact clean_some ‹_›)
    | (cases h; exact storeA_clean ‹_›)
    | (exact mkSliceA_clean h)
    | (exact appA_clean h)
    | skip
theorem xtrace_xops {cf : CF} : ∀ (ops : List XOper) (n : Nat) (s s' : St) (tr : List St), xtrace cf ops n s = some tr → tr.getLast? = some s' → xops cf ops n s = some s'
  | [], n, s, s', tr, h, hl => by
    cases h
    simpa [xops] using hl
  | o :: r, n, s, s', tr, h, hl => by
    simp only [xtrace] at h
    split at h
    · rename_i s1 h1
      obtain ⟨tr1, h2, rfl⟩ := Option.map_eq_some_iff.1 h
      simp only [xops, h1]
      refine xtrace_xops r (n + 1) s1 s' tr1 h2 ?_
      rw [List.getLast?_cons] at hl
      have hne := xtrace_len _ _ _ _ h2
      cases tr1 with
      | nil => simp at hne
      | cons a l =>
        rw [List.getLast?_eq_some_getLast (by simp)] at hl ⊢
        exact hl
    · cases h
theorem loopF_clean {body : St → Option (XE × St)} (hb : ∀ s e s', body s = some (e, s') → CleanTo s.H s'.H) : ∀ (k : Nat) (s : St) (e : XE) (s' : St), loopF body k s = some (e, s') → CleanTo s.H s'.H
  | 0, s, e, s', h => by simp [loopF] at h
  | k + 1, s, e, s', h => by
    simp only [loopF] at h
    split at h
    · rename_i s1 h1
      exact (hb _ _ _ h1).trans (loopF_clean hb k s1 e s' h)
    · exact hb _ _ _ h
theorem mrun_clean {ok : St → Bool} {fin : St → St} {rnd : AV × AV → St → Option (XE × St)} {out : Nat} (hf : ∀ s, CleanTo s.H (fin s).H) (hr : ∀ p s e s', rnd p s = some (e, s') → CleanTo s.H s'.H) : ∀ (l : List (AV × AV)) (s : St) (e : XE) (s' : St), mrun ok fin rnd out l s = some (e, s') → CleanTo s.H s'.H
  | [], s, e, s', h => by
    simp only [mrun] at h
    split at h
    · cases h; exact hf s
    · cases h
  | p :: r, s, e, s', h => by
    simp only [mrun] at h
    split at h
    · split at h
      · rename_i s1 h1
        exact (hr _ _ _ _ h1).trans (mrun_clean hf hr r s1 e s' h)
      · rename_i i s1 h1
        split at h <;> cases h <;> exact hr _ _ _ _ h1
      · exact hr _ _ _ _ h
    · cases h
theorem meetR_clean {e : XE} : ∀ (l : List (Option (XE × St))) (s : St) (e' : XE) (s' : St), meetR e s l = some (e', s') → CleanTo s.H s'.H
  | [], s, e', s', h => by
    simp only [meetR, Option.some.injEq, Prod.mk.injEq] at h
    obtain ⟨_, rfl⟩ := h
    exact .refl _
  | some (e1, s1) :: r, s, e', s', h => by
    simp only [meetR] at h
    split at h
    · have c := meetR_clean r _ e' s' h
      refine CleanTo.trans ?_ c
      refine ⟨fun q j hj => q j ?_, Nat.le_max_left _ _⟩
      exact Nat.le_trans (Nat.le_max_left _ _) hj
    · cases h
  | none :: r, s, e', s', h => by simp [meetR] at h
theorem meetAll_clean {H : AHeap} {l : List (Option (XE × St))} (hl : ∀ e s, some (e, s) ∈ l → CleanTo H s.H) {e : XE} {s : St} (h : meetAll l = some (e, s)) : CleanTo H s.H := by
  unfold meetAll at h
  split at h
  · rename_i e1 s1 r
    exact (hl e1 s1 (by simp)).trans (meetR_clean r s1 e s h)
  · cases h
section
variable {cf : CF} (hcf : CleanCF cf)
include hcf
theorem xval_clean {ev : XO → Option AV} {H H' : AHeap} {n : Nat} {op : XOp} {x : AV} (hn : n < H.next) (h : xval cf ev H n op = some (x, H')) : CleanTo H H' := by
  unfold xval at h
  split at h
  · split at h
    · exact hcf _ _ _ _ _ h
    · cases h
  · split at h
    · cases h
    · cases h; exact .refl _
    · cases h; exact clean_set (.inl hn)
    · cases h; exact xop_clean ‹_›
theorem xstep_clean {s s' : St} {n : Nat} {o : XOper} (hn : n < s.H.next) (h : xstep cf s n o = some s') : CleanTo s.H s'.H := by
  unfold xstep at h
  split at h
  · split at h
    · rename_i x H hx
      cases h
      exact xval_clean hcf hn hx
    · cases h
  · cases h; exact .refl _
  · cases h
theorem xops_clean : ∀ (ops : List XOper) (n : Nat) (s s' : St), n + ops.length ≤ s.H.next → xops cf ops n s = some s' → CleanTo s.H s'.H
  | [], n, s, s', _, h => by
    simp only [xops, Option.some.injEq] at h
    subst h
    exact .refl _
  | o :: r, n, s, s', hn, h => by
    simp only [xops] at h
    simp only [List.length_cons] at hn
    split at h
    · rename_i s1 h1
      have c1 := xstep_clean hcf (by omega) h1
      exact c1.trans (xops_clean r (n + 1) s1 s' (by have := c1.2; omega) h)
    · cases h
theorem region_clean {ops : List XOper} {s s' : St} (k : Nat) (hk : ops.length ≤ k) (h : xops cf ops s.H.next (Go.Eng.bump s k) = some s') : CleanTo s.H s'.H :=
  (clean_bump s.H k).trans (xops_clean hcf ops _ _ _ (by show s.H.next + ops.length ≤ s.H.next + k; omega) h)
theorem xcode_clean (fuel : Nat) : ∀ (c : XCode) (s : St) (e : XE) (s' : St), xcode cf fuel c s = some (e, s') → CleanTo s.H s'.H
  | .skip, s, e, s', h => by simp only [xcode] at h; cases h; exact .refl _
  | .exit _, s, e, s', h => by simp only [xcode] at h; cases h; exact .refl _
  | .ret, s, e, s', h => by simp only [xcode] at h; cases h; exact .refl _
  | .reg ops, s, e, s', h => by
    simp only [xcode] at h
    obtain ⟨s1, h1, h2⟩ := Option.map_eq_some_iff.1 h
    cases h2
    exact region_clean hcf _ (Nat.le_refl _) h1
  | .regd ops lo nn, s, e, s', h => by
    simp only [xcode] at h
    obtain ⟨s1, h1, h2⟩ := Option.map_eq_some_iff.1 h
    cases h2
    unfold xregionD at h1
    split at h1
    · rename_i tr htr
      split at h1
      · exact region_clean hcf _ (Nat.le_refl _) (xtrace_xops _ _ _ _ _ htr h1)
      · cases h1
    · cases h1
  | .seq a b, s, e, s', h => by
    simp only [xcode] at h
    split at h
    · rename_i s1 h1
      exact (xcode_clean fuel a _ _ _ h1).trans (xcode_clean fuel b _ _ _ h)
    · exact xcode_clean fuel a _ _ _ h
  | .cond c a b, s, e, s', h => by
    simp only [xcode] at h
    split at h
    · exact xcode_clean fuel a _ _ _ h
    · exact xcode_clean fuel b _ _ _ h
    · cases h
  | .block id c, s, e, s', h => by
    simp only [xcode] at h
    split at h
    · rename_i i s1 h1
      split at h <;> cases h <;> exact xcode_clean fuel c _ _ _ h1
    · exact xcode_clean fuel c _ _ _ h
  | .loop c, s, e, s', h => by
    simp only [xcode] at h
    exact loopF_clean (fun s e s' h => xcode_clean fuel c s e s' h) _ _ _ _ h
  | .mrange pre it m out nx mo nb pr rest code, s, e, s', h => by
    simp only [xcode] at h
    split at h
    · cases h
    · rename_i s1 h1
      have c1 := region_clean hcf _ (Nat.le_succ _) h1
      have hrnd : ∀ (p : AV × AV) (s : St) (e : XE) (s' : St), (match xops cf rest (s.H.next + 1) (Go.Eng.bump ⟨((s.tm.set nx none).set mo none).set pr (some (.tup [p.1, p.2])), s.H⟩ (rest.length + 1)) with
        | none => none
        | some s2 => match xcode cf fuel code s2 with
          | some (.exit i, s3) => if i = nb then some (.normal, s3) else some (.exit i, s3)
          | r => r) = some (e, s') → CleanTo s.H s'.H := by
        intro p s e s' h
        split at h
        · cases h
        · rename_i s2 h2
          have c2 : CleanTo s.H s2.H := (clean_bump s.H (rest.length + 1)).trans (xops_clean hcf rest _ _ _ (by show s.H.next + 1 + rest.length ≤ s.H.next + (rest.length + 1); omega) h2)
          refine c2.trans ?_
          split at h
          · rename_i i s3 h3
            split at h <;> cases h <;> exact xcode_clean fuel code _ _ _ h3
          · exact xcode_clean fuel code _ _ _ h
      refine c1.trans ?_
      have hfin : ∀ s : St, CleanTo s.H ((fun s : St => (⟨(s.tm.set nx none).set mo none, s.H⟩ : St)) s).H := fun s => .refl _
      split at h
      · rename_i i hi
        split at h
        · rename_i es hes
          obtain ⟨r, hr, hu⟩ := Option.bind_eq_some_iff.1 h
          have c3 : CleanTo s1.H ⟨s1.H.m.set i (some (.lmap es s1.H.next)), s1.H.next + 1⟩ := (clean_some hes).trans (clean_bump (s1.H.set i (some (.lmap es s1.H.next))) 1)
          have c4 : CleanTo s1.H r.2.H := by
            unfold mrounds at hr
            refine meetAll_clean (e := r.1) (s := r.2) (fun e s hs => ?_) hr
            obtain ⟨l, _, hl⟩ := List.mem_map.1 hs
            exact c3.trans (mrun_clean hfin hrnd _ _ _ _ hl)
          refine c4.trans ?_
          unfold unlockA at hu
          split at hu
          · rename_i hg
            split at hu
            · cases hu; exact clean_some hg
            · cases hu
          · cases hu
        · rename_i es tl hes
          unfold mrounds at h
          refine meetAll_clean (fun e s hs => ?_) h
          obtain ⟨l, _, hl⟩ := List.mem_map.1 hs
          exact (clean_bump s1.H 1).trans (mrun_clean hfin hrnd _ _ _ _ hl)
        · cases h
      · cases h
theorem xfunc_clean {fuel : Nat} {fn : XFunc} {args : List AV} {H H' : AHeap} {v : AV} (h : xfunc cf fuel fn args H = some (v, H')) : CleanTo H H' := by
  unfold xfunc at h
  split at h
  · cases h
  · split at h
    · rename_i e s hs
      have c := xcode_clean hcf fuel _ _ _ _ hs
      split at h
      · cases h
      · split at h
        · cases h; exact c
        · cases h; exact c
        · cases h
    · cases h
end
theorem xcallK_clean {K : CF} (hK : CleanCF K) {F : Nat → Option XFunc} {fuel : Nat} : ∀ k, CleanCF (xcallK K F fuel k)
  | 0 => hK
  | k + 1 => by
    intro f args H v H' h
    unfold xcallK at h
    split at h
    · rename_i r hr
      cases h
      exact hK _ _ _ _ _ hr
    · split at h
      · exact xfunc_clean (xcallK_clean hK k) h
      · cases h
end Go.Eng
namespace Go.Proofs.Ytpbighinamljbaa.PA
open Go Go.Eng Go.Proofs
def K68 : CF := fun f args H =>
  if f = 68 then match args with
    | [.fn 81 [.ptr p q]] => match H.get p with
      | some (.cells cs _) => match cs[q]? with
        | some (.map j) => match H.get j with
          | some (.map es) => if es.all (fun e => keyU e.1) && Nat.ble es.length 1024 && !es.isEmpty then some (.sl (H.next + 4) 0 es.length openCap, srtH H (.fn 81 [.ptr p q]) (es.map fun e => keyInt e.1)) else none
          | _ => none
        | _ => none
      | _ => none
    | _ => none
  else none
theorem K68_ok : CFok Try.prog K68 := by
  intro f args H v H' h
  unfold K68 at h
  split at h
  · rename_i hf
    subst hf
    split at h
    · rename_i p q
      split at h
      · rename_i cs opn hp
        split at h
        · rename_i j hq
          split at h
          · rename_i es hj
            split at h
            · rename_i hc
              simp only [Bool.and_eq_true, List.all_eq_true, Nat.ble_eq, Bool.not_eq_true'] at hc
              obtain ⟨⟨c1, c2⟩, c3⟩ := hc
              cases h
              have h0 : es.map (fun e => keyInt e.1) ≠ [] := by
                intro w
                rw [List.map_eq_nil_iff] at w
                subst w
                cases c3
              refine sorted_call (fuel := 2000) (cfS_ok 14) hp hq hj c1 (by omega) (fun l hl => ?_)
              obtain ⟨H1, q1, q2⟩ := sorted_run (H := H) (x := .fn 81 [.ptr p q]) hl h0 (by simpa using c2)
              rw [List.length_map] at q1
              exact ⟨H1, q1, q2⟩
            · cases h
          · cases h
        · cases h
      · cases h
    · cases h
  · cases h
theorem srtH_get {H : AHeap} {x : AV} {ks : List Int} {k : Nat} : (srtH H x ks).get k = if k = H.next + 4 then some (.cells ((sortL ks).map (AV.int .u16)) (some 1)) else if k < H.next then H.get k else none := by
  show ((H.m.filt fun k => Nat.blt k H.next).set (H.next + 4) _).get k = _
  rw [Tr.get_set]
  split
  · rfl
  · rw [Tr.get_filt]
    by_cases h : k < H.next
    · rw [if_pos (by simpa [Nat.blt_eq] using h), if_pos h]; rfl
    · rw [if_neg (by simpa [Nat.blt_eq] using h), if_neg h]
theorem srtH_next {H : AHeap} {x : AV} {ks : List Int} : H.next + 5 ≤ (srtH H x ks).next := foldl_max_le _ _
theorem K68_clean : CleanCF K68 := by
  intro f args H v H' h
  unfold K68 at h
  split at h
  · split at h
    · split at h
      · split at h
        · split at h
          · split at h
            · cases h
              refine ⟨fun _ j hj => ?_, Nat.le_trans (by omega) srtH_next⟩
              have := Nat.le_trans srtH_next hj
              rw [srtH_get, if_neg (by omega), if_neg (by omega)]
            · cases h
          · cases h
        · cases h
      · cases h
    · cases h
  · cases h
def cnt (m : Nat) : Nat := (memb 10 m).length
theorem tabCnt : ((List.range 1024).all fun m => isAV (natA (cnt m)) (xcall F 300 2 67 [sA m] H0)) = true := by kernel_rfl
theorem k_shr16 {cf : CF} {n a k : Nat} {H : AHeap} {l : KL0} {x y : XO} (hx : evK l x = some (sA a)) (hy : evK l y = some (nA k)) (hk : k ≤ 16) : XV cf l H n (.bin .shr x y) = some (sA (a >>> k), H) :=
  k_bin hx hy (by
    show (if (k : Int) < 0 then none else some (AV.int .u16 ((a : Int).fdiv (2 ^ (min (k : Int).toNat 16))))) = _
    rw [if_neg (by omega), Int.toNat_natCast, Nat.min_eq_left hk]
    have : (2 : Int) ^ k = ((2 ^ k : Nat) : Int) := by simp
    rw [this, Int.fdiv_eq_ediv_of_nonneg _ (Int.natCast_nonneg _), Nat.shiftRight_eq_div_pow]
    rfl)
theorem x64 {cf : CF} {fuel m i : Nat} {H : AHeap} (hm : m < 1024) (hi : i < 10) : ∃ v H', xfunc cf fuel L64 [sA m, nA i] H = some (v, H') ∧ v = .bool (m.testBit i) ∧ True := by
  refine xfunc_ofK rfl (by show 2 ≤ 10; omega) ?_
  have hs : m >>> i < 1024 := Nat.lt_of_le_of_lt (by rw [Nat.shiftRight_eq_div_pow]; exact Nat.div_le_self _ _) hm
  have k1 : ∀ {l : KL0} {H : AHeap} {n : Nat} {p q : XO}, evK l p = some (sA ((m >>> i) &&& 1)) → evK l q = some (sA 1) → XV cf l H n (.bin .eql p q) = some (.bool (m.testBit i), H) := fun {l H n p q} h1 h2 => by
    have h := k_eql16 (cf := cf) (H := H) (n := n) h1 h2
    have e : decide ((m >>> i) &&& 1 = 1) = m.testBit i := by
      rw [bit_and]
      cases m.testBit i <;> rfl
    rw [e] at h
    exact h
  unfold L64
  dsimp only
  repeat' (first | refine WK.seq ?_ | refine WK.ret ?_ | (apply WK.reg; (· exact lnn)) | refine WKO.nil ?_ | ((first | apply WKO.op); (· first | exact k_mv rfl | exact k_shr16 rfl rfl (by omega) | exact k_and16 rfl rfl hs (by omega) | exact k1 rfl rfl); (· rfl)) | refine pN ?_ | fail)
  exact ⟨fun _ => by simp, _, rfl, rfl, trivial⟩
def KB : CF := fun f args H => match f, args with
  | 17, [] => some (.bool true, H)
  | 67, [.int .u16 (.ofNat m)] => if m < 1024 then some (nA (cnt m), H) else none
  | 64, [.int .u16 (.ofNat m), .int .i64 (.ofNat i)] => if m < 1024 ∧ i < 10 then some (.bool (m.testBit i), H) else none
  | f, args => K68 f args H
theorem KB_ok : CFok Try.prog KB := by
  intro f args H v H' h
  unfold KB at h
  split at h
  · cases h
    have h1 : ∃ H1, cfN 300 14 17 [] H0 = some (.bool true, H1) := by
      have h := runLives0
      cases hc : cfN 300 14 17 [] H0 with
      | none => rw [hc] at h; cases h
      | some r =>
        obtain ⟨u, H1⟩ := r
        rw [hc] at h
        simp only [Option.map_some, Option.some.injEq] at h
        split at h
        · rename_i b
          subst h
          exact ⟨H1, rfl⟩
        · cases h
    obtain ⟨H1, h1⟩ := h1
    exact frame0 (cfN_ok 300 14 _ _ _ _ _ h1) rfl (fun E w us _ h => plain_relL rfl h)
  · rename_i m
    split at h
    · cases h
      have ht := List.all_eq_true.1 tabCnt m (List.mem_range.2 (by omega))
      obtain ⟨H1, h1⟩ := isAV_some ht
      exact frame0 (xcall_sound mixP F_ok 300 2 _ _ _ _ _ h1) rfl (fun E w us _ h => plain_relL rfl h)
    · cases h
  · rename_i m i
    split at h
    · rename_i hh
      cases h
      obtain ⟨v, H1, h1, rfl, _⟩ := x64 (cf := xcall F 300 0) (fuel := 300) (H := ⟨.e, 0⟩) hh.1 hh.2
      have h1' : xcall F 300 1 64 [sA m, nA i] ⟨.e, 0⟩ = some (.bool (m.testBit i), H1) := h1
      exact frame0 (xcall_sound mixP F_ok 300 1 _ _ _ _ _ h1') rfl (fun E w us _ h => plain_relL rfl h)
    · cases h
  · exact K68_ok _ _ _ _ _ h
theorem KB_clean : CleanCF KB := by
  intro f args H v H' h
  unfold KB at h
  split at h
  · cases h; exact CleanTo.refl _
  · split at h
    · cases h; exact CleanTo.refl _
    · cases h
  · split at h
    · cases h; exact CleanTo.refl _
    · cases h
  · exact K68_clean _ _ _ _ _ h
end Go.Proofs.Ytpbighinamljbaa.PA
namespace Go.Proofs.Ytpbighinamljbaa.PA
open Go Go.Eng Go.Proofs
def arN (N : List Nat) (set : Nat) : Nat → Nat → Nat → Nat
  | 0, _, acc => acc
  | s + 1, v, acc => arN N set s (v + 1) (if bt set v then acc ||| N.getD v 0 else acc)
def around (N : List Nat) (set : Nat) : Nat := arN N set N.length 0 0
def ballN (N : List Nat) : Nat → Nat → Nat
  | 0, set => set
  | r + 1, set => ballN N r (set ||| around N set)
theorem arN_lt {N : List Nat} (hN : ∀ m ∈ N, m < 1024) {set : Nat} : ∀ (s v acc : Nat), acc < 1024 → arN N set s v acc < 1024
  | 0, _, acc, h => h
  | s + 1, v, acc, h => by
    rw [arN]
    refine arN_lt hN s (v + 1) _ ?_
    split
    · exact or10 h (getD_lt10 hN v)
    · exact h
theorem around_lt {N : List Nat} (hN : ∀ m ∈ N, m < 1024) (set : Nat) : around N set < 1024 := arN_lt hN _ _ _ (by omega)
theorem ballN_lt {N : List Nat} (hN : ∀ m ∈ N, m < 1024) : ∀ (r set : Nat), set < 1024 → ballN N r set < 1024
  | 0, _, h => h
  | r + 1, set, h => ballN_lt hN r _ (or10 h (around_lt hN set))
def fz (N : List Nat) : AV := .imm (N.map nA) N.length false
section
variable {cf : CF} {fuel : Nat} {H : AHeap} {N : List Nat}
theorem x65 {set : Nat} (hN : ∀ m ∈ N, m < 1024) (hs : set < 1024) (hl : N.length ≤ 10) (hf : 11 < fuel) : ∃ v H', xfunc cf fuel L65 [fz N, nA set] H = some (v, H') ∧ v = nA (around N set) ∧ True := by
  refine xfunc_ofK rfl (by show 2 ≤ 25; omega) ?_
  unfold L65
  dsimp only
  repeat' (first | refine WK.seq ?_ | refine WK.block ?_ | (apply WK.reg; (· exact lnn)) | refine WKO.nil ?_ | ((first | apply WKO.op); (· first | exact k_mv rfl); (· rfl)) | refine pN ?_ | fail)
  refine WK.loop (α := Nat × Nat) (fun p => [(0, fz N), (1, nA set), (5, nA p.2), (6, nA p.1)]) (fun p _ => p.1 ≤ N.length ∧ p.2 < 1024 ∧ arN N set (N.length - p.1) p.1 p.2 = around N set) (fun p => N.length - p.1) (0, 0) (.cons rfl <| .cons rfl <| .cons rfl <| .cons rfl <| .nil _) ⟨by dsimp only; omega, by dsimp only; omega, rfl⟩ (by dsimp only; omega) ?_
  rintro ⟨v, acc⟩ H ⟨h1, h2, h3⟩
  dsimp only at h1 h2 h3 ⊢
  repeat' (first | refine WK.seq ?_ | refine WK.skip ?_ | refine WK.ret ?_ | refine WK.exit ?_ | refine WK.block ?_ | (apply WK.reg; (· exact lnn)) | refine WKO.nil ?_ | ((first | apply WKO.op); (· first | exact k_mv rfl | exact k_shrN rfl rfl (by omega) | exact k_andB rfl rfl (by omega) | exact k_bitN rfl rfl | exact k_ia1 rfl rfl (by omega) | exact k_ldM rfl (map_at (by omega)) | exact k_orN rfl rfl (by omega) (by have := getD_lt10 hN v; omega) | exact opA); (· rfl)) | refine pN ?_ | refine pX ?_ | refine bN ?_ | refine bX ?_ | (apply WK.condD; (· rfl); all_goals intro _) | (apply WK.condB; (· rfl); all_goals intro _) | fail)
  · rename_i hv hb
    refine ⟨(v + 1, acc ||| N.getD v 0), (.cons rfl <| .cons rfl <| .cons rfl <| .cons rfl <| .nil _), ⟨hv, or10 h2 (getD_lt10 hN v), ?_⟩, ?_⟩ <;> dsimp only
    · rw [← h3, show N.length - v = N.length - (v + 1) + 1 by omega, arN, if_pos hb]
    · omega
  · rename_i hv hb
    refine ⟨(v + 1, acc), (.cons rfl <| .cons rfl <| .cons rfl <| .cons rfl <| .nil _), ⟨hv, h2, ?_⟩, ?_⟩ <;> dsimp only
    · rw [← h3, show N.length - v = N.length - (v + 1) + 1 by omega, arN, if_neg (by rw [hb]; decide)]
    · omega
  · rename_i hv
    refine ⟨nofun, _, rfl, ?_, trivial⟩
    rw [show N.length - v = 0 by omega, arN] at h3
    rw [h3]
    rfl
theorem ballN_step (N : List Nat) : ∀ (r set : Nat), ballN N (r + 1) set = ballN N r set ||| around N (ballN N r set)
  | 0, set => rfl
  | r + 1, set => by rw [ballN, ballN_step N r, ← ballN]
theorem x43 {v r : Nat} (hN : ∀ m ∈ N, m < 1024) (hv : v < 10) (hr : r ≤ 20) (hf : 21 < fuel) (h65 : ∀ H s, s < 1024 → cf 65 [fz N, nA s] H = some (nA (around N s), H)) :
    ∃ u H', xfunc cf fuel L43 [fz N, nA v, nA r] H = some (u, H') ∧ u = nA (ballN N r (2 ^ v)) ∧ True := by
  refine xfunc_ofK rfl (by show 3 ≤ 20; omega) ?_
  have hp : 2 ^ v < 1024 := by
    have : 2 ^ v ≤ 2 ^ 9 := Nat.pow_le_pow_right (by omega) (by omega)
    omega
  unfold L43
  dsimp only
  repeat' (first | refine WK.seq ?_ | refine WK.block ?_ | (apply WK.reg; (· exact lnn)) | refine WKO.nil ?_ | ((first | apply WKO.op); (· first | exact k_mv rfl | exact k_shl1 rfl rfl (by omega)); (· rfl)) | refine pN ?_ | fail)
  refine WK.loop (α := Nat × Nat) (fun p => [(0, fz N), (2, nA p.1), (7, nA p.2)]) (fun p _ => p.1 ≤ r ∧ p.2 < 1024 ∧ ballN N p.1 p.2 = ballN N r (2 ^ v)) (fun p => p.1) (r, 2 ^ v) (.cons rfl <| .cons rfl <| .cons rfl <| .nil _) ⟨by dsimp only; omega, hp, rfl⟩ (by dsimp only; omega) ?_
  rintro ⟨q, set⟩ H ⟨h1, h2, h3⟩
  dsimp only at h1 h2 h3 ⊢
  have ha := around_lt hN set
  repeat' (first | refine WK.seq ?_ | refine WK.skip ?_ | refine WK.ret ?_ | refine WK.exit ?_ | refine WK.block ?_ | (apply WK.reg; (· exact lnn)) | refine WKO.nil ?_ | ((first | apply WKO.op); (· first | exact k_mv rfl | exact k_call rfl rfl (h65 _ _ h2) | exact k_orN rfl rfl (by omega) (by omega) | exact opA); (· rfl)) | refine pN ?_ | refine pX ?_ | refine bN ?_ | refine bX ?_ | (apply WK.condD; (· rfl); all_goals intro _) | fail)
  · rename_i hq
    have hq : 0 < q := hq
    refine ⟨(q - 1, set ||| around N set), (.cons rfl <| .cons rfl <| .cons rfl <| .nil _), ⟨by dsimp only; omega, or10 h2 ha, ?_⟩, ?_⟩ <;> dsimp only
    · rw [← h3]
      conv => rhs; rw [show q = q - 1 + 1 by omega, ballN]
    · omega
  · rename_i hq
    have hq : q = 0 := by omega
    subst hq
    refine ⟨nofun, _, rfl, ?_, trivial⟩
    rw [← h3]
    rfl
def connN (N : List Nat) : Bool := decide (ballN N N.length 1 = 2 ^ N.length - 1)
theorem x45 (hN : ∀ m ∈ N, m < 1024) (hl : N.length ≤ 10) (h43 : ∀ H, cf 43 [fz N, nA 0, nA N.length] H = some (nA (ballN N N.length 1), H)) :
    ∃ u H', xfunc cf fuel L45 [fz N] H = some (u, H') ∧ u = .bool (connN N) ∧ True := by
  refine xfunc_ofK rfl (by show 1 ≤ 12; omega) ?_
  have hp : 1 ≤ 2 ^ N.length := Nat.one_le_two_pow
  have hp' : 2 ^ N.length ≤ 2 ^ 10 := Nat.pow_le_pow_right (by omega) hl
  unfold L45
  dsimp only
  repeat' (first | refine WK.seq ?_ | refine WK.ret ?_ | (apply WK.reg; (· exact lnn)) | (apply WK.regC; (· rfl); (· exact lnn); (· decide)) | refine WKC.nil ?_ | refine WKO.nil ?_ | ((first | apply WKC.op | apply WKO.op); (· first | exact k_mv rfl | exact k_shl1 rfl rfl (by omega) | exact k_call rfl rfl (h43 _) | exact opA); (· rfl)) | refine pN ?_ | fail)
  exact ⟨nofun, _, rfl, rfl, trivial⟩
end
end Go.Proofs.Ytpbighinamljbaa.PA
namespace Go.Proofs.Ytpbighinamljbaa.PA
open Go Go.Eng Go.Proofs
end Go.Proofs.Ytpbighinamljbaa.PA
namespace Go.Proofs.Ytpbighinamljbaa.PA
open Go Go.Eng Go.Proofs
abbrev Prs := List (Nat × Nat)
def prsC (l : Prs) : List AV := l.flatMap fun p => [natA p.1, natA p.2]
theorem prsC_len (l : Prs) : (prsC l).length = l.length * 2 := by
  induction l with
  | nil => rfl
  | cons p l ih => simp [prsC] at ih ⊢; omega
theorem prsC_app (l m : Prs) : prsC (l ++ m) = prsC l ++ prsC m := by simp [prsC]
end Go.Proofs.Ytpbighinamljbaa.PA
namespace Go.Eng
def RowE (z : Nat) (H : AHeap) (v : AV) (l : Nat) (cs : List AV) : Prop :=
  Row z H v l cs ∨ (l = 0 ∧ cs = [] ∧ ∃ i, v = .sl i 0 0 0 ∧ i < H.next ∧ H.get i = some (.cells [] none))
theorem RowE.frame {z : Nat} {H H' : AHeap} {v : AV} {l : Nat} {cs : List AV} (h : RowE z H v l cs) (hn : H.next ≤ H'.next) (hg : ∀ i, v.own = some i → H'.get i = H.get i) : RowE z H' v l cs := by
  rcases h with h | ⟨rfl, rfl, i, rfl, h1, h2⟩
  · exact .inl (h.frame hn hg)
  · exact .inr ⟨rfl, rfl, i, rfl, by omega, (hg i rfl).trans h2⟩
theorem RowE.len {z : Nat} {H : AHeap} {v : AV} {l : Nat} {cs : List AV} (h : RowE z H v l cs) : lenA v = some l := by
  rcases h with h | ⟨rfl, rfl, i, rfl, _⟩
  · exact h.len
  · rfl
theorem RowE.own_lt {z : Nat} {H : AHeap} {v : AV} {l : Nat} {cs : List AV} (h : RowE z H v l cs) {i : Nat} (hi : v.own = some i) : i < H.next := by
  rcases h with h | ⟨rfl, rfl, j, rfl, h1, _⟩
  · exact h.own_lt hi
  · cases hi; exact h1
theorem RowE.csl {z : Nat} {H : AHeap} {v : AV} {l : Nat} {cs : List AV} (h : RowE z H v l cs) : cs.length = l * z := by
  rcases h with h | ⟨rfl, rfl, _⟩
  · exact h.1
  · simp
theorem RowE.app {z bytes : Nat} {H : AHeap} {v y : AV} {l n : Nat} {cs new : List AV} (h : RowE z H v l cs) (hz : 0 < z) (hl : l + n ≤ 2 ^ 30) (hn : 0 < n) (hb : bytes ≤ 2 ^ 16) (hy : lenA y = some n) (hs : srcA H z n y = some new) (hnl : new.length = n * z) (ho : new.all AV.oneCell = true) :
    ∃ v' H', appA H z bytes v y = .eff v' H' ∧ Row z H' v' (l + n) (cs ++ new) ∧ H.next ≤ H'.next ∧ (∀ j, j < H.next → v.own ≠ some j → H'.get j = H.get j) ∧ (∀ i, v'.own = some i → v.own = some i ∨ H.next ≤ i) := by
  rcases h with h | ⟨rfl, rfl, i, rfl, h1, h2⟩
  · exact h.app hz hl hn hb hy hs hnl ho
  · refine ⟨.sl H.next 0 (0 + n) openCap, H.add (.cells new (some z)), ?_, ⟨by simp [hnl], .inr ⟨H.next, new, rfl, ?_, ?_, ?_, ?_⟩⟩, by simp only [next_add]; omega, fun j hj _ => ?_, fun j hj => ?_⟩
    · unfold appA
      rw [hy]
      simp only [hs, ho, Bool.not_true, Bool.false_eq_true, false_or]
      rw [if_neg (by omega)]
      simp only [h2]
      rw [if_neg (by omega), if_neg (by omega), if_neg (by simp), if_pos (by unfold openAt; omega), if_neg (by omega)]
      simp
    · rw [AHeap.get_add, if_pos rfl]
    · simp only [List.nil_append]
      rw [Nat.zero_add, List.take_of_length_le (by omega)]
    · rw [Nat.zero_add]; omega
    · simp only [next_add]; omega
    · rw [AHeap.get_add, if_neg (by omega)]
    · cases hj
      exact .inr (Nat.le_refl _)
theorem WO.append1E {cf : CF} {d1 d2 z bytes n l : Nat} {x : XO} {zs : List AV} {ps : List (Nat × Nat × XO)} {r : List XOper} {tm : Tr AV} {H : AHeap} {Q : St → Prop} {v : AV} {cs new : List AV}
    (hR : RowE z H v l cs) (hx : St.ev (tm.set d1 (some (.sl n 0 1 1))) x = some v) (hps : (evParts (St.ev tm) ps).bind (fillA (List.replicate 1 zs).flatten) = some new) (hz : 0 < z) (hl : l + 1 ≤ 2 ^ 30) (hb : bytes ≤ 2 ^ 16) (hnl : new.length = z) (ho : new.all AV.oneCell = true)
    (hn : n < H.next) (hf : v.own ≠ some n)
    (k : ∀ v' H1, Row z H1 v' (l + 1) (cs ++ new) → H.next ≤ H1.next → (∀ j, j < H.next → j ≠ n → v.own ≠ some j → H1.get j = H.get j) → (∀ i, v'.own = some i → v.own = some i ∨ H.next ≤ i) →
      WO cf r (n + 1 + 1) ⟨(tm.set d1 (some (.sl n 0 1 1))).set d2 (some v'), H1⟩ Q) :
    WO cf (⟨some d1, .bslice zs ps 1, none⟩ :: ⟨some d2, .app z bytes x (.t d1), none⟩ :: r) n ⟨tm, H⟩ Q := by
  have hR1 : RowE z (H.set n (some (.cells new none))) v l cs := hR.frame (Nat.le_refl _) (fun i hi => by rw [AHeap.get_set, if_neg (by intro e; rw [e] at hi; exact hf hi)])
  have hsrc : srcA (H.set n (some (.cells new none))) z 1 (.sl n 0 1 1) = some new := by
    simp only [srcA, AHeap.get_set, if_true, hnl, Nat.one_mul, Nat.zero_add, Nat.le_refl, List.drop_zero]
    rw [List.take_of_length_le (by omega)]
  obtain ⟨v', H1, h1, h2, h3, h4, h5⟩ := hR1.app (bytes := bytes) hz hl (by omega) hb (y := .sl n 0 1 1) rfl hsrc (by omega) ho
  refine WO.op (v := .sl n 0 1 1) (H1 := H.set n (some (.cells new none))) ?_ (WO.op (v := v') (H1 := H1) ?_ (k v' H1 h2 h3 (fun j hj hjn hjo => ?_) h5))
  · simp only [xval, xop, hps]
  · simp only [xval, xop, hx, ev_t, Tr.get_set_self, h1]
  · rw [h4 j hj hjo, AHeap.get_set, if_neg hjn]
end Go.Eng
namespace Go.Proofs.Ytpbighinamljbaa.PA
open Go Go.Eng Go.Proofs
def arrC (x : Prs) : List AV := x.flatMap fun p => [.int .u8 (p.1 : Int), .int .u8 (p.2 : Int)]
theorem arrC_at : ∀ {l : Prs} {i : Nat} {p : Nat × Nat}, l[i]? = some p → (arrC l)[i * 2]? = some (.int .u8 (p.1 : Int)) ∧ (arrC l)[i * 2 + 1]? = some (.int .u8 (p.2 : Int))
  | [], _, _, h => by simp at h
  | q :: l, 0, p, h => by simp at h; subst h; exact ⟨rfl, rfl⟩
  | q :: l, i + 1, p, h => by
    rw [show (i + 1) * 2 = i * 2 + 2 by omega]
    exact arrC_at (l := l) (by simpa using h)
def pairF (k : Nat) (p : Nat × Nat) : Nat × Nat := (p.1 % k, (p.1 % k + (1 + p.2 % (k - 1))) % k)
def callsF (k : Nat) (x : Prs) : Prs := x.map (pairF k)
structure DI (H0 : AHeap) (k : Nat) (x : Prs) (i : Nat) (s : St) : Prop where
  le : i ≤ x.length
  lim : i ≤ 59
  t1 : s.tm.get 1 = some (.imm (arrC x) x.length false)
  t6 : s.tm.get 6 = some (natA k)
  t8 : s.tm.get 8 = some (natA i)
  row : ∃ v, s.tm.get 7 = some v ∧ RowE 2 s.H v i (prsC (callsF k (x.take i))) ∧ (∀ j, v.own = some j → H0.next ≤ j)
  nx : H0.next ≤ s.H.next
  fr : ∀ j, j < H0.next → s.H.get j = H0.get j
end Go.Proofs.Ytpbighinamljbaa.PA
namespace Go.Proofs.Ytpbighinamljbaa.PA
open Go Go.Eng Go.Proofs
def cellsA (H : AHeap) (z : Nat) (x : AV) : Option (Nat × List AV) :=
  match x with
  | .str _ => none
  | x => (lenA x).bind fun l => (srcA H z l x).bind fun cs => if l = 0 ∧ cs ≠ [] then none else some (l, cs)
def natOf : AV → Option Nat
  | .int .i64 (.ofNat n) => some n
  | _ => none
theorem natOf_eq {x : AV} {n : Nat} (h : natOf x = some n) : x = natA n := by
  unfold natOf at h
  split at h
  · cases h; rfl
  · cases h
def natsOf : List AV → Option (List Nat)
  | [] => some []
  | x :: r => (natOf x).bind fun n => (natsOf r).map (n :: ·)
theorem natsOf_eq : ∀ {cs : List AV} {l : List Nat}, natsOf cs = some l → cs = l.map natA
  | [], l, h => by simp [natsOf] at h; subst h; rfl
  | x :: r, l, h => by
    simp only [natsOf, Option.bind_eq_some_iff, Option.map_eq_some_iff] at h
    obtain ⟨n, h1, m, h2, rfl⟩ := h
    rw [natOf_eq h1, natsOf_eq h2]
    rfl
theorem natsOf_map (l : List Nat) : natsOf (l.map natA) = some l := by
  induction l with
  | nil => rfl
  | cons n l ih => simp [natsOf, ih]; rfl
theorem plain_nats (l : List Nat) : AV.plainL (l.map natA) = true := by
  induction l with
  | nil => rfl
  | cons n l ih => simp only [List.map_cons, AV.plainL, ih, Bool.and_true]; rfl
theorem cells_freeze {E : Env} {H : AHeap} {w : World} (hR : Rel E H w) {x : AV} {u : Value} (hv : AVRel E w x u) {z : Nat} {c : Nat × List AV} (h : cellsA H z x = some c) (hp : AV.plainL c.2 = true) : AVRel (E0 w) w (.imm c.2 c.1 false) u := by
  unfold cellsA at h
  split at h
  · cases h
  · rename_i hns
    simp only [Option.bind_eq_some_iff] at h
    obtain ⟨l, h1, cs, h2, h3⟩ := h
    split at h3
    · cases h3
    · rename_i hc
      cases h3
      exact Go.Eng.freeze hR hv h1 h2 hns hp (fun q => by
        rcases Classical.em (cs = []) with e | e
        · exact e
        · exact absurd ⟨q, e⟩ hc)
theorem xF (k : Nat) : CFok Try.prog (xcall F 300 k) := xcall_sound mixP F_ok 300 k
end Go.Proofs.Ytpbighinamljbaa.PA
namespace Go.Proofs.Ytpbighinamljbaa.PA
open Go Go.Eng Go.Proofs
def u8A (m : Nat) : AV := .int .u8 (m : Int)
def callM (K : List Nat) (a b : Nat) : List Nat := (K.set a (K.getD a 0 ||| K.getD b 0)).set b (K.getD a 0 ||| K.getD b 0)
def runM (K : List Nat) (l : Prs) : List Nat := l.foldl (fun K p => callM K p.1 p.2) K
def begM (n : Nat) : List Nat := (List.range 6).map fun i => if i < n then 2 ^ i else 0
structure KI (H0 : AHeap) (n : Nat) (x : AV) (l : Prs) (R : Nat) (i : Nat) (s : St) : Prop where
  le : i ≤ l.length
  t0 : s.tm.get 0 = some (natA n)
  t23 : s.tm.get 23 = some x
  t24 : s.tm.get 24 = some (natA l.length)
  t25 : s.tm.get 25 = some (natA i)
  t7 : s.tm.get 7 = some (.ptr R 0)
  box : s.H.get R = some (.cells ((runM (begM n) (l.take i)).map u8A) none)
  hR : H0.next ≤ R ∧ R < s.H.next
  nx : H0.next ≤ s.H.next
  fr : ∀ j, j < H0.next → s.H.get j = H0.get j
end Go.Proofs.Ytpbighinamljbaa.PA
namespace Go.Proofs.Ytpbighinamljbaa.PA
open Go Go.Eng Go.Proofs
structure FI (H0 : AHeap) (n B N : Nat) (K : List Nat) (j : Nat) (s : St) : Prop where
  le : j ≤ n
  t0 : s.tm.get 0 = some (.sl B 0 n 6)
  t1 : s.tm.get 1 = some (.fn 76 [.ptr N 0])
  t7 : s.tm.get 7 = some (natA n)
  t8 : s.tm.get 8 = some (natA j)
  all : ∀ i, i < j → K.getD i 0 = 2 ^ n - 1
  nx : H0.next ≤ s.H.next
  fr : ∀ j, s.H.get j = H0.get j
end Go.Proofs.Ytpbighinamljbaa.PA
namespace Go.Proofs.Ytpbighinamljbaa.PA
open Go Go.Eng Go.Proofs
end Go.Proofs.Ytpbighinamljbaa.PA
namespace Go.Proofs.Ytpbighinamljbaa.PA
open Go Go.Eng Go.Proofs
structure II (H0 : AHeap) (tm0 : Tr AV) (n m : Nat) (j : Nat) (s : St) : Prop where
  le : j ≤ n
  t40 : s.tm.get 40 = some (natA n)
  t41 : s.tm.get 41 = some (natA j)
  t12 : s.tm.get 12 = some (u8A m)
  row : ∃ v, s.tm.get 13 = some v ∧ Row 1 s.H v (memb j m).length ((memb j m).map natA) ∧ (∀ o, v.own = some o → H0.next ≤ o)
  k0 : s.tm.get 0 = tm0.get 0
  k10 : s.tm.get 10 = tm0.get 10
  k34 : s.tm.get 34 = tm0.get 34
  k35 : s.tm.get 35 = tm0.get 35
  k36 : s.tm.get 36 = tm0.get 36
  nx : H0.next ≤ s.H.next
  fr : ∀ j, j < H0.next → s.H.get j = H0.get j
structure OI (H0 : AHeap) (n : Nat) (K : List Nat) (R : Nat) (i : Nat) (s : St) : Prop where
  le : i ≤ n
  t0 : s.tm.get 0 = some (natA n)
  t34 : s.tm.get 34 = some (.sl R 0 n 6)
  t35 : s.tm.get 35 = some (natA n)
  t36 : s.tm.get 36 = some (natA i)
  row : ∃ v vs, s.tm.get 10 = some v ∧ Row 1 s.H v i vs ∧ (∀ o, v.own = some o → H0.next ≤ o ∧ o ≠ R) ∧
    ∀ j, j < i → ∃ u, vs[j]? = some u ∧ Row 1 s.H u (memb n (K.getD j 0)).length ((memb n (K.getD j 0)).map natA) ∧ (∀ o, u.own = some o → H0.next ≤ o ∧ v.own ≠ some o)
  box : s.H.get R = some (.cells (K.map u8A) none)
  hR : H0.next ≤ R ∧ R < s.H.next
  nx : H0.next ≤ s.H.next
  fr : ∀ j, j < H0.next → s.H.get j = H0.get j
theorem row_own1 {z l : Nat} {H : AHeap} {v : AV} {cs : List AV} (h : Row z H v l cs) : v.oneCell = true := by
  rcases h.2 with ⟨rfl, _⟩ | ⟨i, full, rfl, _⟩ <;> rfl
theorem row_cells {z l : Nat} {H : AHeap} {v : AV} {cs : List AV} (h : Row z H v l cs) : v.cells = [v] := by
  rcases h.2 with ⟨rfl, _⟩ | ⟨i, full, rfl, _⟩ <;> rfl
end Go.Proofs.Ytpbighinamljbaa.PA
namespace Go.Proofs.Ytpbighinamljbaa.PA
open Go Go.Eng Go.Proofs
def Kn (H : AHeap) (n : Nat) (K : List Nat) (v : AV) : Prop :=
  ∃ vs, Row 1 H v n vs ∧ ∀ j, j < n → ∃ u, vs[j]? = some u ∧ Row 1 H u (memb n (K.getD j 0)).length ((memb n (K.getD j 0)).map natA) ∧ (∀ o, u.own = some o → v.own ≠ some o)
theorem Kn.frame {H H' : AHeap} {n : Nat} {K : List Nat} {v : AV} (h : Kn H n K v) (hn : H.next ≤ H'.next) (hg : ∀ j, j < H.next → H'.get j = H.get j) : Kn H' n K v := by
  obtain ⟨vs, h1, h2⟩ := h
  refine ⟨vs, h1.frame hn (fun o q => hg o (h1.own_lt q)), fun j hj => ?_⟩
  obtain ⟨u, u1, u2, u3⟩ := h2 j hj
  exact ⟨u, u1, u2.frame hn (fun o q => hg o (u2.own_lt q)), u3⟩
end Go.Proofs.Ytpbighinamljbaa.PA
namespace Go.Proofs.Ytpbighinamljbaa.PA
open Go Go.Eng Go.Proofs
structure EI (H0 : AHeap) (n : Nat) (x : AV) (l : Prs) (R : Nat) (i : Nat) (s : St) : Prop where
  le : i ≤ l.length
  t0 : s.tm.get 0 = some (natA n)
  t1 : s.tm.get 1 = some x
  t7 : s.tm.get 7 = some (.ptr R 0)
  t8 : s.tm.get 8 = some (natA i)
  box : s.H.get R = some (.cells ((runM (begM n) (l.take i)).map u8A) none)
  hR : H0.next ≤ R ∧ R < s.H.next
  nx : H0.next ≤ s.H.next
  fr : ∀ j, j < H0.next → s.H.get j = H0.get j
end Go.Proofs.Ytpbighinamljbaa.PA
namespace Go.Proofs.Ytpbighinamljbaa.PA
open Go Go.Eng Go.Proofs
abbrev ZPrs := List (Int × Int)
def zc (l : ZPrs) : List AV := l.flatMap fun p => [.int .i64 p.1, .int .i64 p.2]
end Go.Proofs.Ytpbighinamljbaa.PA
namespace Go.Proofs.Ytpbighinamljbaa.PA
open Go Go.Eng Go.Proofs
def inZ (v lo hi : Int) : Bool := decide (v ≥ lo) && decide (v ≤ hi)
theorem x55 {cf : CF} {fuel : Nat} {H : AHeap} {v lo hi : Int} :
    ∃ r H', xfunc cf fuel L55 [.int .i64 v, .int .i64 lo, .int .i64 hi] H = some (r, H') ∧ r = .bool (inZ v lo hi) := by
  refine xfunc_of rfl (by show 3 ≤ 15; omega) ?_
  have a0 : (argsT [.int .i64 v, .int .i64 lo, .int .i64 hi] 0 .e).get 0 = some (.int .i64 v) := rfl
  have a1 : (argsT [.int .i64 v, .int .i64 lo, .int .i64 hi] 0 .e).get 1 = some (.int .i64 lo) := rfl
  have a2 : (argsT [.int .i64 v, .int .i64 lo, .int .i64 hi] 0 .e).get 2 = some (.int .i64 hi) := rfl
  generalize argsT [.int .i64 v, .int .i64 lo, .int .i64 hi] 0 .e = tm at a0 a1 a2
  unfold L55
  dsimp only
  cases q1 : decide (v ≥ lo) with
  | false =>
    repeat (first | refine W.seq ?_ | refine W.ret ?_ | (apply W.reg; · (simp only [List.length_cons, List.length_nil, Nat.reduceAdd]; rfl)) | refine WO.nil ?_ | (apply WO.op; · first | exact op_mv (by simp only [St.ev, ↓Tr.get_set, ↓reduceIte, Nat.reduceEqDiff, natA, a0, a1, a2, q1]; rfl) | exact op_bin (by simp only [St.ev, ↓Tr.get_set, ↓reduceIte, Nat.reduceEqDiff, natA, a0, a1, a2, q1]; rfl) (by simp only [St.ev, ↓Tr.get_set, ↓reduceIte, Nat.reduceEqDiff, natA, a0, a1, a2, q1]; rfl) (by simp only [binA, intCmpA, strA, natA, a0, a1, a2, q1]; rfl) | exact op_pick (by simp only [St.ev, ↓Tr.get_set, ↓reduceIte, Nat.reduceEqDiff, natA, a0, a1, a2, q1]; rfl) (by first | exact .inl ⟨rfl, (by simp only [St.ev, ↓Tr.get_set, ↓reduceIte, Nat.reduceEqDiff, natA, a0, a1, a2, q1]; rfl)⟩ | exact .inr ⟨rfl, (by simp only [St.ev, ↓Tr.get_set, ↓reduceIte, Nat.reduceEqDiff, natA, a0, a1, a2, q1]; rfl)⟩)) | (apply WO.gno'; (· (simp only [St.ev, ↓Tr.get_set, ↓reduceIte, Nat.reduceEqDiff, natA, a0, a1, a2, q1]; rfl)); (· rfl)) | refine pN ?_ | fail)
    refine ⟨fun id q => (by cases q), _, by simp only [resL, resA, Tr.get_set, get_bump, next_bump, next_set, next_add, AHeap.get_set, reduceIte, Nat.reduceEqDiff]; rfl, ?_⟩
    rw [inZ, q1]
    rfl
  | true =>
    cases q2 : decide (v ≤ hi) with
    | false =>
      repeat (first | refine W.seq ?_ | refine W.ret ?_ | (apply W.reg; · (simp only [List.length_cons, List.length_nil, Nat.reduceAdd]; rfl)) | refine WO.nil ?_ | (apply WO.op; · first | exact op_mv (by simp only [St.ev, ↓Tr.get_set, ↓reduceIte, Nat.reduceEqDiff, natA, a0, a1, a2, q1, q2]; rfl) | exact op_bin (by simp only [St.ev, ↓Tr.get_set, ↓reduceIte, Nat.reduceEqDiff, natA, a0, a1, a2, q1, q2]; rfl) (by simp only [St.ev, ↓Tr.get_set, ↓reduceIte, Nat.reduceEqDiff, natA, a0, a1, a2, q1, q2]; rfl) (by simp only [binA, intCmpA, strA, natA, a0, a1, a2, q1, q2]; rfl) | exact op_pick (by simp only [St.ev, ↓Tr.get_set, ↓reduceIte, Nat.reduceEqDiff, natA, a0, a1, a2, q1, q2]; rfl) (by first | exact .inl ⟨rfl, (by simp only [St.ev, ↓Tr.get_set, ↓reduceIte, Nat.reduceEqDiff, natA, a0, a1, a2, q1, q2]; rfl)⟩ | exact .inr ⟨rfl, (by simp only [St.ev, ↓Tr.get_set, ↓reduceIte, Nat.reduceEqDiff, natA, a0, a1, a2, q1, q2]; rfl)⟩)) | (apply WO.gop'; (· (simp only [St.ev, ↓Tr.get_set, ↓reduceIte, Nat.reduceEqDiff, natA, a0, a1, a2, q1, q2]; rfl)); (· rfl); (· first | exact op_mv (by simp only [St.ev, ↓Tr.get_set, ↓reduceIte, Nat.reduceEqDiff, natA, a0, a1, a2, q1, q2]; rfl) | exact op_bin (by simp only [St.ev, ↓Tr.get_set, ↓reduceIte, Nat.reduceEqDiff, natA, a0, a1, a2, q1, q2]; rfl) (by simp only [St.ev, ↓Tr.get_set, ↓reduceIte, Nat.reduceEqDiff, natA, a0, a1, a2, q1, q2]; rfl) (by simp only [binA, intCmpA, strA, natA, a0, a1, a2, q1, q2]; rfl))) | refine pN ?_ | fail)
      refine ⟨fun id q => (by cases q), _, by simp only [resL, resA, Tr.get_set, get_bump, next_bump, next_set, next_add, AHeap.get_set, reduceIte, Nat.reduceEqDiff]; rfl, ?_⟩
      rw [inZ, q1, q2]
      rfl
    | true =>
      repeat (first | refine W.seq ?_ | refine W.ret ?_ | (apply W.reg; · (simp only [List.length_cons, List.length_nil, Nat.reduceAdd]; rfl)) | refine WO.nil ?_ | (apply WO.op; · first | exact op_mv (by simp only [St.ev, ↓Tr.get_set, ↓reduceIte, Nat.reduceEqDiff, natA, a0, a1, a2, q1, q2]; rfl) | exact op_bin (by simp only [St.ev, ↓Tr.get_set, ↓reduceIte, Nat.reduceEqDiff, natA, a0, a1, a2, q1, q2]; rfl) (by simp only [St.ev, ↓Tr.get_set, ↓reduceIte, Nat.reduceEqDiff, natA, a0, a1, a2, q1, q2]; rfl) (by simp only [binA, intCmpA, strA, natA, a0, a1, a2, q1, q2]; rfl) | exact op_pick (by simp only [St.ev, ↓Tr.get_set, ↓reduceIte, Nat.reduceEqDiff, natA, a0, a1, a2, q1, q2]; rfl) (by first | exact .inl ⟨rfl, (by simp only [St.ev, ↓Tr.get_set, ↓reduceIte, Nat.reduceEqDiff, natA, a0, a1, a2, q1, q2]; rfl)⟩ | exact .inr ⟨rfl, (by simp only [St.ev, ↓Tr.get_set, ↓reduceIte, Nat.reduceEqDiff, natA, a0, a1, a2, q1, q2]; rfl)⟩)) | (apply WO.gop'; (· (simp only [St.ev, ↓Tr.get_set, ↓reduceIte, Nat.reduceEqDiff, natA, a0, a1, a2, q1, q2]; rfl)); (· rfl); (· first | exact op_mv (by simp only [St.ev, ↓Tr.get_set, ↓reduceIte, Nat.reduceEqDiff, natA, a0, a1, a2, q1, q2]; rfl) | exact op_bin (by simp only [St.ev, ↓Tr.get_set, ↓reduceIte, Nat.reduceEqDiff, natA, a0, a1, a2, q1, q2]; rfl) (by simp only [St.ev, ↓Tr.get_set, ↓reduceIte, Nat.reduceEqDiff, natA, a0, a1, a2, q1, q2]; rfl) (by simp only [binA, intCmpA, strA, natA, a0, a1, a2, q1, q2]; rfl))) | refine pN ?_ | fail)
      refine ⟨fun id q => (by cases q), _, by simp only [resL, resA, Tr.get_set, get_bump, next_bump, next_set, next_add, AHeap.get_set, reduceIte, Nat.reduceEqDiff]; rfl, ?_⟩
      rw [inZ, q1, q2]
      rfl
end Go.Proofs.Ytpbighinamljbaa.PA
namespace Go.Proofs.Ytpbighinamljbaa.PA
open Go Go.Eng Go.Proofs
def Cl (c : Nat × Nat) (i m : Nat) : Prop := i = m ∨ ((i = c.1 ∨ i = c.2) ∧ (m = c.1 ∨ m = c.2))
theorem Cl.symm {c : Nat × Nat} {i m : Nat} (h : Cl c i m) : Cl c m i := by
  rcases h with h | ⟨h1, h2⟩
  · exact .inl h.symm
  · exact .inr ⟨h2, h1⟩
end Go.Proofs.Ytpbighinamljbaa.PA
namespace Go.Proofs.Ytpbighinamljbaa.PA
open Go Go.Eng Go.Proofs
def one (F x : Nat) : Nat := cond (Nat.beq x F) 1 0
end Go.Proofs.Ytpbighinamljbaa.PA
namespace Go.Proofs.Ytpbighinamljbaa.PA
end Go.Proofs.Ytpbighinamljbaa.PA
namespace Go.Proofs.Ytpbighinamljbaa.PA
end Go.Proofs.Ytpbighinamljbaa.PA
namespace Go.Proofs.Ytpbighinamljbaa.PA
end Go.Proofs.Ytpbighinamljbaa.PA
namespace Go.Proofs.Ytpbighinamljbaa.PA
open Go Go.Eng Go.Proofs
end Go.Proofs.Ytpbighinamljbaa.PA
namespace Go.Proofs.Ytpbighinamljbaa.PA
open Go Go.Eng Go.Proofs
structure RI (H0 : AHeap) (p : Nat) (u : AV) (l : Prs) (j : Nat) (s : St) : Prop where
  le : j ≤ l.length
  t5 : s.tm.get 5 = some (natA p)
  t6 : s.tm.get 6 = some u
  t8 : s.tm.get 8 = some (.int .i64 ((l.length : Int) - 1 - (j : Int)))
  row : ∃ v, s.tm.get 7 = some v ∧ RowE 2 s.H v j (prsC (l.reverse.take j)) ∧ (∀ o, v.own = some o → H0.next ≤ o)
  nx : H0.next ≤ s.H.next
  fr : ∀ j, j < H0.next → s.H.get j = H0.get j
end Go.Proofs.Ytpbighinamljbaa.PA
namespace Go.Proofs.Ytpbighinamljbaa.PA
open Go Go.Eng Go.Proofs
end Go.Proofs.Ytpbighinamljbaa.PA
namespace Go.Proofs.Ytpbighinamljbaa.PA
open Go Go.Eng Go.Proofs
end Go.Proofs.Ytpbighinamljbaa.PA
namespace Go.Eng
end Go.Eng
namespace Go.Proofs.Ytpbighinamljbaa.PA
open Go Go.Eng Go.Proofs
end Go.Proofs.Ytpbighinamljbaa.PA
namespace Go.Eng
theorem op_faddrI {cf : CF} {n o p : Nat} {cs : List AV} {H : AHeap} {ev : XO → Option AV} {x : XO} (hx : ev x = some (.iptr cs p)) : xval cf ev H n (.faddr o x) = some (.iptr cs (p + o), H) := by
  simp only [xval, xop, hx]
end Go.Eng
namespace Go.Proofs.Ytpbighinamljbaa.PA
open Go Go.Eng Go.Proofs
theorem zc_get : ∀ {l : ZPrs} {i : Nat} {p : Int × Int}, l[i]? = some p → (zc l)[i * 2]? = some (.int .i64 p.1) ∧ (zc l)[i * 2 + 1]? = some (.int .i64 p.2)
  | [], _, _, h => by simp at h
  | q :: l, 0, p, h => by simp at h; subst h; exact ⟨rfl, rfl⟩
  | q :: l, i + 1, p, h => by
    rw [show (i + 1) * 2 = i * 2 + 2 by omega, show i * 2 + 2 + 1 = i * 2 + 1 + 2 by omega]
    exact zc_get (l := l) (by simpa using h)
end Go.Proofs.Ytpbighinamljbaa.PA
namespace Go.Proofs.Ytpbighinamljbaa.PA
open Go Go.Eng Go.Proofs
def okE (n : Int) (p : Int × Int) : Bool := decide (0 ≤ p.1 ∧ p.1 < n ∧ 0 ≤ p.2 ∧ p.2 < n ∧ p.1 ≠ p.2)
def grZ (n : Int) (l : ZPrs) : Bool := decide (1 ≤ n ∧ n ≤ 10) && decide (l.length ≤ 60) && l.all (okE n)
section
variable {cf : CF} {fuel n : Nat} {H : AHeap} {l : KL0} {x y : XO} {a b : Int}
theorem k_eqlZ (hx : evK l x = some (.int .i64 a)) (hy : evK l y = some (.int .i64 b)) : XV cf l H n (.bin .eql x y) = some (.bool (decide (a = b)), H) :=
  k_bin hx hy (by
    show some (AV.bool (a == b)) = _
    congr 2)
theorem k_faddrI {o p : Nat} {cs : List AV} (hx : evK l x = some (.iptr cs p)) : XV cf l H n (.faddr o x) = some (.iptr cs (p + o), H) := k_any (op_faddrI hx)
end
def inM (m : Int) (p : Int × Int) : Bool := inZ p.1 (.ofNat 0) m && inZ p.2 (.ofNat 0) m && decide (p.1 ≠ p.2)
theorem inM_ok {n : Int} (h1 : 1 ≤ n) (h2 : n ≤ 10) (p : Int × Int) : inM (wrapA .i64 (n - Int.ofNat 1)) p = okE n p := by
  have : wrapA .i64 (n - Int.ofNat 1) = n - 1 := by
    show wrapA .i64 (n - 1) = _
    rw [wrapI _ (by omega) (by omega)]
  rw [this, Bool.eq_iff_iff]
  simp only [inM, inZ, okE, Bool.and_eq_true, decide_eq_true_eq, Int.ofNat_eq_natCast]
  omega
theorem grZ_bad {n : Int} {l : ZPrs} {p : Int × Int} (hp : p ∈ l) (h : inM (wrapA .i64 (n - Int.ofNat 1)) p = false) : grZ n l = false := by
  cases q : grZ n l with
  | false => rfl
  | true =>
    simp only [grZ, Bool.and_eq_true, decide_eq_true_eq, List.all_eq_true] at q
    obtain ⟨⟨⟨q1, q2⟩, _⟩, q3⟩ := q
    rw [inM_ok q1 q2, q3 p hp] at h
    cases h
theorem grZ_good {n : Int} {l : ZPrs} (h : ∀ p ∈ l, inM (wrapA .i64 (n - Int.ofNat 1)) p = true) : grZ n l = (inZ n (.ofNat 1) (.ofNat 10) && decide (l.length ≤ 60)) := by
  rw [Bool.eq_iff_iff]
  simp only [grZ, inZ, Bool.and_eq_true, decide_eq_true_eq, List.all_eq_true, Int.ofNat_eq_natCast]
  constructor
  · rintro ⟨⟨⟨q1, q2⟩, q3⟩, _⟩
    exact ⟨⟨by omega, by omega⟩, q3⟩
  · rintro ⟨⟨q1, q2⟩, q3⟩
    exact ⟨⟨⟨by omega, by omega⟩, q3⟩, fun p hp => by rw [← inM_ok (by omega) (by omega)]; exact h p hp⟩
attribute [local irreducible] inZ
theorem x44 {cf : CF} {fuel : Nat} {H : AHeap} {n : Int} {l : ZPrs} (hl : l.length ≤ 1000) (hf : 1001 < fuel) (h66 : ∀ H v lo hi, cf 66 [.int .i64 v, .int .i64 lo, .int .i64 hi] H = some (.bool (inZ v lo hi), H)) :
    ∃ u H', xfunc cf fuel L44 [.int .i64 n, .imm (zc l) l.length false] H = some (u, H') ∧ u = .bool (grZ n l) ∧ True := by
  refine xfunc_ofK rfl (by show 2 ≤ 52; omega) ?_
  unfold L44
  dsimp only
  repeat' (first | refine WK.seq ?_ | refine WK.block ?_ | (apply WK.reg; (· exact lnn)) | refine WKO.nil ?_ | ((first | apply WKO.op); (· first | exact k_mv rfl); (· rfl)) | refine pN ?_ | fail)
  refine WK.loop (α := Nat) (fun i => [(0, .int .i64 n), (1, .imm (zc l) l.length false), (5, nA i)]) (fun i _ => i ≤ l.length ∧ ∀ p ∈ l.take i, inM (wrapA .i64 (n - Int.ofNat 1)) p = true) (fun i => l.length - i) 0 (.cons rfl <| .cons rfl <| .cons rfl <| .nil _) ⟨Nat.zero_le _, by simp⟩ (by omega) ?_
  rintro i H ⟨h1, h2⟩
  by_cases hi : i < l.length
  · obtain ⟨p, hp⟩ : ∃ p, l[i]? = some p := ⟨_, List.getElem?_eq_getElem hi⟩
    obtain ⟨g0, g1⟩ := zc_get hp
    have hm : p ∈ l := List.mem_of_getElem? hp
    repeat' (first | refine WK.seq ?_ | refine WK.skip ?_ | refine WK.ret ?_ | refine WK.block ?_ | (apply WK.reg; (· exact lnn)) | (apply WK.regC; (· rfl); (· exact lnn); (· decide)) | refine WKC.nil ?_ | refine WKO.nil ?_ | ((first | apply WKC.op | apply WKO.op | ((first | apply WKC.gop); (· rfl); (· exact dcd))); (· first | exact k_mv rfl | exact k_eqlZ rfl rfl | exact k_iaM rfl rfl (by omega) | exact k_faddrI rfl | exact k_ldM rfl g0 | exact k_ldM rfl g1 | exact k_call rfl rfl (h66 _ _ _ _) | exact opA); (· rfl)) | ((first | apply WKC.gnoF); (· rfl); (· exact dcd)) | ((first | apply WKC.gspB); (· rfl); all_goals ((fail_if_success (refine known ?_ ?_; (· assumption))); intro _)) | refine pN ?_ | refine pR ?_ | refine bN ?_ | refine bR ?_ | (apply WK.condT; (· rfl); (· exact dcd)) | (apply WK.condD; (· rfl); all_goals intro _) | fail)
    · refine ⟨nofun, _, rfl, ?_, trivial⟩
      rw [grZ_bad hm (by simp_all [inM])]
      rfl
    · refine ⟨nofun, _, rfl, ?_, trivial⟩
      rw [grZ_bad hm (by simp_all [inM])]
      rfl
    · refine ⟨nofun, _, rfl, ?_, trivial⟩
      rw [grZ_bad hm (by simp_all [inM])]
      rfl
    · refine ⟨i + 1, (.cons rfl <| .cons rfl <| .cons rfl <| .nil _), ⟨by omega, fun q hq => ?_⟩, by omega⟩
      rw [List.take_add_one, hp] at hq
      rcases List.mem_append.1 hq with hq | hq
      · exact h2 q hq
      · have : q = p := by simpa using hq
        subst this
        simp_all [inM]
  · have h2' : ∀ p ∈ l, inM (wrapA .i64 (n - Int.ofNat 1)) p = true := by
      rwa [List.take_of_length_le (by omega)] at h2
    have hg := grZ_good h2'
    repeat' (first | refine WK.seq ?_ | refine WK.ret ?_ | refine WK.exit ?_ | (apply WK.reg; (· exact lnn)) | refine WKO.nil ?_ | ((first | apply WKO.op | ((first | apply WKO.gop); (· rfl); (· exact dcd))); (· first | exact k_mv rfl | exact k_call rfl rfl (h66 _ _ _ _) | exact opA); (· rfl)) | ((first | apply WKO.gnoT); (· rfl); (· exact dcd)) | ((first | apply WKO.gspB); (· rfl); all_goals ((fail_if_success (refine known ?_ ?_; (· assumption))); intro _)) | refine pN ?_ | refine pX ?_ | refine bX ?_ | (apply WK.condF; (· rfl); (· exact dcd)) | fail)
    all_goals
      rename_i hb
      refine ⟨nofun, _, rfl, ?_, trivial⟩
      rw [hg, hb]
      rfl
end Go.Proofs.Ytpbighinamljbaa.PA
namespace Go.Proofs.Ytpbighinamljbaa.PA
open Go Go.Eng Go.Proofs
def risB (n : Nat) (N : List Nat) : Bool := (List.range N.length).all fun i => decide (N.getD i 0 < n) && (decide (i = 0) || decide (N.getD (i - 1) 0 < N.getD i 0))
def bitsN (N : List Nat) : Nat := N.foldl (fun a v => a ||| 2 ^ v) 0
def bef : List Nat → List Nat → Bool
  | [], [] => false
  | [], _ :: _ => true
  | _ :: _, [] => false
  | a :: N, b :: M => if a = b then bef N M else decide (a < b)
def mtN (N : List Nat) : Nat → List Nat → Bool
  | _, [] => true
  | C, w :: l => (List.range N.length).any fun v => bt C v && bt (N.getD w 0) v && mtN N (sdiff C (2 ^ v)) l
theorem bef_eq : ∀ (N M : List Nat), (!bef N M && !bef M N) = decide (N = M)
  | [], [] => by simp [bef]
  | [], _ :: _ => by simp [bef]
  | _ :: _, [] => by simp [bef]
  | a :: N, b :: M => by
    have ih := bef_eq N M
    unfold bef
    by_cases e : a = b
    · subst e
      rw [if_pos rfl, if_pos rfl, ih]
      simp
    · rw [if_neg e, if_neg (fun q => e q.symm), Bool.eq_iff_iff]
      simp [e]
      omega
theorem bitsN_lt {n : Nat} : ∀ (N : List Nat) (acc : Nat), acc < 2 ^ n → (∀ v ∈ N, v < n) → N.foldl (fun a v => a ||| 2 ^ v) acc < 2 ^ n
  | [], acc, h, _ => h
  | v :: N, acc, h, g => bitsN_lt N _ (Nat.or_lt_two_pow h (Nat.pow_lt_pow_right (by omega) (g v (by simp)))) (fun u hu => g u (by simp [hu]))
section
variable {cf : CF} {fuel : Nat} {H : AHeap} {N : List Nat}
theorem k_ia1c {n len a : Nat} {l : KL0} {x : XO} {cs : List AV} {f : Bool} (hx : evK l x = some (.imm cs len f)) (h : a < len) : XV cf l H n (.iaddr 1 x (.k (.int .i64 (.ofNat a)))) = some (.iptr cs a, H) := by
  have := k_iaM (cf := cf) (H := H) (n := n) (z := 1) (y := .k (.int .i64 (.ofNat a))) (a := a) hx rfl h
  rwa [Nat.mul_one] at this
attribute [local irreducible] inZ in
theorem x24 {n : Nat} (hn : 1 ≤ n) (hn2 : n ≤ 1000) (hl : N.length ≤ 1000) (hf : 1001 < fuel) (h51 : ∀ H v lo hi, cf 51 [.int .i64 v, .int .i64 lo, .int .i64 hi] H = some (.bool (inZ v lo hi), H)) :
    ∃ u H', xfunc cf fuel L24 [nA n, fz N] H = some (u, H') ∧ u = .bool (risB n N) ∧ True := by
  refine xfunc_ofK rfl (by show 2 ≤ 36; omega) ?_
  unfold L24
  dsimp only
  have hin : ∀ a : Nat, inZ (a : Int) (.ofNat 0) ((n - 1 : Nat) : Int) = decide (a < n) := fun a => by
    rw [Bool.eq_iff_iff]
    unfold inZ
    simp only [Bool.and_eq_true, decide_eq_true_eq, Int.ofNat_eq_natCast]
    omega
  repeat' (first | refine WK.seq ?_ | refine WK.block ?_ | (apply WK.reg; (· exact lnn)) | refine WKO.nil ?_ | ((first | apply WKO.op); (· first | exact k_mv rfl); (· rfl)) | refine pN ?_ | fail)
  refine WK.loop (α := Nat) (fun i => [(0, nA n), (1, fz N), (5, nA i)]) (fun i _ => i ≤ N.length ∧ ∀ j, j < i → N.getD j 0 < n ∧ (j = 0 ∨ N.getD (j - 1) 0 < N.getD j 0)) (fun i => N.length - i) 0 (.cons rfl <| .cons rfl <| .cons rfl <| .nil _) ⟨Nat.zero_le _, fun j hj => absurd hj (Nat.not_lt_zero _)⟩ (by omega) ?_
  rintro i H ⟨h1, h2⟩
  have hno : ∀ i, i < N.length → ¬ (N.getD i 0 < n ∧ (i = 0 ∨ N.getD (i - 1) 0 < N.getD i 0)) → risB n N = false := fun i hi hb => by
    cases q : risB n N with
    | false => rfl
    | true =>
      have := List.all_eq_true.1 q i (List.mem_range.2 hi)
      simp only [Bool.and_eq_true, Bool.or_eq_true, decide_eq_true_eq] at this
      exact absurd this hb
  by_cases hi : i < N.length
  · repeat' (first | refine WK.seq ?_ | refine WK.skip ?_ | refine WK.ret ?_ | refine WK.block ?_ | (apply WK.reg; (· exact lnn)) | (apply WK.regC; (· rfl); (· exact lnn); (· decide)) | refine WKC.nil ?_ | refine WKO.nil ?_ | ((first | apply WKC.op | apply WKO.op | ((first | apply WKC.gop); (· rfl); (· exact dcd))); (· first | exact k_mv rfl | exact k_ia1 rfl rfl (by omega) | exact k_ldM rfl (map_at (by omega)) | exact k_call rfl rfl ((h51 _ _ _ _).trans (by rw [hin])) | exact opA); (· rfl)) | ((first | apply WKC.gnoT | apply WKC.gnoF); (· rfl); (· exact dcd)) | ((first | apply WKC.gnu); (· rfl)) | ((first | apply WKC.gsp); (· rfl); all_goals ((fail_if_success (refine known ?_ ?_; (· assumption))); intro _)) | refine pN ?_ | refine pR ?_ | refine bN ?_ | refine bR ?_ | (apply WK.condT; (· rfl); (· exact dcd)) | (apply WK.condF; (· rfl); (· exact dcd)) | (apply WK.condD; (· rfl); all_goals intro _) | fail)
    · refine ⟨nofun, _, rfl, ?_, trivial⟩
      rw [hno i hi (by omega)]
      rfl
    · refine ⟨nofun, _, rfl, ?_, trivial⟩
      rw [hno i hi (by omega)]
      rfl
    all_goals
      refine ⟨i + 1, (.cons rfl <| .cons rfl <| .cons rfl <| .nil _), ⟨hi, fun j hj => ?_⟩, by omega⟩
      by_cases e : j < i
      · exact h2 j e
      · obtain rfl : j = i := by omega
        omega
  · repeat' (first | refine WK.seq ?_ | refine WK.ret ?_ | refine WK.exit ?_ | (apply WK.reg; (· exact lnn)) | refine WKO.nil ?_ | ((first | apply WKO.op); (· first | exact k_mv rfl | exact opA); (· rfl)) | refine pN ?_ | refine pX ?_ | refine bX ?_ | (apply WK.condF; (· rfl); (· exact dcd)) | fail)
    refine ⟨nofun, _, rfl, ?_, trivial⟩
    have : risB n N = true := List.all_eq_true.2 fun j hj => by
      have := h2 j (by have := List.mem_range.1 hj; omega)
      simp only [Bool.and_eq_true, Bool.or_eq_true, decide_eq_true_eq]
      exact this
    rw [this]
    rfl
theorem x25 (hN : ∀ v ∈ N, v < 20) (hl : N.length ≤ 1000) (hf : 1001 < fuel) : ∃ u H', xfunc cf fuel L25 [fz N] H = some (u, H') ∧ u = nA (bitsN N) ∧ True := by
  refine xfunc_ofK rfl (by show 1 ≤ 19; omega) ?_
  unfold L25
  dsimp only
  have hlt : ∀ i, (N.take i).foldl (fun a v => a ||| 2 ^ v) 0 < 1048576 := fun i => bitsN_lt (n := 20) _ 0 (by omega) fun v hv => hN v (List.mem_of_mem_take hv)
  repeat' (first | refine WK.seq ?_ | refine WK.block ?_ | (apply WK.reg; (· exact lnn)) | refine WKO.nil ?_ | ((first | apply WKO.op); (· first | exact k_mv rfl); (· rfl)) | refine pN ?_ | fail)
  refine WK.loop (α := Nat) (fun i => [(0, fz N), (3, nA ((N.take i).foldl (fun a v => a ||| 2 ^ v) 0)), (4, nA i)]) (fun i _ => i ≤ N.length) (fun i => N.length - i) 0 (.cons rfl <| .cons rfl <| .cons rfl <| .nil _) (Nat.zero_le _) (by omega) ?_
  intro i H h1
  by_cases hi : i < N.length
  · have hv : N.getD i 0 < 20 := by
      rw [List.getD_eq_getElem?_getD, List.getElem?_eq_getElem hi]
      exact hN _ (List.getElem_mem _)
    have hp : 2 ^ N.getD i 0 < 1048576 := Nat.pow_lt_pow_right (a := 2) (n := 20) (by omega) hv
    repeat' (first | refine WK.seq ?_ | refine WK.skip ?_ | refine WK.block ?_ | (apply WK.reg; (· exact lnn)) | refine WKO.nil ?_ | ((first | apply WKO.op); (· first | exact k_mv rfl | exact k_ia1 rfl rfl (by omega) | exact k_ldM rfl (map_at (by omega)) | exact k_shl1 rfl rfl (by omega) | exact k_orN rfl rfl (hlt i) hp | exact opA); (· rfl)) | refine pN ?_ | refine bN ?_ | (apply WK.condT; (· rfl); (· exact dcd)) | fail)
    have e : (N.take (i + 1)).foldl (fun a v => a ||| 2 ^ v) 0 = (N.take i).foldl (fun a v => a ||| 2 ^ v) 0 ||| 2 ^ N.getD i 0 := by
      rw [List.take_add_one, List.getD_eq_getElem?_getD, List.getElem?_eq_getElem hi, List.foldl_append]
      rfl
    exact ⟨i + 1, (.cons rfl <| .cons (by rw [e]; rfl) <| .cons rfl <| .nil _), hi, by omega⟩
  · repeat' (first | refine WK.seq ?_ | refine WK.ret ?_ | refine WK.exit ?_ | (apply WK.reg; (· exact lnn)) | refine WKO.nil ?_ | ((first | apply WKO.op); (· first | exact k_mv rfl | exact opA); (· rfl)) | refine pN ?_ | refine pX ?_ | refine bX ?_ | (apply WK.condF; (· rfl); (· exact dcd)) | fail)
    refine ⟨nofun, _, rfl, ?_, trivial⟩
    rw [bitsN, List.take_of_length_le (by omega)]
    rfl
theorem bef_drop : ∀ (i : Nat) (N M : List Nat), i ≤ N.length → i ≤ M.length → (∀ j, j < i → N.getD j 0 = M.getD j 0) → bef N M = bef (N.drop i) (M.drop i)
  | 0, N, M, _, _, _ => rfl
  | i + 1, [], M, h, _, _ => by simp at h
  | i + 1, _ :: _, [], _, h, _ => by simp at h
  | i + 1, a :: N, b :: M, h, h', g => by
    have e : a = b := g 0 (by omega)
    rw [bef, if_pos e, List.drop_succ_cons, List.drop_succ_cons]
    exact bef_drop i N M (by simpa using h) (by simpa using h') fun j hj => g (j + 1) (by omega)
theorem x49 {M : List Nat} (hl : N.length ≤ 1000) (hf : 1001 < fuel) : ∃ u H', xfunc cf fuel L49 [fz N, fz M] H = some (u, H') ∧ u = .bool (bef N M) ∧ True := by
  refine xfunc_ofK rfl (by show 2 ≤ 41; omega) ?_
  unfold L49
  dsimp only
  repeat' (first | refine WK.seq ?_ | refine WK.block ?_ | (apply WK.reg; (· exact lnn)) | refine WKO.nil ?_ | ((first | apply WKO.op); (· first | exact k_mv rfl); (· rfl)) | refine pN ?_ | fail)
  refine WK.loop (α := Nat) (fun i => [(0, fz N), (1, fz M), (5, nA i)]) (fun i _ => i ≤ N.length ∧ i ≤ M.length ∧ ∀ j, j < i → N.getD j 0 = M.getD j 0) (fun i => N.length - i) 0 (.cons rfl <| .cons rfl <| .cons rfl <| .nil _) ⟨Nat.zero_le _, Nat.zero_le _, fun j hj => absurd hj (Nat.not_lt_zero _)⟩ (by omega) ?_
  rintro i H ⟨h1, h2, h3⟩
  have hd := bef_drop i N M h1 h2 h3
  by_cases hi : i < N.length
  · by_cases hi' : i < M.length
    · have e1 : N.drop i = N.getD i 0 :: N.drop (i + 1) := by rw [List.drop_eq_getElem_cons hi, List.getD_eq_getElem?_getD, List.getElem?_eq_getElem hi]; rfl
      have e2 : M.drop i = M.getD i 0 :: M.drop (i + 1) := by rw [List.drop_eq_getElem_cons hi', List.getD_eq_getElem?_getD, List.getElem?_eq_getElem hi']; rfl
      rw [e1, e2, bef] at hd
      repeat' (first | refine WK.seq ?_ | refine WK.skip ?_ | refine WK.ret ?_ | refine WK.block ?_ | (apply WK.reg; (· exact lnn)) | (apply WK.regC; (· rfl); (· exact lnn); (· decide)) | refine WKC.nil ?_ | refine WKO.nil ?_ | ((first | apply WKC.op | apply WKO.op | ((first | apply WKO.gop); (· rfl); (· exact dcd))); (· first | exact k_mv rfl | exact k_ia1 rfl rfl (by omega) | exact k_ldM rfl (map_at (by omega)) | exact opA); (· rfl)) | refine pN ?_ | refine pR ?_ | refine bN ?_ | refine bR ?_ | (apply WK.condT; (· rfl); (· exact dcd)) | (apply WK.condD; (· rfl); all_goals intro _) | fail)
      · rename_i hne
        refine ⟨nofun, _, rfl, ?_, trivial⟩
        rw [hd, if_neg hne]
        rfl
      · rename_i hne
        refine ⟨i + 1, (.cons rfl <| .cons rfl <| .cons rfl <| .nil _), ⟨hi, hi', fun j hj => ?_⟩, by omega⟩
        by_cases e : j < i
        · exact h3 j e
        · obtain rfl : j = i := by omega
          exact Classical.not_not.1 hne
    · repeat' (first | refine WK.seq ?_ | refine WK.ret ?_ | refine WK.exit ?_ | (apply WK.reg; (· exact lnn)) | refine WKO.nil ?_ | ((first | apply WKO.op | ((first | apply WKO.gop); (· rfl); (· exact dcd))); (· first | exact k_mv rfl | exact opA); (· rfl)) | refine pN ?_ | refine pX ?_ | refine bX ?_ | (apply WK.condF; (· rfl); (· exact dcd)) | fail)
      refine ⟨nofun, _, rfl, ?_, trivial⟩
      have hM : M.drop i = [] := List.drop_eq_nil_of_le (by omega)
      rw [hd, hM, List.drop_eq_getElem_cons hi, bef]
      show AV.bool _ = _
      congr 1
      simp
      omega
  · repeat' (first | refine WK.seq ?_ | refine WK.ret ?_ | refine WK.exit ?_ | (apply WK.reg; (· exact lnn)) | refine WKO.nil ?_ | ((first | apply WKO.op); (· first | exact k_mv rfl | exact opA); (· rfl)) | ((first | apply WKO.gnoT); (· rfl); (· exact dcd)) | refine pN ?_ | refine pX ?_ | refine bX ?_ | (apply WK.condF; (· rfl); (· exact dcd)) | fail)
    refine ⟨nofun, _, rfl, ?_, trivial⟩
    have hN0 : N.drop i = [] := List.drop_eq_nil_of_le (by omega)
    rw [hd, hN0]
    show AV.bool _ = _
    congr 1
    rcases Nat.lt_or_ge i M.length with q | q
    · rw [List.drop_eq_getElem_cons q, bef]
      simp
      omega
    · rw [List.drop_eq_nil_of_le q, bef]
      simp
      omega
theorem x21 {M : List Nat} (h49 : ∀ H N M, N.length ≤ 1000 → cf 49 [fz N, fz M] H = some (.bool (bef N M), H)) (hl : N.length ≤ 1000) (hl' : M.length ≤ 1000) : ∃ u H', xfunc cf fuel L21 [fz N, fz M] H = some (u, H') ∧ u = .bool (decide (N = M)) ∧ True := by
  refine xfunc_ofK rfl (by show 2 ≤ 15; omega) ?_
  have he := bef_eq N M
  unfold L21
  dsimp only
  repeat' (first | refine WK.seq ?_ | refine WK.ret ?_ | (apply WK.reg; (· exact lnn)) | refine WKO.nil ?_ | ((first | apply WKO.op | ((first | apply WKO.gop); (· rfl); (· exact dcd))); (· first | exact k_mv rfl | exact k_call rfl rfl (h49 _ N M hl) | exact k_call rfl rfl (h49 _ M N hl') | exact opA); (· rfl)) | ((first | apply WKO.gnoT); (· rfl); (· exact dcd)) | ((first | apply WKO.gspB); (· rfl); all_goals ((fail_if_success (refine known ?_ ?_; (· assumption))); intro _)) | refine pN ?_ | fail)
  all_goals
    refine ⟨nofun, _, rfl, ?_, trivial⟩
    rw [← he]
    simp_all
    try rfl
theorem k_tail {n w : Nat} {K : KL0} {x : XO} {l : List Nat} (hx : evK K x = some (fz (w :: l))) : XV cf K H n (.cut 1 x (some (.k (.int .i64 (.ofNat 1)))) none none) = some (fz l, H) := by
  refine k_any (op_cut hx ?_)
  have e : bndA (l.length + 1) (.int .i64 (.ofNat 1)) = some 1 := bndA_nat (by omega)
  simp only [cutA, fz, bounds, obnd, hiBnd, Option.bind_some, evK, List.length_cons, e]
  cases l with
  | nil => rfl
  | cons a l => rw [if_neg (by simp)]; rfl
set_option maxHeartbeats 1000000 in
theorem x74 {C : Nat} : ∀ {l : List Nat} (hl : l.length ≤ 10) (hN : ∀ m ∈ N, m < 1024) (hNl : N.length ≤ 10) (hlt : ∀ w ∈ l, w < N.length) (hC : C < 1024) (hf : 20 < fuel)
    (h74 : ∀ H C w l', l = w :: l' → C < 1024 → ∃ u H', cf 74 [fz N, nA C, fz l'] H = some (u, H') ∧ u = .bool (mtN N C l') ∧ True),
    ∃ u H', xfunc cf fuel L74 [fz N, nA C, fz l] H = some (u, H') ∧ u = .bool (mtN N C l) ∧ True
  | [], _, _, _, _, _, _, _ => by
    refine xfunc_ofK rfl (by show 3 ≤ 44; omega) ?_
    unfold L74
    dsimp only
    repeat' (first | refine WK.seq ?_ | refine WK.ret ?_ | (apply WK.reg; (· exact lnn)) | refine WKO.nil ?_ | ((first | apply WKO.op); (· first | exact k_mv rfl | exact opA); (· rfl)) | refine pN ?_ | refine pR ?_ | (apply WK.condT; (· rfl); (· exact dcd)) | fail)
    exact ⟨nofun, _, rfl, rfl, trivial⟩
  | w :: l, hl, hN, hNl, hlt, hC, hf, h74 => by
    refine xfunc_ofK rfl (by show 3 ≤ 44; omega) ?_
    have hw := hlt w (by simp)
    unfold L74
    dsimp only
    repeat' (first | refine WK.seq ?_ | refine WK.skip ?_ | refine WK.block ?_ | (apply WK.reg; (· exact lnn)) | refine WKO.nil ?_ | ((first | apply WKO.op); (· first | exact k_mv rfl | exact opA); (· rfl)) | refine pN ?_ | (apply WK.condF; (· rfl); (· exact dcd)) | fail)
    refine WK.loop (α := Nat) (fun v => [(0, fz N), (1, nA C), (2, fz (w :: l)), (7, nA v)]) (fun v _ => v ≤ N.length ∧ ((List.range v).any fun v => bt C v && bt (N.getD w 0) v && mtN N (sdiff C (2 ^ v)) l) = false) (fun v => N.length - v) 0 (.cons rfl <| .cons rfl <| .cons rfl <| .cons rfl <| .nil _) ⟨Nat.zero_le _, rfl⟩ (by omega) ?_
    rintro v H ⟨h1, h2⟩
    by_cases hv : v < N.length
    · have hr := List.range_succ (n := v)
      have hsd : sdiff C (2 ^ v) < 1024 := Nat.lt_of_le_of_lt (sdiff_le _ _) hC
      have hgw := getD_lt10 hN w
      have hpv : 2 ^ v < 1024 := (Nat.pow_lt_pow_right (a := 2) (by omega) (by omega) : 2 ^ v < 2 ^ 10)
      have hyes : bt C v = true → bt (N.getD w 0) v = true → mtN N (sdiff C (2 ^ v)) l = true → mtN N C (w :: l) = true := fun q1 q2 q3 => by
        rw [mtN, List.any_eq_true]
        exact ⟨v, List.mem_range.2 hv, by rw [q1, q2, q3]; rfl⟩
      have hno : (bt C v && bt (N.getD w 0) v && mtN N (sdiff C (2 ^ v)) l) = false → ((List.range (v + 1)).any fun v => bt C v && bt (N.getD w 0) v && mtN N (sdiff C (2 ^ v)) l) = false := fun q => by
        rw [hr, List.any_append, h2, List.any_cons, List.any_nil, q]; rfl
      repeat' (first | refine WK.seq ?_ | refine WK.skip ?_ | refine WK.ret ?_ | refine WK.block ?_ | (apply WK.reg; (· exact lnn)) | (apply WK.regd0; (· exact lnn)) | (refine WKO.gcallV rfl dcd rfl rfl rfl (h74 _ _ w l rfl hsd) ?_; rintro _ _ ⟨rfl, _⟩) | refine WKO.nil ?_ | ((first | apply WKO.op | ((first | apply WKO.gop); (· rfl); (· exact dcd))); (· first | exact k_mv rfl | exact k_shrN rfl rfl (by omega) | exact k_andB rfl rfl (by omega) | exact k_bitN rfl rfl | exact k_ia1c rfl (by simp) | exact k_ia1 rfl rfl (by omega) | exact k_ldM rfl (show _ = some (nA w) from rfl) | exact k_ldM rfl (map_at (by omega)) | exact k_shl1 rfl rfl (by omega) | exact k_difN rfl rfl (by omega) (by omega) | exact k_tail rfl | exact opA); (· rfl)) | ((first | apply WKO.gnoT); (· rfl); (· exact dcd)) | ((first | apply WKO.gspB); (· rfl); all_goals ((fail_if_success (refine known ?_ ?_; (· assumption))); intro _)) | refine pN ?_ | refine pR ?_ | refine bN ?_ | refine bR ?_ | (apply WK.condT; (· rfl); (· exact dcd)) | (apply WK.condF; (· rfl); (· exact dcd)) | (apply WK.condB; (· rfl); all_goals intro _) | fail)
      · rename_i q1 q2 _ _ q3
        refine ⟨nofun, _, rfl, ?_, trivial⟩
        rw [hyes q1 q2 q3]
        rfl
      · rename_i q1 q2 _ _ q3
        exact ⟨v + 1, (.cons rfl <| .cons rfl <| .cons rfl <| .cons rfl <| .nil _), ⟨hv, hno (by rw [q1, q2, q3]; rfl)⟩, by omega⟩
      · rename_i q1 q2
        exact ⟨v + 1, (.cons rfl <| .cons rfl <| .cons rfl <| .cons rfl <| .nil _), ⟨hv, hno (by rw [q1, q2]; rfl)⟩, by omega⟩
      · rename_i q1
        exact ⟨v + 1, (.cons rfl <| .cons rfl <| .cons rfl <| .cons rfl <| .nil _), ⟨hv, hno (by rw [q1]; rfl)⟩, by omega⟩
    · repeat' (first | refine WK.seq ?_ | refine WK.ret ?_ | refine WK.exit ?_ | (apply WK.reg; (· exact lnn)) | refine WKO.nil ?_ | ((first | apply WKO.op); (· first | exact k_mv rfl | exact opA); (· rfl)) | refine pN ?_ | refine pX ?_ | refine bX ?_ | (apply WK.condF; (· rfl); (· exact dcd)) | fail)
      refine ⟨nofun, _, rfl, ?_, trivial⟩
      rw [mtN, ← h2, show v = N.length by omega]
      rfl
end
end Go.Proofs.Ytpbighinamljbaa.PA
namespace Go.Proofs.Ytpbighinamljbaa.PA
open Go Go.Eng Go.Proofs
def zsOf : List AV → Option ZPrs
  | [] => some []
  | .int .i64 a :: .int .i64 b :: r => (zsOf r).map ((a, b) :: ·)
  | _ => none
theorem zsOf_eq : ∀ {cs : List AV} {l : ZPrs}, zsOf cs = some l → cs = zc l
  | [], l, h => by simp [zsOf] at h; subst h; rfl
  | [x], l, h => by
    unfold zsOf at h
    split at h
    · rename_i heq; cases heq
    · rename_i heq; cases heq
    · cases h
  | x :: y :: r, l, h => by
    unfold zsOf at h
    split at h
    · rename_i heq; cases heq
    · rename_i a b r' heq
      cases heq
      obtain ⟨m, h2, rfl⟩ := Option.map_eq_some_iff.1 h
      rw [zsOf_eq h2]
      rfl
    · cases h
theorem plain_zc (l : ZPrs) : AV.plainL (zc l) = true := by
  induction l with
  | nil => rfl
  | cons p l ih =>
    show AV.plainL (.int .i64 p.1 :: .int .i64 p.2 :: zc l) = true
    simp only [AV.plainL, ih, Bool.and_true]
    rfl
theorem zc_prs (q : Prs) : zc (q.map (fun c => ((c.1 : Int), (c.2 : Int)))) = prsC q := by
  induction q with
  | nil => rfl
  | cons c q ih =>
    show AV.int .i64 (c.1 : Int) :: AV.int .i64 (c.2 : Int) :: zc (q.map _) = _
    rw [ih]
    rfl
end Go.Proofs.Ytpbighinamljbaa.PA
namespace Go.Proofs.Ytpbighinamljbaa.PA
open Go Go.Eng Go.Proofs
theorem frame_row {P : Program} {f n z : Nat} {x v : AV} {xs : List AV} {cs : List AV} {H H1 : AHeap} (h : CallOK P f (.imm cs n false :: xs) ⟨.e, 0⟩ v H1) (hc : cellsA H z x = some (n, cs)) (hp : AV.plainL cs = true) (hx : AV.plainL xs = true) (hv : v.plain = true) :
    CallOK P f (x :: xs) H v H :=
  frame0 h hv (fun E w us hR h => by
    simp only [AVRelL] at h ⊢
    obtain ⟨u, us', rfl, h1, h2⟩ := h
    exact ⟨u, us', rfl, cells_freeze hR h1 hc hp, plain_relL hx h2⟩)
theorem frame_row2 {P : Program} {f n z : Nat} {x y v : AV} {xs : List AV} {cs : List AV} {H H1 : AHeap} (h : CallOK P f (y :: .imm cs n false :: xs) ⟨.e, 0⟩ v H1) (hc : cellsA H z x = some (n, cs)) (hp : AV.plainL cs = true) (hy : y.plain = true) (hx : AV.plainL xs = true) (hv : v.plain = true) :
    CallOK P f (y :: x :: xs) H v H :=
  frame0 h hv (fun E w us hR h => by
    simp only [AVRelL] at h ⊢
    obtain ⟨u0, us0, rfl, h0, u, us', rfl, h1, h2⟩ := h
    exact ⟨u0, _, rfl, plain_rel hy h0, u, us', rfl, cells_freeze hR h1 hc hp, plain_relL hx h2⟩)
def okN (N : List Nat) : Bool := Nat.ble N.length 10 && N.all fun m => Nat.blt m 1024
theorem okN_len {N : List Nat} (h : okN N = true) : N.length ≤ 10 := by
  simp only [okN, Bool.and_eq_true, Nat.ble_eq] at h
  exact h.1
theorem okN_lt {N : List Nat} (h : okN N = true) : ∀ m ∈ N, m < 1024 := by
  simp only [okN, Bool.and_eq_true, List.all_eq_true, Nat.blt_eq] at h
  exact h.2
def setsA (H : AHeap) (x : AV) : Option (List Nat) := (cellsA H 1 x).bind fun c => (natsOf c.2).bind fun N => if N.length = c.1 ∧ okN N = true then some N else none
theorem setsA_some {H : AHeap} {x : AV} {N : List Nat} (h : setsA H x = some N) : cellsA H 1 x = some (N.length, N.map natA) ∧ okN N = true := by
  simp only [setsA, Option.bind_eq_some_iff] at h
  obtain ⟨⟨c1, c2⟩, hc, M, hM, h⟩ := h
  split at h
  · rename_i hh
    cases h
    have e := natsOf_eq hM
    obtain ⟨e1, e2⟩ := hh
    dsimp only at e e1
    subst e
    subst e1
    exact ⟨hc, e2⟩
  · cases h
theorem setsA_fz {H : AHeap} {N : List Nat} (ho : okN N = true) : setsA H (fz N) = some N := by
  have : cellsA H 1 (fz N) = some (N.length, N.map natA) := by
    simp only [cellsA, fz, lenA, Option.bind_some, srcA]
    cases N with
    | nil => rfl
    | cons a N =>
      have : (List.map nA N).take N.length = List.map natA N := List.take_of_length_le (by simp)
      simp [this]
      rfl
  rw [setsA, this, Option.bind_some]
  dsimp only
  rw [natsOf_map, Option.bind_some, if_pos ⟨rfl, ho⟩]
theorem frame_rr {P : Program} {f n m : Nat} {x y v : AV} {cs ds : List AV} {H H1 : AHeap} (h : CallOK P f [.imm cs n false, .imm ds m false] ⟨.e, 0⟩ v H1) (hc : cellsA H 1 x = some (n, cs)) (hd : cellsA H 1 y = some (m, ds)) (hp : AV.plainL cs = true) (hp' : AV.plainL ds = true) (hv : v.plain = true) :
    CallOK P f [x, y] H v H :=
  frame0 h hv (fun E w us hR h => by
    simp only [AVRelL] at h ⊢
    obtain ⟨u, us', rfl, h1, u2, us2, rfl, h2, rfl⟩ := h
    exact ⟨u, _, rfl, cells_freeze hR h1 hc hp, u2, _, rfl, cells_freeze hR h2 hd hp', rfl⟩)
theorem frame_rpr {P : Program} {f n m : Nat} {x y z v : AV} {cs ds : List AV} {H H1 : AHeap} (h : CallOK P f [.imm cs n false, z, .imm ds m false] ⟨.e, 0⟩ v H1) (hc : cellsA H 1 x = some (n, cs)) (hd : cellsA H 1 y = some (m, ds)) (hp : AV.plainL cs = true) (hp' : AV.plainL ds = true) (hz : z.plain = true) (hv : v.plain = true) :
    CallOK P f [x, z, y] H v H :=
  frame0 h hv (fun E w us hR h => by
    simp only [AVRelL] at h ⊢
    obtain ⟨u, us', rfl, h1, u3, us3, rfl, h3, u2, us2, rfl, h2, rfl⟩ := h
    exact ⟨u, _, rfl, cells_freeze hR h1 hc hp, u3, _, rfl, plain_rel hz h3, u2, _, rfl, cells_freeze hR h2 hd hp', rfl⟩)
def rowN (H : AHeap) (x : AV) : Option (List Nat) := (cellsA H 1 x).bind fun c => (natsOf c.2).bind fun N => if N.length = c.1 then some N else none
theorem rowN_some {H : AHeap} {x : AV} {N : List Nat} (h : rowN H x = some N) : cellsA H 1 x = some (N.length, N.map natA) := by
  simp only [rowN, Option.bind_eq_some_iff] at h
  obtain ⟨⟨c1, c2⟩, hc, M, hM, h⟩ := h
  split at h
  · rename_i hh
    cases h
    have e := natsOf_eq hM
    dsimp only at e hh
    subst e
    subst hh
    exact hc
  · cases h
theorem rowN_of {H : AHeap} {x : AV} {N : List Nat} (h : cellsA H 1 x = some (N.length, N.map natA)) : rowN H x = some N := by
  rw [rowN, h, Option.bind_some]
  dsimp only
  rw [natsOf_map, Option.bind_some, if_pos rfl]
theorem rowN_fz {H : AHeap} {N : List Nat} : rowN H (fz N) = some N := by
  have : cellsA H 1 (fz N) = some (N.length, N.map natA) := by
    simp only [cellsA, fz, lenA, Option.bind_some, srcA]
    cases N with
    | nil => rfl
    | cons a N =>
      have : (List.map nA N).take N.length = List.map nA N := List.take_of_length_le (by simp)
      simp [this]
      exact ⟨rfl, fun _ _ => rfl⟩
  exact rowN_of this
def KG0 : CF := fun f args H => match f, args with
  | 51, [.int .i64 v, .int .i64 lo, .int .i64 hi] => some (.bool (inZ v lo hi), H)
  | 49, [x, y] => (rowN H x).bind fun N => (rowN H y).bind fun M => if N.length ≤ 1000 then some (.bool (bef N M), H) else none
  | 66, [.int .i64 v, .int .i64 lo, .int .i64 hi] => some (.bool (inZ v lo hi), H)
  | 55, [.int .i64 v, .int .i64 lo, .int .i64 hi] => some (.bool (inZ v lo hi), H)
  | 65, [x, .int .i64 (.ofNat s)] => (setsA H x).bind fun N => if s < 1024 then some (nA (around N s), H) else none
  | f, args => KB f args H
theorem KG0_ok : CFok Try.prog KG0 := by
  intro f args H v H' h
  unfold KG0 at h
  split at h
  · rename_i v lo hi
    cases h
    obtain ⟨r, H1, h1, rfl⟩ := x55 (cf := xcall F 300 0) (fuel := 300) (H := ⟨.e, 0⟩) (v := v) (lo := lo) (hi := hi)
    have h1' : xcall F 300 1 51 [.int .i64 v, .int .i64 lo, .int .i64 hi] ⟨.e, 0⟩ = some (.bool (inZ v lo hi), H1) := h1
    exact frame0 (xF 1 _ _ _ _ _ h1') rfl (fun E w us _ h => plain_relL rfl h)
  · rename_i x y
    simp only [Option.bind_eq_some_iff] at h
    obtain ⟨N, hN, M, hM, h⟩ := h
    split at h
    · rename_i hl
      cases h
      obtain ⟨r, H1, h1, rfl, _⟩ := x49 (cf := xcall F 1100 0) (fuel := 1100) (H := ⟨.e, 0⟩) (N := N) (M := M) hl (by omega)
      have h1' : xcall F 1100 1 49 [fz N, fz M] ⟨.e, 0⟩ = some (.bool (bef N M), H1) := h1
      exact frame_rr (xcall_sound mixP F_ok 1100 1 _ _ _ _ _ h1') (rowN_some hN) (rowN_some hM) (plain_nats _) (plain_nats _) rfl
    · cases h
  · rename_i v lo hi
    cases h
    obtain ⟨r, H1, h1, rfl⟩ := x55 (cf := xcall F 300 0) (fuel := 300) (H := ⟨.e, 0⟩) (v := v) (lo := lo) (hi := hi)
    have h1' : xcall F 300 1 66 [.int .i64 v, .int .i64 lo, .int .i64 hi] ⟨.e, 0⟩ = some (.bool (inZ v lo hi), H1) := h1
    exact frame0 (xF 1 _ _ _ _ _ h1') rfl (fun E w us _ h => plain_relL rfl h)
  · rename_i v lo hi
    cases h
    obtain ⟨r, H1, h1, rfl⟩ := x55 (cf := xcall F 300 0) (fuel := 300) (H := ⟨.e, 0⟩) (v := v) (lo := lo) (hi := hi)
    have h1' : xcall F 300 1 55 [.int .i64 v, .int .i64 lo, .int .i64 hi] ⟨.e, 0⟩ = some (.bool (inZ v lo hi), H1) := h1
    exact frame0 (xF 1 _ _ _ _ _ h1') rfl (fun E w us _ h => plain_relL rfl h)
  · rename_i x s
    simp only [Option.bind_eq_some_iff] at h
    obtain ⟨N, hN, h⟩ := h
    split at h
    · rename_i hs
      cases h
      obtain ⟨hc, ho⟩ := setsA_some hN
      obtain ⟨r, H1, h1, rfl, _⟩ := x65 (cf := xcall F 300 0) (fuel := 300) (H := ⟨.e, 0⟩) (okN_lt ho) hs (okN_len ho) (by omega)
      have h1' : xcall F 300 1 65 [fz N, nA s] ⟨.e, 0⟩ = some (nA (around N s), H1) := h1
      exact frame_row (xF 1 _ _ _ _ _ h1') hc (plain_nats _) rfl rfl
    · cases h
  · exact KB_ok _ _ _ _ _ h
def cfG0 (k : Nat) : CF := xcallK KG0 F 2000 k
theorem cfG0_ok (k : Nat) : CFok Try.prog (cfG0 k) := xcallK_sound mixP KG0_ok F_ok 2000 k
theorem g0_66 {k : Nat} {H : AHeap} {v lo hi : Int} : cfG0 k 66 [.int .i64 v, .int .i64 lo, .int .i64 hi] H = some (.bool (inZ v lo hi), H) := by
  unfold cfG0
  cases k <;> rfl
theorem KG0_65 {x : AV} {s : Nat} {H : AHeap} : KG0 65 [x, nA s] H = (setsA H x).bind fun N => if s < 1024 then some (nA (around N s), H) else none := rfl
theorem g0_65 {k : Nat} {H : AHeap} {x : AV} {N : List Nat} {s : Nat} (h : setsA H x = some N) (hs : s < 1024) : cfG0 k 65 [x, nA s] H = some (nA (around N s), H) := by
  have : KG0 65 [x, nA s] H = some (nA (around N s), H) := by rw [KG0_65, h, Option.bind_some, if_pos hs]
  unfold cfG0
  cases k with
  | zero => exact this
  | succ k => unfold xcallK; rw [this]
theorem g0_51 {k : Nat} {H : AHeap} {v lo hi : Int} : cfG0 k 51 [.int .i64 v, .int .i64 lo, .int .i64 hi] H = some (.bool (inZ v lo hi), H) := by
  unfold cfG0
  cases k <;> rfl
theorem g0_49 {k : Nat} {H : AHeap} {N M : List Nat} (h : N.length ≤ 1000) : cfG0 k 49 [fz N, fz M] H = some (.bool (bef N M), H) := by
  have : KG0 49 [fz N, fz M] H = some (.bool (bef N M), H) := by
    have e : KG0 49 [fz N, fz M] H = (rowN H (fz N)).bind fun N => (rowN H (fz M)).bind fun M => if N.length ≤ 1000 then some (.bool (bef N M), H) else none := rfl
    rw [e, rowN_fz, Option.bind_some, rowN_fz, Option.bind_some, if_pos h]
  unfold cfG0
  cases k with
  | zero => exact this
  | succ k => unfold xcallK; rw [this]
theorem g0_74 {N : List Nat} (hN : okN N = true) : ∀ (l : List Nat) (k C : Nat) (H : AHeap), l.length ≤ 10 → (∀ w ∈ l, w < N.length) → C < 1024 → ∃ u H', cfG0 (k + 1 + l.length) 74 [fz N, nA C, fz l] H = some (u, H') ∧ u = .bool (mtN N C l) ∧ True
  | [], k, C, H, h1, h2, h3 => by
    have := x74 (cf := cfG0 k) (fuel := 2000) (H := H) (N := N) (C := C) (l := []) h1 (okN_lt hN) (okN_len hN) h2 h3 (by omega) (fun _ _ _ _ q => by cases q)
    obtain ⟨u, H', q1, q2⟩ := this
    exact ⟨u, H', by unfold cfG0; exact q1, q2⟩
  | w :: l, k, C, H, h1, h2, h3 => by
    have := x74 (cf := cfG0 (k + 1 + l.length)) (fuel := 2000) (H := H) (N := N) (C := C) (l := w :: l) h1 (okN_lt hN) (okN_len hN) h2 h3 (by omega) (fun H C w' l' q hC => by
      cases q
      exact g0_74 hN l k C H (by simp at h1; omega) (fun w hw => h2 w (by simp [hw])) hC)
    obtain ⟨u, H', q1, q2⟩ := this
    refine ⟨u, H', ?_, q2⟩
    rw [show k + 1 + (w :: l).length = (k + 1 + l.length) + 1 by simp; omega]
    exact q1
def KG1 : CF := fun f args H => match f, args with
  | 24, [.int .i64 (.ofNat n), x] => (rowN H x).bind fun N => if 1 ≤ n ∧ n ≤ 1000 ∧ N.length ≤ 1000 then some (.bool (risB n N), H) else none
  | 25, [x] => (rowN H x).bind fun N => if N.length ≤ 1000 ∧ (N.all fun v => Nat.blt v 20) = true then some (nA (bitsN N), H) else none
  | 21, [x, y] => (rowN H x).bind fun N => (rowN H y).bind fun M => if N.length ≤ 1000 ∧ M.length ≤ 1000 then some (.bool (decide (N = M)), H) else none
  | 74, [x, .int .i64 (.ofNat C), y] => (setsA H x).bind fun N => (rowN H y).bind fun l => if C < 1024 ∧ l.length ≤ 10 ∧ (l.all fun w => Nat.blt w N.length) = true then some (.bool (mtN N C l), H) else none
  | 43, [x, .int .i64 (.ofNat v), .int .i64 (.ofNat r)] => (setsA H x).bind fun N => if v < 10 ∧ r ≤ 20 then some (nA (ballN N r (2 ^ v)), H) else none
  | 44, [.int .i64 n, x] => (cellsA H 2 x).bind fun c => (zsOf c.2).bind fun l => if l.length = c.1 ∧ c.1 ≤ 1000 then some (.bool (grZ n l), H) else none
  | f, args => KG0 f args H
theorem KG1_ok : CFok Try.prog KG1 := by
  intro f args H v H' h
  unfold KG1 at h
  split at h
  · rename_i n x
    simp only [Option.bind_eq_some_iff] at h
    obtain ⟨N, hN, h⟩ := h
    split at h
    · rename_i hh
      cases h
      obtain ⟨u, H1, h1, rfl, _⟩ := x24 (cf := cfG0 0) (fuel := 2000) (H := ⟨.e, 0⟩) (N := N) (n := n) hh.1 hh.2.1 hh.2.2 (by omega) (fun H v lo hi => g0_51)
      have h1' : cfG0 1 24 [nA n, fz N] ⟨.e, 0⟩ = some (.bool (risB n N), H1) := h1
      exact frame_row2 (cfG0_ok 1 _ _ _ _ _ h1') (rowN_some hN) (plain_nats _) rfl rfl rfl
    · cases h
  · rename_i x
    simp only [Option.bind_eq_some_iff] at h
    obtain ⟨N, hN, h⟩ := h
    split at h
    · rename_i hh
      cases h
      obtain ⟨u, H1, h1, rfl, _⟩ := x25 (cf := cfG0 0) (fuel := 2000) (H := ⟨.e, 0⟩) (N := N) (fun v hv => by have := List.all_eq_true.1 hh.2 v hv; simpa [Nat.blt_eq] using this) hh.1 (by omega)
      have h1' : cfG0 1 25 [fz N] ⟨.e, 0⟩ = some (nA (bitsN N), H1) := h1
      exact frame_row (cfG0_ok 1 _ _ _ _ _ h1') (rowN_some hN) (plain_nats _) rfl rfl
    · cases h
  · rename_i x y
    simp only [Option.bind_eq_some_iff] at h
    obtain ⟨N, hN, M, hM, h⟩ := h
    split at h
    · rename_i hh
      cases h
      obtain ⟨u, H1, h1, rfl, _⟩ := x21 (cf := cfG0 0) (fuel := 2000) (H := ⟨.e, 0⟩) (N := N) (M := M) (fun H N M q => g0_49 q) hh.1 hh.2
      have h1' : cfG0 1 21 [fz N, fz M] ⟨.e, 0⟩ = some (.bool (decide (N = M)), H1) := h1
      exact frame_rr (cfG0_ok 1 _ _ _ _ _ h1') (rowN_some hN) (rowN_some hM) (plain_nats _) (plain_nats _) rfl
    · cases h
  · rename_i x C y
    simp only [Option.bind_eq_some_iff] at h
    obtain ⟨N, hN, l, hl, h⟩ := h
    split at h
    · rename_i hh
      cases h
      obtain ⟨hc, ho⟩ := setsA_some hN
      obtain ⟨u, H1, h1, rfl, _⟩ := g0_74 ho l 0 C ⟨.e, 0⟩ hh.2.1 (fun w hw => by have := List.all_eq_true.1 hh.2.2 w hw; simpa [Nat.blt_eq] using this) hh.1
      exact frame_rpr (cfG0_ok _ _ _ _ _ _ h1) hc (rowN_some hl) (plain_nats _) (plain_nats _) rfl rfl
    · cases h
  · rename_i x v r
    simp only [Option.bind_eq_some_iff] at h
    obtain ⟨N, hN, h⟩ := h
    split at h
    · rename_i hs
      cases h
      obtain ⟨hc, ho⟩ := setsA_some hN
      obtain ⟨u, H1, h1, rfl, _⟩ := x43 (cf := cfG0 0) (fuel := 2000) (H := ⟨.e, 0⟩) (okN_lt ho) hs.1 hs.2 (by omega) (fun H s q => g0_65 (setsA_fz ho) q)
      have h1' : cfG0 1 43 [fz N, nA v, nA r] ⟨.e, 0⟩ = some (nA (ballN N r (2 ^ v)), H1) := h1
      exact frame_row (cfG0_ok 1 _ _ _ _ _ h1') hc (plain_nats _) rfl rfl
    · cases h
  · rename_i n x
    simp only [Option.bind_eq_some_iff] at h
    obtain ⟨c, hc, l, hl, h⟩ := h
    split at h
    · rename_i hh
      cases h
      obtain ⟨c1, c2⟩ := c
      have hcs := zsOf_eq hl
      obtain ⟨e1, e2⟩ := hh
      dsimp only at hcs e1 e2
      subst hcs
      subst e1
      obtain ⟨u, H1, h1, rfl, _⟩ := x44 (cf := cfG0 0) (fuel := 2000) (H := ⟨.e, 0⟩) (n := n) (l := l) e2 (by omega) (fun H v lo hi => g0_66)
      have h1' : cfG0 1 44 [.int .i64 n, .imm (zc l) l.length false] ⟨.e, 0⟩ = some (.bool (grZ n l), H1) := h1
      exact frame_row2 (cfG0_ok 1 _ _ _ _ _ h1') hc (plain_zc _) rfl rfl rfl
    · cases h
  · exact KG0_ok _ _ _ _ _ h
def cfG1 (k : Nat) : CF := xcallK KG1 F 2000 k
theorem cfG1_ok (k : Nat) : CFok Try.prog (cfG1 k) := xcallK_sound mixP KG1_ok F_ok 2000 k
theorem KG1_43 {x : AV} {v r : Nat} {H : AHeap} : KG1 43 [x, nA v, nA r] H = (setsA H x).bind fun N => if v < 10 ∧ r ≤ 20 then some (nA (ballN N r (2 ^ v)), H) else none := rfl
theorem KG1_43s {H : AHeap} {x : AV} {N : List Nat} {v r : Nat} (h : setsA H x = some N) (hv : v < 10) (hr : r ≤ 20) : KG1 43 [x, nA v, nA r] H = some (nA (ballN N r (2 ^ v)), H) := by
  rw [KG1_43, h, Option.bind_some, if_pos ⟨hv, hr⟩]
def KG : CF := fun f args H => match f, args with
  | 45, [x] => (setsA H x).bind fun N => some (.bool (connN N), H)
  | f, args => KG1 f args H
theorem KG_ok : CFok Try.prog KG := by
  intro f args H v H' h
  unfold KG at h
  split at h
  · rename_i x
    simp only [Option.bind_eq_some_iff] at h
    obtain ⟨N, hN, h⟩ := h
    cases h
    obtain ⟨hc, ho⟩ := setsA_some hN
    obtain ⟨u, H1, h1, rfl, _⟩ := x45 (cf := cfG1 0) (fuel := 2000) (H := ⟨.e, 0⟩) (okN_lt ho) (okN_len ho) (fun H => KG1_43s (setsA_fz ho) (by omega) (by have := okN_len ho; omega))
    have h1' : cfG1 1 45 [fz N] ⟨.e, 0⟩ = some (.bool (connN N), H1) := h1
    exact frame_row (cfG1_ok 1 _ _ _ _ _ h1') hc (plain_nats _) rfl rfl
  · exact KG1_ok _ _ _ _ _ h
def cfG (k : Nat) : CF := xcallK KG F 2000 k
theorem cfG_ok (k : Nat) : CFok Try.prog (cfG k) := xcallK_sound mixP KG_ok F_ok 2000 k
theorem cfG_KG {k f : Nat} {args : List AV} {H : AHeap} {r : AV × AHeap} (h : KG f args H = some r) : cfG k f args H = some r := by
  unfold cfG
  cases k with
  | zero => exact h
  | succ k => unfold xcallK; rw [h]
theorem cfG_step {k f : Nat} {fn : XFunc} {args : List AV} {H : AHeap} (hK : KG f args H = none) (hF : F f = some fn) : cfG (k + 1) f args H = xfunc (cfG k) 2000 fn args H := by
  unfold cfG
  rw [xcallK, hK, hF]
section
variable {k : Nat} {H : AHeap} {x : AV} {N : List Nat}
theorem g_17 : cfG k 17 [] H = some (.bool true, H) := cfG_KG rfl
theorem g_67 {m : Nat} (hm : m < 1024) : cfG k 67 [sA m] H = some (nA (cnt m), H) := cfG_KG (by
  show (if m < 1024 then some (nA (cnt m), H) else none) = _
  rw [if_pos hm])
theorem g_64 {m i : Nat} (hm : m < 1024) (hi : i < 10) : cfG k 64 [sA m, nA i] H = some (.bool (m.testBit i), H) := cfG_KG (by
  show (if m < 1024 ∧ i < 10 then some (AV.bool (m.testBit i), H) else none) = _
  rw [if_pos ⟨hm, hi⟩])
theorem g_24 {n : Nat} {M : List Nat} (h : cellsA H 1 x = some (M.length, M.map nA)) (h1 : 1 ≤ n) (h2 : n ≤ 1000) (hl : M.length ≤ 1000) : cfG k 24 [nA n, x] H = some (.bool (risB n M), H) := cfG_KG (by
  have e : KG 24 [nA n, x] H = (rowN H x).bind fun N => if 1 ≤ n ∧ n ≤ 1000 ∧ N.length ≤ 1000 then some (.bool (risB n N), H) else none := rfl
  rw [e, rowN_of h, Option.bind_some, if_pos ⟨h1, h2, hl⟩])
theorem g_25 {M : List Nat} (h : cellsA H 1 x = some (M.length, M.map nA)) (hl : M.length ≤ 1000) (hv : ∀ v ∈ M, v < 20) : cfG k 25 [x] H = some (nA (bitsN M), H) := cfG_KG (by
  have e : KG 25 [x] H = (rowN H x).bind fun N => if N.length ≤ 1000 ∧ (N.all fun v => Nat.blt v 20) = true then some (nA (bitsN N), H) else none := rfl
  rw [e, rowN_of h, Option.bind_some, if_pos ⟨hl, List.all_eq_true.2 fun v q => by simpa [Nat.blt_eq] using hv v q⟩])
end
theorem KG_clean : CleanCF KG := by
  intro f args H v H' h
  unfold KG at h
  split at h
  · simp only [Option.bind_eq_some_iff] at h
    obtain ⟨N, hN, h⟩ := h
    cases h; exact CleanTo.refl _
  · unfold KG1 at h
    split at h
    · simp only [Option.bind_eq_some_iff] at h
      obtain ⟨N, hN, h⟩ := h
      split at h
      · cases h; exact CleanTo.refl _
      · cases h
    · simp only [Option.bind_eq_some_iff] at h
      obtain ⟨N, hN, h⟩ := h
      split at h
      · cases h; exact CleanTo.refl _
      · cases h
    · simp only [Option.bind_eq_some_iff] at h
      obtain ⟨N, hN, M, hM, h⟩ := h
      split at h
      · cases h; exact CleanTo.refl _
      · cases h
    · simp only [Option.bind_eq_some_iff] at h
      obtain ⟨N, hN, M, hM, h⟩ := h
      split at h
      · cases h; exact CleanTo.refl _
      · cases h
    · simp only [Option.bind_eq_some_iff] at h
      obtain ⟨N, hN, h⟩ := h
      split at h
      · cases h; exact CleanTo.refl _
      · cases h
    · simp only [Option.bind_eq_some_iff] at h
      obtain ⟨c, hc, l, hl, h⟩ := h
      split at h
      · cases h; exact CleanTo.refl _
      · cases h
    · unfold KG0 at h
      split at h
      · cases h; exact CleanTo.refl _
      · simp only [Option.bind_eq_some_iff] at h
        obtain ⟨N, hN, M, hM, h⟩ := h
        split at h
        · cases h; exact CleanTo.refl _
        · cases h
      · cases h; exact CleanTo.refl _
      · cases h; exact CleanTo.refl _
      · simp only [Option.bind_eq_some_iff] at h
        obtain ⟨N, hN, h⟩ := h
        split at h
        · cases h; exact CleanTo.refl _
        · cases h
      · exact KB_clean _ _ _ _ _ h
theorem cfG_clean (k : Nat) : CleanCF (cfG k) := xcallK_clean KG_clean k
end Go.Proofs.Ytpbighinamljbaa.PA
namespace Go.Eng
theorem insAll_mem {α : Type} {x : α} : ∀ {l r : List α}, r ∈ insAll x l → r.Perm (x :: l)
  | [], r, h => by simp only [insAll, List.mem_singleton] at h; rw [h]
  | y :: l, r, h => by
    simp only [insAll, List.mem_cons, List.mem_map] at h
    rcases h with rfl | ⟨q, hq, rfl⟩
    · exact .refl _
    · exact ((insAll_mem hq).cons y).trans (.swap x y l)
theorem permsL_mem {α : Type} : ∀ {l r : List α}, r ∈ permsL l → r.Perm l
  | [], r, h => by simp only [permsL, List.mem_singleton] at h; rw [h]
  | x :: l, r, h => by
    simp only [permsL, List.mem_flatMap] at h
    obtain ⟨q, hq, hr⟩ := h
    exact (insAll_mem hr).trans ((permsL_mem hq).cons x)
theorem dropE_self (e : AV × AV) (l : List (AV × AV)) : dropE e (e :: l) = some l := by simp [dropE, AV.beq_refl]
theorem permEq_refl : ∀ l : List (AV × AV), permEq l l = true
  | [] => rfl
  | e :: l => by simp only [permEq, dropE_self]; exact permEq_refl l
theorem objEq_refl : ∀ o : Option AObj, objEq o o = true
  | none => rfl
  | some (.cells c o) => by simp [objEq, AV.beqL_refl]
  | some (.map es) => by simp [objEq, permEq_refl]
  | some (.lmap es t) => by simp [objEq, permEq_refl]
theorem objEq_none {o : Option AObj} (h : objEq none o = true) : o = none := by
  cases o with
  | none => rfl
  | some x => cases x <;> simp [objEq] at h
theorem objEq_none' {o : Option AObj} (h : objEq o none = true) : o = none := by
  cases o with
  | none => rfl
  | some x => cases x <;> simp [objEq] at h
theorem noneB_of {α : Type} : ∀ {t : Tr α}, (∀ k, t.get k = none) → t.noneB = true
  | .e, _ => rfl
  | .n l v r, h => by
    have h0 : v = none := by simpa [Tr.get] using h 0
    have hl : ∀ k, l.get k = none := fun k => by
      have := h (2 * k + 1)
      simp only [Tr.get] at this
      rwa [if_pos (by simp), show 2 * k / 2 = k by omega] at this
    have hr : ∀ k, r.get k = none := fun k => by
      have := h (2 * k + 1 + 1)
      simp only [Tr.get] at this
      rwa [if_neg (by simp), show (2 * k + 1) / 2 = k by omega] at this
    simp [Tr.noneB, noneB_of hl, noneB_of hr, h0]
theorem trEq_of : ∀ {t t' : Tr AObj}, (∀ k, objEq (t.get k) (t'.get k) = true) → trEq t t' = true
  | .e, t', h => by
    cases t' <;> exact noneB_of fun k => objEq_none (by have := h k; rwa [Tr.get_e] at this)
  | .n l v r, .e, h => noneB_of (t := .n l v r) fun k => objEq_none' (by have := h k; rwa [Tr.get_e] at this)
  | .n l v r, .n l' v' r', h => by
    have h0 : objEq v v' = true := by simpa [Tr.get] using h 0
    have hl : trEq l l' = true := trEq_of fun k => by
      have := h (2 * k + 1)
      simp only [Tr.get] at this
      rwa [if_pos (by simp), if_pos (by simp), show 2 * k / 2 = k by omega] at this
    have hr : trEq r r' = true := trEq_of fun k => by
      have := h (2 * k + 1 + 1)
      simp only [Tr.get] at this
      rwa [if_neg (by simp), if_neg (by simp), show (2 * k + 1) / 2 = k by omega] at this
    simp [trEq, h0, hl, hr]
theorem tmMeet_get : ∀ {t t' : Tr AV} {d : Nat} {v : AV}, t.get d = some v → t'.get d = some v → (tmMeet t t').get d = some v
  | .e, _, d, v, h, _ => by simp [Tr.get] at h
  | .n _ _ _, .e, d, v, _, h => by simp [Tr.get] at h
  | .n l x r, .n l' x' r', 0, v, h, h' => by
    simp only [Tr.get] at h h'
    simp only [tmMeet, Tr.get, h, h', AV.beq_refl, if_true]
  | .n l x r, .n l' x' r', d + 1, v, h, h' => by
    simp only [Tr.get] at h h'
    simp only [tmMeet, Tr.get]
    split
    · rename_i q
      rw [if_pos q] at h h'
      exact tmMeet_get h h'
    · rename_i q
      rw [if_neg q] at h h'
      exact tmMeet_get h h'
theorem meetR_ex : ∀ (l : List (Option (XE × St))) (s : St) (P : St → Prop), P s → (∀ q ∈ l, ∃ s', q = some (.normal, s') ∧ P s') → (∀ s s', P s → P s' → trEq s.H.m s'.H.m = true) →
    ∀ s0 : St, s0.H.m = s.H.m → s.H.next ≤ s0.H.next → (∀ d v, (∀ t, P t → t.tm.get d = some v) → s0.tm.get d = some v) →
    ∃ s1, meetR .normal s0 l = some (.normal, s1) ∧ s1.H.m = s.H.m ∧ s.H.next ≤ s1.H.next ∧ ∀ d v, (∀ t, P t → t.tm.get d = some v) → s1.tm.get d = some v
  | [], s, P, hs, _, _, s0, h1, h2, h3 => ⟨s0, rfl, h1, h2, h3⟩
  | q :: l, s, P, hs, hl, ht, s0, h1, h2, h3 => by
    obtain ⟨s', rfl, hs'⟩ := hl q (by simp)
    obtain ⟨s1, q1, q2, q3, q4⟩ := meetR_ex l s P hs (fun q hq => hl q (by simp [hq])) ht ⟨tmMeet s0.tm s'.tm, ⟨s0.H.m, Nat.max s0.H.next s'.H.next⟩⟩ h1 (Nat.le_trans h2 (Nat.le_max_left _ _)) (fun d v hd => tmMeet_get (h3 d v hd) (hd s' hs'))
    refine ⟨s1, ?_, q2, q3, q4⟩
    have e : (XE.beq .normal .normal && trEq s0.H.m s'.H.m) = true := by rw [h1, ht s s' hs hs']; rfl
    rw [meetR, if_pos e]
    exact q1
theorem meetAll_ex {l : List (Option (XE × St))} {P : St → Prop} (hne : l ≠ []) (hl : ∀ q ∈ l, ∃ s', q = some (.normal, s') ∧ P s') (ht : ∀ s s', P s → P s' → trEq s.H.m s'.H.m = true) :
    ∃ s s1, P s ∧ meetAll l = some (.normal, s1) ∧ s1.H.m = s.H.m ∧ s.H.next ≤ s1.H.next ∧ ∀ d v, (∀ t, P t → t.tm.get d = some v) → s1.tm.get d = some v := by
  cases l with
  | nil => exact absurd rfl hne
  | cons q l =>
    obtain ⟨s, rfl, hs⟩ := hl q (by simp)
    obtain ⟨s1, h⟩ := meetR_ex l s P hs (fun q hq => hl q (by simp [hq])) ht s rfl (Nat.le_refl _) (fun d v hd => hd s hs)
    exact ⟨s, s1, hs, h⟩
def notIn (a b : Nat) (l : KL0) : Bool := l.all fun p => !(Nat.beq p.1 a) && !(Nat.beq p.1 b)
theorem look_ne {l : KL0} {a b d : Nat} {v : AV} (h : notIn a b l = true) (hd : look l d = some v) : d ≠ a ∧ d ≠ b := by
  induction l with
  | nil => cases hd
  | cons p l ih =>
    obtain ⟨e, u⟩ := p
    simp only [notIn, List.all_cons, Bool.and_eq_true, Bool.not_eq_true'] at h
    unfold look at hd
    split at hd
    · rename_i q
      have : d = e := by simpa using q
      subst this
      obtain ⟨⟨h1, h2⟩, _⟩ := h
      exact ⟨fun w => by subst w; simp at h1, fun w => by subst w; simp at h2⟩
    · exact ih (by unfold notIn; exact h.2) hd
theorem Kw.drop {tm : Tr AV} {l : KL0} {a b : Nat} (h : Kw tm l) (hn : notIn a b l = true) : Kw ((tm.set a none).set b none) l := fun d v hd => by
  obtain ⟨h1, h2⟩ := look_ne hn hd
  rw [Tr.get_set_ne _ _ h2, Tr.get_set_ne _ _ h1]
  exact h d v hd
section
variable {cf : CF} {fuel : Nat}
theorem mrun_ex {i it t tl nx mo out : Nat} {rnd : AV × AV → St → Option (XE × St)} {es : List (AV × AV)} (L : List (AV × AV) → KL0) (I : List (AV × AV) → AHeap → Prop)
    (hlk : ∀ done H, I done H → isLock tl (H.get i) = true) (hit : ∀ done, look (L done) it = some (.ptr t 0)) (hnm : ∀ done, notIn nx mo (L done) = true)
    (hstep : ∀ done e todo, (done ++ e :: todo).Perm es → ∀ s, Kw s.tm (L done) → I done s.H → ∃ s', rnd e s = some (.normal, s') ∧ Kw s'.tm (L (done ++ [e])) ∧ I (done ++ [e]) s'.H) :
    ∀ (todo done : List (AV × AV)) (s : St), (done ++ todo).Perm es → Kw s.tm (L done) → I done s.H →
      ∃ s', mrun (fun s => isLock tl (s.H.get i) && isIt t (s.tm.get it)) (fun s => ⟨(s.tm.set nx none).set mo none, s.H⟩) rnd out todo s = some (.normal, s') ∧ Kw s'.tm (L (done ++ todo)) ∧ I (done ++ todo) s'.H
  | [], done, s, hp, hk, hI => by
    have hok : (isLock tl (s.H.get i) && isIt t (s.tm.get it)) = true := by rw [hlk done _ hI, hk _ _ (hit done)]; simp [isIt]
    refine ⟨⟨(s.tm.set nx none).set mo none, s.H⟩, by simp only [mrun, hok, if_true], ?_, by simpa using hI⟩
    rw [List.append_nil]
    exact hk.drop (hnm done)
  | e :: todo, done, s, hp, hk, hI => by
    have hok : (isLock tl (s.H.get i) && isIt t (s.tm.get it)) = true := by rw [hlk done _ hI, hk _ _ (hit done)]; simp [isIt]
    obtain ⟨s1, h1, h2, h3⟩ := hstep done e todo hp s hk hI
    obtain ⟨s', q1, q2, q3⟩ := mrun_ex L I hlk hit hnm hstep todo (done ++ [e]) s1 (by simpa using hp) h2 h3
    refine ⟨s', ?_, by simpa using q2, by simpa using q3⟩
    simp only [mrun, hok, if_true, h1]
    exact q1
theorem mrounds_ex {i it t tl nx mo out : Nat} {rnd : AV × AV → St → Option (XE × St)} {es : List (AV × AV)} {s : St} (L : List (AV × AV) → KL0) (I : List (AV × AV) → AHeap → Prop) (Lf : KL0)
    (hlk : ∀ done H, I done H → isLock tl (H.get i) = true) (hit : ∀ done, look (L done) it = some (.ptr t 0)) (hnm : ∀ done, notIn nx mo (L done) = true)
    (hstep : ∀ done e todo, (done ++ e :: todo).Perm es → ∀ s, Kw s.tm (L done) → I done s.H → ∃ s', rnd e s = some (.normal, s') ∧ Kw s'.tm (L (done ++ [e])) ∧ I (done ++ [e]) s'.H)
    (h0 : Kw s.tm (L [])) (hI0 : I [] s.H) (hmeet : ∀ r r' H H', r.Perm es → r'.Perm es → I r H → I r' H' → ∀ k, objEq (H.get k) (H'.get k) = true) (hf : ∀ r, r.Perm es → Sub (L r) Lf) :
    ∃ r H1 s1, r.Perm es ∧ I r H1 ∧ mrounds i it t tl nx mo out rnd es s = some (.normal, s1) ∧ s1.H.m = H1.m ∧ H1.next ≤ s1.H.next ∧ Kw s1.tm Lf := by
  have hall : ∀ q ∈ (permsL es).map (fun r => mrun (fun s => isLock tl (s.H.get i) && isIt t (s.tm.get it)) (fun s => ⟨(s.tm.set nx none).set mo none, s.H⟩) rnd out r s), ∃ s', q = some (.normal, s') ∧ ∃ r, r.Perm es ∧ Kw s'.tm (L r) ∧ I r s'.H := by
    intro q hq
    obtain ⟨r, hr, rfl⟩ := List.mem_map.1 hq
    obtain ⟨s', h1, h2, h3⟩ := mrun_ex (out := out) L I hlk hit hnm hstep r [] s (by simpa using permsL_mem hr) h0 hI0
    exact ⟨s', h1, r, permsL_mem hr, by simpa using h2, by simpa using h3⟩
  obtain ⟨s0, s1, ⟨r, p1, p2, p3⟩, q1, q2, q3, q4⟩ := meetAll_ex (P := fun s' => ∃ r, r.Perm es ∧ Kw s'.tm (L r) ∧ I r s'.H) (by
    intro w
    have := List.map_eq_nil_iff.1 w
    have hm := perms_mem (List.Perm.refl es)
    rw [this] at hm
    cases hm) hall (fun s s' ⟨r, a1, _, a3⟩ ⟨r', b1, _, b3⟩ => trEq_of (hmeet r r' _ _ a1 b1 a3 b3))
  exact ⟨r, s0.H, s1, p1, p3, q1, q2, q3, fun d v hd => q4 d v fun t ⟨r, a1, a2, _⟩ => a2 d v (hf r a1 d v hd)⟩
theorem WKO.use {ops : List XOper} {n : Nat} {l : KL0} {H : AHeap} {R : KL0 → AHeap → Prop} (h : WKO cf ops n l H R) {tm : Tr AV} (ht : Kw tm l) : ∃ s', xops cf ops n ⟨tm, H⟩ = some s' ∧ ∃ l', Kw s'.tm l' ∧ R l' s'.H := by
  unfold WKO at h
  have := h tm ht
  unfold WO at this
  exact this
theorem WK.use {c : XCode} {l : KL0} {H : AHeap} {Q : XE → KL0 → AHeap → Prop} (h : WK cf fuel c l H Q) {tm : Tr AV} (ht : Kw tm l) : ∃ e s', xcode cf fuel c ⟨tm, H⟩ = some (e, s') ∧ ∃ l', Kw s'.tm l' ∧ Q e l' s'.H := by
  unfold WK at h
  have := h tm ht
  unfold W at this
  exact this
def rndF (cf : CF) (fuel : Nat) (nx mo pr nb : Nat) (rest : List XOper) (code : XCode) (e : AV × AV) (s : St) : Option (XE × St) :=
  match xops cf rest (s.H.next + 1) (Go.Eng.bump ⟨((s.tm.set nx none).set mo none).set pr (some (.tup [e.1, e.2])), s.H⟩ (rest.length + 1)) with
  | none => none
  | some s2 => match xcode cf fuel code s2 with
    | some (.exit i, s3) => if i = nb then some (.normal, s3) else some (.exit i, s3)
    | r => r
theorem rnd_ex {nx mo pr nb k : Nat} {rest : List XOper} {code : XCode} {e : AV × AV} {s : St} {L : KL0} {Q : KL0 → AHeap → Prop} (hk : Kw s.tm L) (hnm : notIn nx mo L = true) (hlen : rest.length + 1 = k)
    (h : WKO cf rest (s.H.next + 1) ((pr, .tup [e.1, e.2]) :: L) (s.H.bump k) fun l3 H3 => WK cf fuel code l3 H3 fun x l4 H4 => (x = .normal ∨ x = .exit nb) ∧ Q l4 H4) :
    ∃ s', rndF cf fuel nx mo pr nb rest code e s = some (.normal, s') ∧ ∃ l4, Kw s'.tm l4 ∧ Q l4 s'.H := by
  subst hlen
  obtain ⟨s2, q1, l3, q2, q3⟩ := h.use ((hk.drop hnm).set pr _)
  obtain ⟨x, s3, r1, l4, r2, r3, r4⟩ := q3.use q2
  refine ⟨s3, ?_, l4, r2, r4⟩
  have q1' : xops cf rest (s.H.next + 1) (Go.Eng.bump ⟨((s.tm.set nx none).set mo none).set pr (some (.tup [e.1, e.2])), s.H⟩ (rest.length + 1)) = some s2 := q1
  have r1' : xcode cf fuel code s2 = some (x, s3) := r1
  unfold rndF
  simp only [q1', r1']
  rcases r3 with rfl | rfl <;> simp
theorem WK.mrange {pre rest : List XOper} {it : Nat} {m : XO} {out nx mo nb pr k k' : Nat} {code : XCode} {l : KL0} {H : AHeap} {Q : XE → KL0 → AHeap → Prop} (hlen : pre.length + 1 = k) (hlen' : rest.length + 1 = k')
    (h : WKO cf pre H.next l (H.bump k) fun l1 H1 => ∃ (i : Nat) (es : List (AV × AV)) (L : List (AV × AV) → KL0) (I : List (AV × AV) → AHeap → Prop) (Lf : KL0), evK l1 m = some (.map i) ∧ H1.get i = some (.map es) ∧
      Sub ((it, .ptr H1.next 0) :: l1) (L []) ∧ I [] ⟨H1.m.set i (some (.lmap es H1.next)), H1.next + 1⟩ ∧
      (∀ done H2, I done H2 → H2.get i = some (.lmap es H1.next)) ∧ (∀ done, look (L done) it = some (.ptr H1.next 0)) ∧ (∀ done, notIn nx mo (L done) = true) ∧
      (∀ done e todo, (done ++ e :: todo).Perm es → ∀ H2, I done H2 → WKO cf rest (H2.next + 1) ((pr, .tup [e.1, e.2]) :: L done) (H2.bump k') fun l3 H3 => WK cf fuel code l3 H3 fun x l4 H4 => (x = .normal ∨ x = .exit nb) ∧ Sub l4 (L (done ++ [e])) ∧ I (done ++ [e]) H4) ∧
      (∀ r r' H2 H3, r.Perm es → r'.Perm es → I r H2 → I r' H3 → ∀ j, objEq (H2.get j) (H3.get j) = true) ∧ (∀ r, r.Perm es → Sub (L r) Lf) ∧
      (∀ r H2 H3, r.Perm es → I r H2 → (∀ j, H3.get j = if j = i then some (.map es) else H2.get j) → H2.next ≤ H3.next → Q .normal Lf H3)) :
    WK cf fuel (.mrange pre it m out nx mo nb pr rest code) l H Q := by
  subst hlen
  unfold WK
  intro tm ht
  obtain ⟨s1, q1, l1, q2, i, es, L, I, Lf, hm, hi, hs0, hI0, hlk, hit, hnm, hstep, hmeet, hf, hQ⟩ := h.use ht
  obtain ⟨r, H1, s2, p1, p2, p3, p4, p5, p6⟩ := mrounds_ex (out := out) (i := i) (t := s1.H.next) (tl := s1.H.next) (rnd := rndF cf fuel nx mo pr nb rest code) (s := ⟨s1.tm.set it (some (.ptr s1.H.next 0)), ⟨s1.H.m.set i (some (.lmap es s1.H.next)), s1.H.next + 1⟩⟩) L I Lf
    (fun done H2 q => by rw [hlk done H2 q]; simp [isLock]) hit hnm (fun done e todo hp s hk hI => by
      obtain ⟨s', a1, l4, a2, a3, a4⟩ := rnd_ex hk (hnm done) hlen' (hstep done e todo hp s.H hI)
      exact ⟨s', a1, a2.sub a3, a4⟩) ((q2.set it _).sub hs0) hI0 hmeet hf
  have hget : s2.H.get i = some (.lmap es s1.H.next) := by
    unfold AHeap.get
    rw [p4]
    exact hlk r H1 p2
  unfold W
  refine ⟨.normal, ⟨s2.tm, s2.H.set i (some (.map es))⟩, ?_, Lf, p6, hQ r H1 _ p1 p2 (fun j => ?_) p5⟩
  · have q1' : xops cf pre H.next (Go.Eng.bump ⟨tm, H⟩ (pre.length + 1)) = some s1 := q1
    have p3' : mrounds i it s1.H.next s1.H.next nx mo out (fun (e : AV × AV) (s : St) =>
        match xops cf rest (s.H.next + 1) (Go.Eng.bump ⟨((s.tm.set nx none).set mo none).set pr (some (.tup [e.1, e.2])), s.H⟩ (rest.length + 1)) with
        | none => none
        | some s2 => match xcode cf fuel code s2 with
          | some (.exit i, s3) => if i = nb then some (.normal, s3) else some (.exit i, s3)
          | r => r) es ⟨s1.tm.set it (some (.ptr s1.H.next 0)), ⟨s1.H.m.set i (some (.lmap es s1.H.next)), s1.H.next + 1⟩⟩ = some (.normal, s2) := p3
    simp only [xcode, q1', q2.ev hm, hi]
    refine (congrArg (fun z => z.bind (unlockA i s1.H.next)) p3').trans ?_
    show unlockA i s1.H.next (.normal, s2) = _
    simp only [unlockA, hget, if_true]
  · rw [AHeap.get_set]
    split
    · rfl
    · unfold AHeap.get
      rw [p4]
theorem WK.mrangeL {pre rest : List XOper} {it : Nat} {m : XO} {out nx mo nb pr k k' : Nat} {code : XCode} {l : KL0} {H : AHeap} {Q : XE → KL0 → AHeap → Prop} (hlen : pre.length + 1 = k) (hlen' : rest.length + 1 = k')
    (h : WKO cf pre H.next l (H.bump k) fun l1 H1 => ∃ (i tl : Nat) (es : List (AV × AV)) (L : List (AV × AV) → KL0) (Lf : KL0), evK l1 m = some (.map i) ∧ H1.get i = some (.lmap es tl) ∧
      Sub ((it, .ptr H1.next 0) :: l1) (L []) ∧ (∀ done, look (L done) it = some (.ptr H1.next 0)) ∧ (∀ done, notIn nx mo (L done) = true) ∧
      (∀ done e todo, (done ++ e :: todo).Perm es → ∀ H2 : AHeap, H2.m = H1.m → H1.next ≤ H2.next → WKO cf rest (H2.next + 1) ((pr, .tup [e.1, e.2]) :: L done) (H2.bump k') fun l3 H3 => WK cf fuel code l3 H3 fun x l4 H4 => (x = .normal ∨ x = .exit nb) ∧ Sub l4 (L (done ++ [e])) ∧ H4.m = H1.m ∧ H1.next ≤ H4.next) ∧
      (∀ r, r.Perm es → Sub (L r) Lf) ∧ (∀ H3 : AHeap, H3.m = H1.m → H1.next ≤ H3.next → Q .normal Lf H3)) :
    WK cf fuel (.mrange pre it m out nx mo nb pr rest code) l H Q := by
  subst hlen
  unfold WK
  intro tm ht
  obtain ⟨s1, q1, l1, q2, i, tl, es, L, Lf, hm, hi, hs0, hit, hnm, hstep, hf, hQ⟩ := h.use ht
  have hg : ∀ H2 : AHeap, H2.m = s1.H.m → ∀ j, H2.get j = s1.H.get j := fun H2 q j => by unfold AHeap.get; rw [q]
  obtain ⟨r, H1, s2, p1, p2, p3, p4, p5, p6⟩ := mrounds_ex (out := out) (i := i) (t := s1.H.next) (tl := tl) (rnd := rndF cf fuel nx mo pr nb rest code) (s := ⟨s1.tm.set it (some (.ptr s1.H.next 0)), ⟨s1.H.m, s1.H.next + 1⟩⟩) L (fun _ H2 => H2.m = s1.H.m ∧ s1.H.next ≤ H2.next) Lf
    (fun done H2 q => by rw [hg H2 q.1, hi]; simp [isLock]) hit hnm (fun done e todo hp s hk hI => by
      obtain ⟨s', a1, l4, a2, a3, a4⟩ := rnd_ex hk (hnm done) hlen' (hstep done e todo hp s.H hI.1 hI.2)
      exact ⟨s', a1, a2.sub a3, a4⟩) ((q2.set it _).sub hs0) ⟨rfl, Nat.le_succ _⟩ (fun r r' H2 H3 _ _ a b j => by rw [hg H2 a.1, hg H3 b.1]; exact objEq_refl _) hf
  unfold W
  refine ⟨.normal, s2, ?_, Lf, p6, hQ s2.H (p4.trans p2.1) (Nat.le_trans p2.2 p5)⟩
  have q1' : xops cf pre H.next (Go.Eng.bump ⟨tm, H⟩ (pre.length + 1)) = some s1 := q1
  have p3' : mrounds i it s1.H.next tl nx mo out (fun (e : AV × AV) (s : St) =>
      match xops cf rest (s.H.next + 1) (Go.Eng.bump ⟨((s.tm.set nx none).set mo none).set pr (some (.tup [e.1, e.2])), s.H⟩ (rest.length + 1)) with
      | none => none
      | some s2 => match xcode cf fuel code s2 with
        | some (.exit i, s3) => if i = nb then some (.normal, s3) else some (.exit i, s3)
        | r => r) es ⟨s1.tm.set it (some (.ptr s1.H.next 0)), ⟨s1.H.m, s1.H.next + 1⟩⟩ = some (.normal, s2) := p3
  simp only [xcode, q1', q2.ev hm, hi]
  exact p3'
end
end Go.Eng
namespace Go.Eng
structure HF (H0 : AHeap) (mod : List Nat) (T : Nat) (fs : List (Nat × AObj)) (H : AHeap) : Prop where
  obj : ∀ p ∈ fs, H.get p.1 = some p.2
  lt : ∀ p ∈ fs, p.1 < T
  nd : (fs.map (·.1)).Nodup
  base : H0.next ≤ T
  le : T ≤ H.next
  fr : ∀ k, k < H0.next → k ∉ mod → H.get k = H0.get k
section
variable {cf : CF} {n : Nat} {H0 H H' : AHeap} {mod : List Nat} {T : Nat} {fs : List (Nat × AObj)} {l : KL0} {x y : XO} {r : List XOper} {R : KL0 → AHeap → Prop}
theorem HF.up (h : HF H0 mod T fs H) (hm : H'.m = H.m) (hn : H.next ≤ H'.next) : HF H0 mod T fs H' := by
  have hg : ∀ k, H'.get k = H.get k := fun k => by unfold AHeap.get; rw [hm]
  exact ⟨fun p hp => (hg _).trans (h.obj p hp), h.lt, h.nd, h.base, Nat.le_trans h.le hn, fun k h1 h2 => (hg k).trans (h.fr k h1 h2)⟩
theorem HF.sub {gs : List (Nat × AObj)} {T' : Nat} (h : HF H0 mod T fs H) (hs : gs.Sublist fs) (hT : T ≤ T') (hn : T' ≤ H.next) : HF H0 mod T' gs H :=
  ⟨fun p hp => h.obj p (hs.subset hp), fun p hp => Nat.lt_of_lt_of_le (h.lt p (hs.subset hp)) hT, h.nd.sublist (hs.map _), Nat.le_trans h.base hT, hn, h.fr⟩
theorem HF.call {mod' : List Nat} (h : HF H0 mod T fs H) (hf : ∀ k, k < H.next → k ∉ mod' → H'.get k = H.get k) (hn : H.next ≤ H'.next) (hm : ∀ k, k ∈ mod' → k ∈ mod ∨ H0.next ≤ k) (hd : ∀ p ∈ fs, p.1 ∉ mod') : HF H0 mod T fs H' :=
  ⟨fun p hp => (hf _ (Nat.lt_of_lt_of_le (h.lt p hp) h.le) (hd p hp)).trans (h.obj p hp), h.lt, h.nd, h.base, Nat.le_trans h.le hn, fun k h1 h2 => (hf k (Nat.lt_of_lt_of_le h1 (Nat.le_trans h.base h.le)) (fun w => by
    rcases hm k w with w | w
    · exact h2 w
    · omega)).trans (h.fr k h1 h2)⟩
theorem HF.add {i : Nat} {o : AObj} (h : HF H0 mod T fs H) (hg : H.get i = some o) (hi : i < T) (hn : i ∉ fs.map (·.1)) : HF H0 mod T ((i, o) :: fs) H where
  obj := fun p hp => by
    rcases List.mem_cons.1 hp with rfl | hp
    · exact hg
    · exact h.obj p hp
  lt := fun p hp => by
    rcases List.mem_cons.1 hp with rfl | hp
    · exact hi
    · exact h.lt p hp
  nd := by rw [List.map_cons, List.nodup_cons]; exact ⟨hn, h.nd⟩
  base := h.base
  le := h.le
  fr := h.fr
theorem HF.new {o : AObj} {H1 : AHeap} (h : HF H0 mod T fs H) (hT : T ≤ n) (hn : n < H1.next) (h1 : H1.get n = some o) (h2 : ∀ k, k ≠ n → H1.get k = H.get k) : HF H0 mod (n + 1) ((n, o) :: fs) H1 where
  obj := fun p hp => by
    rcases List.mem_cons.1 hp with rfl | hp
    · exact h1
    · rw [h2 _ (by have := h.lt p hp; omega)]; exact h.obj p hp
  lt := fun p hp => by
    rcases List.mem_cons.1 hp with rfl | hp
    · exact Nat.lt_succ_self _
    · have := h.lt p hp; omega
  nd := by
    rw [List.map_cons, List.nodup_cons]
    refine ⟨fun w => ?_, h.nd⟩
    obtain ⟨p, hp, e⟩ := List.mem_map.1 w
    have := h.lt p hp
    simp only at e
    omega
  base := by have := h.base; omega
  le := hn
  fr := fun k hk hm => (h2 k (by have := h.base; omega)).trans (h.fr k hk hm)
theorem HF.put {gs : List (Nat × AObj)} {i : Nat} {o o' : AObj} {H1 : AHeap} (h : HF H0 mod T (gs ++ (i, o) :: fs) H) (hi : i ∈ mod ∨ H0.next ≤ i) (hn : H1.next = H.next) (h1 : H1.get i = some o') (h2 : ∀ k, k ≠ i → H1.get k = H.get k) : HF H0 mod T (gs ++ (i, o') :: fs) H1 where
  obj := fun p hp => by
    have hnd := h.nd
    rw [List.map_append, List.map_cons, List.nodup_append] at hnd
    obtain ⟨_, nd2, nd3⟩ := hnd
    rw [List.nodup_cons] at nd2
    rcases List.mem_append.1 hp with hp | hp
    · rw [h2 _ (fun e => nd3 _ (List.mem_map.2 ⟨p, hp, rfl⟩) _ (List.mem_cons_self ..) e)]
      exact h.obj p (List.mem_append.2 (.inl hp))
    · rcases List.mem_cons.1 hp with rfl | hp
      · exact h1
      · rw [h2 _ (fun e => nd2.1 (List.mem_map.2 ⟨p, hp, e⟩))]
        exact h.obj p (List.mem_append.2 (.inr (List.mem_cons_of_mem _ hp)))
  lt := fun p hp => by
    rcases List.mem_append.1 hp with hp | hp
    · exact h.lt p (List.mem_append.2 (.inl hp))
    · rcases List.mem_cons.1 hp with rfl | hp
      · exact h.lt (i, o) (List.mem_append.2 (.inr (List.mem_cons_self ..)))
      · exact h.lt p (List.mem_append.2 (.inr (List.mem_cons_of_mem _ hp)))
  nd := by
    have := h.nd
    rwa [List.map_append, List.map_cons] at this ⊢
  base := h.base
  le := by rw [hn]; exact h.le
  fr := fun k hk hm => (h2 k (fun e => by
    subst e
    rcases hi with hi | hi
    · exact hm hi
    · omega)).trans (h.fr k hk hm)
theorem k_ldO {i p : Nat} {c : List AV} {opn : Option Nat} {v : AV} (hx : evK l x = some (.ptr i p)) (hF : HF H0 mod T fs H) (hm : H'.m = H.m) (ho : (i, .cells c opn) ∈ fs) (hc : c[p]? = some v) : XV cf l H' n (.load none x) = some (v, H') :=
  k_any (op_loadc hx (by unfold AHeap.get; rw [hm]; exact hF.obj _ ho) hc)
theorem WKO.newO {d : Nat} {op : XOp} {v : AV} {o : AObj} (hop : xval cf (evK l) H' n op = some (v, H'.set n (some o))) (ha : allSm l op.opnds = true) (hF : HF H0 mod T fs H) (hm : H'.m = H.m) (hn : H.next ≤ H'.next) (hT : T ≤ n) (hlt : n < H'.next)
    (k : ∀ H1, HF H0 mod (n + 1) ((n, o) :: fs) H1 → H1.next = H'.next → WKO cf r (n + 1) ((d, v) :: l) H1 R) : WKO cf (⟨some d, op, none⟩ :: r) n l H' R :=
  WKO.op (k_any hop) ha (k (H'.set n (some o)) ((hF.up hm hn).new hT (by rw [next_set]; exact hlt) (by rw [AHeap.get_set, if_pos rfl]) (fun k hk => by rw [AHeap.get_set, if_neg hk])) rfl)
theorem WKO.boxO {d : Nat} {v : AV} (hx : evK l x = some v) (hF : HF H0 mod T fs H) (hm : H'.m = H.m) (hn : H.next ≤ H'.next) (hT : T ≤ n) (hlt : n < H'.next)
    (k : ∀ H1, HF H0 mod (n + 1) ((n, .cells v.cells none) :: fs) H1 → H1.next = H'.next → WKO cf r (n + 1) ((d, .ptr n 0) :: l) H1 R) : WKO cf (⟨some d, .box x, none⟩ :: r) n l H' R :=
  WKO.newO (op := .box x) (by simp only [xval, xop, hx]) (by simp [allSm, XOp.opnds, hx]) hF hm hn hT hlt k
theorem WKO.alO {d : Nat} {z : List AV} (hF : HF H0 mod T fs H) (hm : H'.m = H.m) (hn : H.next ≤ H'.next) (hT : T ≤ n) (hlt : n < H'.next)
    (k : ∀ H1, HF H0 mod (n + 1) ((n, .cells z none) :: fs) H1 → H1.next = H'.next → WKO cf r (n + 1) ((d, .ptr n 0) :: l) H1 R) : WKO cf (⟨some d, .alloc z, none⟩ :: r) n l H' R :=
  WKO.newO (op := .alloc z) (by simp only [xval, xop]) rfl hF hm hn hT hlt k
theorem WKO.mapO {d : Nat} (hF : HF H0 mod T fs H) (hm : H'.m = H.m) (hn : H.next ≤ H'.next) (hT : T ≤ n) (hlt : n < H'.next)
    (k : ∀ H1, HF H0 mod (n + 1) ((n, .map []) :: fs) H1 → H1.next = H'.next → WKO cf r (n + 1) ((d, .map n) :: l) H1 R) : WKO cf (⟨some d, .mkmap, none⟩ :: r) n l H' R :=
  WKO.newO (op := .mkmap) (by simp only [xval, xop]) rfl hF hm hn hT hlt k
theorem WKO.bsO {d m : Nat} {z new : List AV} {ps : List (Nat × Nat × XO)} (hps : (evParts (evK l) ps).bind (fillA (List.replicate m z).flatten) = some new) (ha : allSm l (XOp.bslice z ps m).opnds = true) (hF : HF H0 mod T fs H) (hm : H'.m = H.m) (hn : H.next ≤ H'.next) (hT : T ≤ n) (hlt : n < H'.next)
    (k : ∀ H1, HF H0 mod (n + 1) ((n, .cells new none) :: fs) H1 → H1.next = H'.next → WKO cf r (n + 1) ((d, .sl n 0 m m) :: l) H1 R) : WKO cf (⟨some d, .bslice z ps m, none⟩ :: r) n l H' R :=
  WKO.newO (op := .bslice z ps m) (by simp only [xval, xop, hps]) ha hF hm hn hT hlt k
theorem WKO.stG {gs : List (Nat × AObj)} {i p m : Nat} {c : List AV} {opn : Option Nat} {v : AV} {a x : XO} (ha : evK l a = some (.ptr i p)) (hx : evK l x = some v) (hF : HF H0 mod T (gs ++ (i, .cells c opn) :: fs) H) (hm : H'.m = H.m) (hn : H.next ≤ H'.next) (hi : i ∈ mod ∨ H0.next ≤ i) (hl : v.cells.length = m) (h1 : v.cells.all AV.oneCell = true) (hf : p + m ≤ c.length)
    (k : ∀ H1, HF H0 mod T (gs ++ (i, .cells (overA c p v.cells) opn) :: fs) H1 → H1.next = H'.next → WKO cf r (n + 1) l H1 R) : WKO cf (⟨none, .store m a x, none⟩ :: r) n l H' R := by
  have hF' := hF.up hm hn
  unfold WKO at k ⊢
  intro tm ht
  exact WO.store (ht.ev ha) (ht.ev hx) (hF'.obj (i, _) (List.mem_append.2 (.inr (List.mem_cons_self ..)))) hl h1 hf (fun H1 q1 q2 q3 => k H1 (hF'.put hi q3 q1 q2) q3 tm ht)
theorem WKO.stO0 {i p m : Nat} {c : List AV} {opn : Option Nat} {v : AV} {a x : XO} (ha : evK l a = some (.ptr i p)) (hx : evK l x = some v) (hF : HF H0 mod T ((i, .cells c opn) :: fs) H) (hm : H'.m = H.m) (hn : H.next ≤ H'.next) (hi : i ∈ mod ∨ H0.next ≤ i) (hl : v.cells.length = m) (h1 : v.cells.all AV.oneCell = true) (hf : p + m ≤ c.length)
    (k : ∀ H1, HF H0 mod T ((i, .cells (overA c p v.cells) opn) :: fs) H1 → H1.next = H'.next → WKO cf r (n + 1) l H1 R) : WKO cf (⟨none, .store m a x, none⟩ :: r) n l H' R :=
  WKO.stG (gs := []) ha hx hF hm hn hi hl h1 hf k
theorem WKO.stO1 {f1 : Nat × AObj} {i p m : Nat} {c : List AV} {opn : Option Nat} {v : AV} {a x : XO} (ha : evK l a = some (.ptr i p)) (hx : evK l x = some v) (hF : HF H0 mod T (f1 :: (i, .cells c opn) :: fs) H) (hm : H'.m = H.m) (hn : H.next ≤ H'.next) (hi : i ∈ mod ∨ H0.next ≤ i) (hl : v.cells.length = m) (h1 : v.cells.all AV.oneCell = true) (hf : p + m ≤ c.length)
    (k : ∀ H1, HF H0 mod T (f1 :: (i, .cells (overA c p v.cells) opn) :: fs) H1 → H1.next = H'.next → WKO cf r (n + 1) l H1 R) : WKO cf (⟨none, .store m a x, none⟩ :: r) n l H' R :=
  WKO.stG (gs := [f1]) ha hx hF hm hn hi hl h1 hf k
theorem WKO.stO2 {f1 f2 : Nat × AObj} {i p m : Nat} {c : List AV} {opn : Option Nat} {v : AV} {a x : XO} (ha : evK l a = some (.ptr i p)) (hx : evK l x = some v) (hF : HF H0 mod T (f1 :: f2 :: (i, .cells c opn) :: fs) H) (hm : H'.m = H.m) (hn : H.next ≤ H'.next) (hi : i ∈ mod ∨ H0.next ≤ i) (hl : v.cells.length = m) (h1 : v.cells.all AV.oneCell = true) (hf : p + m ≤ c.length)
    (k : ∀ H1, HF H0 mod T (f1 :: f2 :: (i, .cells (overA c p v.cells) opn) :: fs) H1 → H1.next = H'.next → WKO cf r (n + 1) l H1 R) : WKO cf (⟨none, .store m a x, none⟩ :: r) n l H' R :=
  WKO.stG (gs := [f1, f2]) ha hx hF hm hn hi hl h1 hf k
theorem WKO.updG {gs : List (Nat × AObj)} {i : Nat} {K : KT} {key v : AV} {es es' : List (AV × AV)} {ls : List Lit} {a x y : XO} (ha : evK l a = some (.map i)) (hx : evK l x = some key) (hy : evK l y = some v) (hF : HF H0 mod T (gs ++ (i, .map es) :: fs) H) (hm : H'.m = H.m) (hn : H.next ≤ H'.next) (hi : i ∈ mod ∨ H0.next ≤ i) (hk : keyA K key = some ls) (hu : updE K ls key v es = some es')
    (k : ∀ H1, HF H0 mod T (gs ++ (i, .map es') :: fs) H1 → H1.next = H'.next → WKO cf r (n + 1) l H1 R) : WKO cf (⟨none, .upd K a x y, none⟩ :: r) n l H' R := by
  have hF' := hF.up hm hn
  have hg := hF'.obj (i, .map es) (List.mem_append.2 (.inr (List.mem_cons_self ..)))
  exact WKO.opn (v := undefA) (H1 := H'.set i (some (.map es'))) (k_any (by simp only [xval, xop, ha, hx, hy, hg, hk, hu])) (by simp [allSm, XOp.opnds, ha, hx, hy]) (k _ (hF'.put hi rfl (by rw [AHeap.get_set, if_pos rfl]) (fun k hk => by rw [AHeap.get_set, if_neg hk])) rfl)
theorem WKO.updO0 {i : Nat} {K : KT} {key v : AV} {es es' : List (AV × AV)} {ls : List Lit} {a x y : XO} (ha : evK l a = some (.map i)) (hx : evK l x = some key) (hy : evK l y = some v) (hF : HF H0 mod T ((i, .map es) :: fs) H) (hm : H'.m = H.m) (hn : H.next ≤ H'.next) (hi : i ∈ mod ∨ H0.next ≤ i) (hk : keyA K key = some ls) (hu : updE K ls key v es = some es')
    (k : ∀ H1, HF H0 mod T ((i, .map es') :: fs) H1 → H1.next = H'.next → WKO cf r (n + 1) l H1 R) : WKO cf (⟨none, .upd K a x y, none⟩ :: r) n l H' R :=
  WKO.updG (gs := []) ha hx hy hF hm hn hi hk hu k
end
end Go.Eng
namespace Go.Proofs.Ytpbighinamljbaa.PA
open Go Go.Eng Go.Proofs
def RdR (z : Nat) (H : AHeap) (X : AV) (len : Nat) (cs : List AV) : Prop :=
  cs.length = len * z ∧ ((∃ f, X = .imm cs len f) ∨ (X = .nils ∧ len = 0) ∨ ∃ i c full opn, X = .sl i 0 len c ∧ i < H.next ∧ H.get i = some (.cells full opn) ∧ full.take (len * z) = cs ∧ len * z ≤ full.length)
theorem RdR.of {z len : Nat} {H : AHeap} {X : AV} {cs : List AV} (h : RowE z H X len cs) : RdR z H X len cs := by
  refine ⟨h.csl, ?_⟩
  rcases h with ⟨h0, ⟨rfl, rfl⟩ | ⟨i, full, rfl, h1, h2, h3, h4⟩⟩ | ⟨rfl, rfl, i, rfl, h1, h2⟩
  · exact .inr (.inl ⟨rfl, rfl⟩)
  · exact .inr (.inr ⟨i, _, full, _, rfl, h4, h1, h2, h3⟩)
  · exact .inr (.inr ⟨i, _, _, _, rfl, h1, h2, by simp, by simp⟩)
theorem RdR.imm {z len : Nat} {H : AHeap} {cs : List AV} {f : Bool} (h : cs.length = len * z) : RdR z H (.imm cs len f) len cs := ⟨h, .inl ⟨f, rfl⟩⟩
theorem RdR.frame {z len : Nat} {H H' : AHeap} {X : AV} {cs : List AV} (h : RdR z H X len cs) (hn : H.next ≤ H'.next) (hg : ∀ i, X.own = some i → H'.get i = H.get i) : RdR z H' X len cs := by
  obtain ⟨h0, h⟩ := h
  refine ⟨h0, ?_⟩
  rcases h with h | h | ⟨i, c, full, opn, rfl, h1, h2, h3, h4⟩
  · exact .inl h
  · exact .inr (.inl h)
  · exact .inr (.inr ⟨i, c, full, opn, rfl, by omega, (hg i rfl).trans h2, h3, h4⟩)
theorem RdR.own_lt {z len : Nat} {H : AHeap} {X : AV} {cs : List AV} (h : RdR z H X len cs) {i : Nat} (hi : X.own = some i) : i < H.next := by
  rcases h with ⟨_, ⟨f, rfl⟩ | ⟨rfl, _⟩ | ⟨j, c, full, opn, rfl, h1, _⟩⟩
  · cases hi
  · cases hi
  · cases hi; exact h1
theorem RdR.len {z len : Nat} {H : AHeap} {X : AV} {cs : List AV} (h : RdR z H X len cs) : lenN X = some len := by
  rcases h with ⟨_, ⟨f, rfl⟩ | ⟨rfl, rfl⟩ | ⟨j, c, full, opn, rfl, h1, _⟩⟩ <;> rfl
def adE (X : AV) (p : Nat) : AV := match X with
  | .imm cs _ _ => .iptr cs p
  | .sl i o _ _ => .ptr i (o + p)
  | _ => undefA
section
variable {cf : CF} {n : Nat} {H0 H H' : AHeap} {mod : List Nat} {T : Nat} {fs : List (Nat × AObj)} {l : KL0} {x y : XO} {z len a p : Nat} {X : AV} {cs : List AV}
theorem k_lenE (hx : evK l x = some X) (hE : RdR z H0 X len cs) : XV cf l H n (.len x) = some (nA len, H) := k_lenL hx hE.len
theorem k_iaE (hx : evK l x = some X) (hy : evK l y = some (nA a)) (hE : RdR z H0 X len cs) (h : a < len) : XV cf l H n (.iaddr z x y) = some (adE X (a * z), H) :=
  k_any (op_ia hx hy (by
    show iaddrA z X (.int .i64 (a : Int)) = _
    rcases hE with ⟨_, ⟨f, rfl⟩ | ⟨rfl, rfl⟩ | ⟨j, c, full, opn, rfl, h1, _⟩⟩
    · simp only [iaddrA, idxOk_lt h, if_true, Int.toNat_natCast]; rfl
    · omega
    · simp only [iaddrA, idxOk_lt h, if_true, Int.toNat_natCast]; rfl))
theorem k_faE {o : Nat} (hx : evK l x = some (adE X p)) (hE : RdR z H0 X len cs) (h : p < len * z) : XV cf l H n (.faddr o x) = some (adE X (p + o), H) :=
  k_any (by
    rcases hE with ⟨_, ⟨f, rfl⟩ | ⟨rfl, rfl⟩ | ⟨j, c, full, opn, rfl, h1, _⟩⟩
    · exact op_faddrI hx
    · omega
    · have := op_faddr (cf := cf) (H := H) (n := n) (o := o) hx
      rw [this]
      show some (AV.ptr j (0 + p + o), H) = some (AV.ptr j (0 + (p + o)), H)
      rw [Nat.add_assoc])
theorem RdR.at {X : AV} (hE : RdR z H0 X len cs) (hF : ∀ i, X.own = some i → H'.get i = H0.get i) (h : p < len * z) : ∃ c, cellsAt H' (adE X p) = some c ∧ c.take (len * z - p) = cs.drop p := by
  rcases hE with ⟨h0, ⟨f, rfl⟩ | ⟨rfl, rfl⟩ | ⟨j, c, full, opn, rfl, h1, h2, h3, h4⟩⟩
  · refine ⟨cs.drop p, rfl, ?_⟩
    rw [List.take_of_length_le (by rw [List.length_drop]; omega)]
  · omega
  · refine ⟨full.drop p, ?_, ?_⟩
    · simp only [adE, cellsAt, hF j rfl, h2, Nat.zero_add]
    · rw [← h3, List.drop_take]
theorem k_ldE {v : AV} (hx : evK l x = some (adE X p)) (hE : RdR z H0 X len cs) (hF : HF H0 mod T fs H) (hm : H'.m = H.m) (hmod : ∀ i, X.own = some i → i ∉ mod) (h : cs[p]? = some v) : XV cf l H' n (.load none x) = some (v, H') := by
  have hp : p < len * z := by
    obtain ⟨hh, _⟩ := List.getElem?_eq_some_iff.1 h
    rw [hE.1] at hh
    exact hh
  obtain ⟨c, h1, h2⟩ := hE.at (H' := H') (fun i hi => by
    have : H'.get i = H.get i := by unfold AHeap.get; rw [hm]
    rw [this]
    exact hF.fr i (hE.own_lt hi) (hmod i hi)) hp
  refine k_load hx ?_
  have h3 : c[0]? = some v := by
    have : (c.take (len * z - p))[0]? = some v := by rw [h2, List.getElem?_drop, Nat.add_zero, h]
    rw [List.getElem?_take] at this
    split at this
    · exact this
    · cases this
  simp only [loadA, h1, h3]
theorem k_ldE2 {v w : AV} (hx : evK l x = some (adE X p)) (hE : RdR z H0 X len cs) (hF : HF H0 mod T fs H) (hm : H'.m = H.m) (hmod : ∀ i, X.own = some i → i ∉ mod) (h : cs[p]? = some v) (h' : cs[p + 1]? = some w) : XV cf l H' n (.load (some 2) x) = some (.agg [v, w], H') := by
  have hp : p + 1 < len * z := by
    obtain ⟨hh, _⟩ := List.getElem?_eq_some_iff.1 h'
    rw [hE.1] at hh
    exact hh
  obtain ⟨c, h1, h2⟩ := hE.at (H' := H') (fun i hi => by
    have : H'.get i = H.get i := by unfold AHeap.get; rw [hm]
    rw [this]
    exact hF.fr i (hE.own_lt hi) (hmod i hi)) (Nat.lt_of_succ_lt hp)
  refine k_load hx ?_
  have e0 : c[0]? = some v := by
    have : (c.take (len * z - p))[0]? = some v := by rw [h2, List.getElem?_drop, Nat.add_zero, h]
    rw [List.getElem?_take, if_pos (by omega)] at this
    exact this
  have e1 : c[1]? = some w := by
    have : (c.take (len * z - p))[1]? = some w := by rw [h2, List.getElem?_drop, h']
    rw [List.getElem?_take, if_pos (by omega)] at this
    exact this
  match c, e0, e1 with
  | v' :: w' :: r, e0, e1 =>
    simp at e0 e1
    subst e0 e1
    simp only [loadA, h1]
    rw [if_pos (by simp)]
    rfl
theorem k_mnZ {a b : Int} (hx : evK l x = some (.int .i64 a)) (hy : evK l y = some (.int .i64 b)) : XV cf l H n (.mn [x, y]) = some (.int .i64 (if b < a then b else a), H) :=
  k_any (by
    have : evL (evK l) [x, y] = some [.int .i64 a, .int .i64 b] := by simp only [evL, hx, hy]; rfl
    simp only [xval, xop, this]
    rfl)
theorem k_mxZ {a b : Int} (hx : evK l x = some (.int .i64 a)) (hy : evK l y = some (.int .i64 b)) : XV cf l H n (.mx [x, y]) = some (.int .i64 (if b > a then b else a), H) :=
  k_any (by
    have : evL (evK l) [x, y] = some [.int .i64 a, .int .i64 b] := by simp only [evL, hx, hy]; rfl
    simp only [xval, xop, this]
    rfl)
end
section
variable {cf : CF} {n : Nat} {H0 H H' : AHeap} {mod : List Nat} {T : Nat} {fs : List (Nat × AObj)} {l : KL0} {x y : XO} {r : List XOper} {R : KL0 → AHeap → Prop}
theorem _root_.Go.Eng.HF.newN {o : AObj} {H1 : AHeap} (h : HF H0 mod T fs H) (hb : H0.next ≤ n) (hT : n < T) (hi : n ∉ fs.map (·.1)) (hn : T ≤ H1.next) (h1 : H1.get n = some o) (h2 : ∀ k, k ≠ n → H1.get k = H.get k) : HF H0 mod T ((n, o) :: fs) H1 where
  obj := fun p hp => by
    rcases List.mem_cons.1 hp with rfl | hp
    · exact h1
    · rw [h2 _ (fun e => hi (e ▸ List.mem_map.2 ⟨p, hp, rfl⟩))]; exact h.obj p hp
  lt := fun p hp => by
    rcases List.mem_cons.1 hp with rfl | hp
    · exact hT
    · exact h.lt p hp
  nd := by rw [List.map_cons, List.nodup_cons]; exact ⟨hi, h.nd⟩
  base := h.base
  le := hn
  fr := fun k hk hm => (h2 k (by omega)).trans (h.fr k hk hm)
theorem WKO.mkO {d m bytes : Nat} {z : List AV} (hx : evK l x = some (nA m)) (hy : evK l y = some (nA m)) (hb : m ≤ 2 ^ 24 ∧ bytes ≤ 2 ^ 16) (hF : HF H0 mod T fs H) (hm : H'.m = H.m) (hn : H.next ≤ H'.next)
    (k : ∀ H1, HF H0 mod (H'.next + 1) ((H'.next, .cells (List.replicate m z).flatten none) :: fs) H1 → H1.next = H'.next + 1 → WKO cf r (n + 1) ((d, .sl H'.next 0 m m) :: l) H1 R) : WKO cf (⟨some d, .mkslice z bytes x y, none⟩ :: r) n l H' R := by
  have hF' := hF.up hm hn
  refine WKO.op (v := .sl H'.next 0 m m) (H1 := H'.add (.cells (List.replicate m z).flatten none)) (k_any ?_) (by simp [allSm, XOp.opnds, hx, hy]) (k _ (hF'.new (n := H'.next) hF'.le (Nat.lt_succ_self _) (by rw [AHeap.get_add, if_pos rfl]) (fun k hk => by rw [AHeap.get_add, if_neg hk])) rfl)
  simp only [xval, xop, hx, hy]
  rw [show mkSliceA H' z bytes (nA m) (nA m) = if m ≤ m ∧ m ≤ 2 ^ 24 ∧ bytes ≤ 2 ^ 16 then .eff (.sl H'.next 0 m m) (H'.add (.cells (List.replicate m z).flatten none)) else .fail from rfl, if_pos ⟨Nat.le_refl _, hb.1, hb.2⟩]
theorem WKO.boxN {d : Nat} {v : AV} (hx : evK l x = some v) (hF : HF H0 mod T fs H) (hm : H'.m = H.m) (hn : H.next ≤ H'.next) (hb : H0.next ≤ n) (hT : n < T) (hi : n ∉ fs.map (·.1)) (hlt : T ≤ H'.next)
    (k : ∀ H1, HF H0 mod T ((n, .cells v.cells none) :: fs) H1 → H1.next = H'.next → WKO cf r (n + 1) ((d, .ptr n 0) :: l) H1 R) : WKO cf (⟨some d, .box x, none⟩ :: r) n l H' R :=
  WKO.op (k_any (by simp only [xval, xop, hx])) (by simp [allSm, XOp.opnds, hx]) (k (H'.set n (some (.cells v.cells none))) ((hF.up hm hn).newN hb hT hi (by rw [next_set]; exact hlt) (by rw [AHeap.get_set, if_pos rfl]) (fun k hk => by rw [AHeap.get_set, if_neg hk])) rfl)
theorem WKO.stN {i p w : Nat} {opn : Option Nat} {f : Nat → AV} {N : List Nat} {a x : XO} (ha : evK l a = some (.ptr i p)) (hx : evK l x = some (f w)) (hc : (f w).cells = [f w]) (h1 : (f w).oneCell = true) (hF : HF H0 mod T ((i, .cells (N.map f) opn) :: fs) H) (hm : H'.m = H.m) (hn : H.next ≤ H'.next) (hi : i ∈ mod ∨ H0.next ≤ i) (hp : p < N.length)
    (k : ∀ H1, HF H0 mod T ((i, .cells ((N.set p w).map f) opn) :: fs) H1 → H1.next = H'.next → WKO cf r (n + 1) l H1 R) : WKO cf (⟨none, .store 1 a x, none⟩ :: r) n l H' R := by
  have e : (N.set p w).map f = overA (N.map f) p (f w).cells := by
    rw [hc, List.map_set, overA, List.set_eq_take_append_cons_drop, if_pos (by simpa using hp)]
    simp
  rw [e] at k
  exact WKO.stO0 ha hx hF hm hn hi (by rw [hc]; rfl) (by rw [hc]; simp [h1]) (by simp; omega) k
theorem k_ia1s {i len c a : Nat} (hx : evK l x = some (.sl i 0 len c)) (hy : evK l y = some (nA a)) (h : a < len) : XV cf l H n (.iaddr 1 x y) = some (.ptr i a, H) := by
  have := k_iaN (cf := cf) (H := H) (n := n) (z := 1) hx hy h
  rwa [Nat.zero_add, Nat.mul_one] at this
end
theorem prsC_get {q : Prs} {i : Nat} {c : Nat × Nat} (h : q[i]? = some c) : (prsC q)[i * 2]? = some (nA c.1) ∧ (prsC q)[i * 2 + 1]? = some (nA c.2) := by
  have := zc_get (l := q.map (fun c => ((c.1 : Int), (c.2 : Int)))) (i := i) (p := ((c.1 : Int), (c.2 : Int))) (by rw [List.getElem?_map, h]; rfl)
  rwa [zc_prs] at this
theorem cellsA_rd {z len : Nat} {H : AHeap} {X : AV} {cs : List AV} (h : RdR z H X len cs) : cellsA H z X = some (len, cs) := by
  rcases h with ⟨h0, ⟨f, rfl⟩ | ⟨rfl, rfl⟩ | ⟨i, c, full, opn, rfl, h1, h2, h3, h4⟩⟩
  · have : cs.take (len * z) = cs := List.take_of_length_le (by omega)
    have e : cellsA H z (.imm cs len f) = (if len * z ≤ cs.length then some (cs.take (len * z)) else none).bind fun c => if len = 0 ∧ c ≠ [] then none else some (len, c) := rfl
    rw [e, if_pos (by omega), Option.bind_some, this, if_neg (fun w => w.2 (List.eq_nil_of_length_eq_zero (by rw [h0, w.1, Nat.zero_mul])))]
  · have : cs = [] := List.eq_nil_of_length_eq_zero (by omega)
    subst this
    rfl
  · have e : cellsA H z (.sl i 0 len c) = (srcA H z len (.sl i 0 len c)).bind fun c => if len = 0 ∧ c ≠ [] then none else some (len, c) := rfl
    have e2 : srcA H z len (.sl i 0 len c) = some cs := by
      simp only [srcA, h2, Nat.zero_add, List.drop_zero, h3]
      rw [if_pos h4]
    rw [e, e2, Option.bind_some, if_neg (fun w => w.2 (List.eq_nil_of_length_eq_zero (by rw [h0, w.1, Nat.zero_mul])))]
theorem set_lt10 {N : List Nat} (h : ∀ m ∈ N, m < 1024) {i v : Nat} (hv : v < 1024) : ∀ m ∈ N.set i v, m < 1024 := fun m hm => by
  rcases List.mem_or_eq_of_mem_set hm with hm | rfl
  · exact h m hm
  · exact hv
theorem pow10 {b : Nat} (h : b < 10) : 2 ^ b < 1024 := by
  have : 2 ^ b ≤ 2 ^ 9 := Nat.pow_le_pow_right (by omega) (by omega)
  omega
end Go.Proofs.Ytpbighinamljbaa.PA
namespace Go.Proofs.Ytpbighinamljbaa.PA
open Go Go.Eng Go.Proofs
def orAt (N : List Nat) (i v : Nat) : List Nat := N.set i (N.getD i 0 ||| v)
def nearSt (N : List Nat) (c : Nat × Nat) : List Nat := orAt (orAt N c.1 (2 ^ c.2)) c.2 (2 ^ c.1)
def nearN (n : Nat) (q : Prs) : List Nat := q.foldl nearSt (List.replicate n 0)
def Egs (n : Nat) (q : Prs) : Prop := ∀ c ∈ q, c.1 < n ∧ c.2 < n ∧ c.1 ≠ c.2
theorem orAt_len (N : List Nat) (i v : Nat) : (orAt N i v).length = N.length := by simp [orAt]
theorem orAt_lt {N : List Nat} (h : ∀ m ∈ N, m < 1024) {i v : Nat} (hv : v < 1024) : ∀ m ∈ orAt N i v, m < 1024 := set_lt10 h (or10 (getD_lt10 h i) hv)
theorem nearSt_len (N : List Nat) (c : Nat × Nat) : (nearSt N c).length = N.length := by simp [nearSt, orAt_len]
theorem nearSt_lt {N : List Nat} (h : ∀ m ∈ N, m < 1024) {c : Nat × Nat} (h1 : c.1 < 10) (h2 : c.2 < 10) : ∀ m ∈ nearSt N c, m < 1024 := orAt_lt (orAt_lt h (pow10 h2)) (pow10 h1)
theorem near_fold_len : ∀ (q : Prs) (N : List Nat), (q.foldl nearSt N).length = N.length
  | [], N => rfl
  | c :: q, N => (near_fold_len q _).trans (nearSt_len N c)
theorem near_fold_lt {n : Nat} (hn : n ≤ 10) : ∀ (q : Prs) (N : List Nat), Egs n q → (∀ m ∈ N, m < 1024) → ∀ m ∈ q.foldl nearSt N, m < 1024
  | [], N, _, h => h
  | c :: q, N, hq, h => by
    have := hq c (List.mem_cons_self ..)
    exact near_fold_lt hn q _ (fun d hd => hq d (List.mem_cons_of_mem _ hd)) (nearSt_lt h (by omega) (by omega))
theorem nearN_len (n : Nat) (q : Prs) : (nearN n q).length = n := by rw [nearN, near_fold_len]; simp
theorem rep_lt (n : Nat) : ∀ m ∈ List.replicate n 0, m < 1024 := fun m hm => by
  have := List.eq_of_mem_replicate hm
  omega
theorem nearN_lt {n : Nat} {q : Prs} (hn : n ≤ 10) (hq : Egs n q) : ∀ m ∈ nearN n q, m < 1024 := near_fold_lt hn q _ hq (rep_lt n)
theorem lt20 {a : Nat} (h : a < 1024) : a < 1048576 := Nat.lt_of_lt_of_le h (by decide)
theorem x19 {cf : CF} {fuel : Nat} {H0 : AHeap} {n : Nat} {q : Prs} {X : AV} (hn : n ≤ 10) (hq : Egs n q) (hX : RdR 2 H0 X q.length (prsC q)) (hl : q.length ≤ 1000) (hf : 1001 < fuel) :
    ∃ u H', xfunc cf fuel L19 [nA n, X] H0 = some (u, H') ∧ ∃ i, u = .sl i 0 n n ∧ H0.next ≤ i ∧ i < H'.next ∧ H'.get i = some (.cells ((nearN n q).map nA) none) ∧ ∀ k, k < H0.next → H'.get k = H0.get k := by
  refine xfunc_ofK rfl (by show 2 ≤ 48; omega) ?_
  unfold L19
  dsimp only
  have hF0 : HF H0 [] H0.next [] H0 := ⟨by simp, by simp, by simp, Nat.le_refl _, Nat.le_refl _, fun _ _ _ => rfl⟩
  repeat' (first | refine WK.seq ?_ | refine WK.block ?_ | (apply WK.reg; (· exact lnn)) | (apply WKO.mkO; (· rfl); (· rfl); (· omega); (· assumption); (· rfl); (· first | (simp only [next_bump] at *; omega)); intro _ _ _) | refine WKO.nil ?_ | ((first | apply WKO.op); (· first | exact k_mv rfl); (· rfl)) | refine pN ?_ | fail)
  rename_i H1 hF1 hn1
  have hM0 : H0.next ≤ ((H0.bump 1).bump 3).next := by simp only [next_bump]; omega
  generalize ((H0.bump 1).bump 3).next = M at hF1 hn1 hM0 ⊢
  refine WK.loop (α := Nat) (fun i => [(0, nA n), (1, X), (5, .sl M 0 n n), (6, nA i)]) (fun i H => i ≤ q.length ∧ HF H0 [] (M + 1) [(M, .cells (((q.take i).foldl nearSt (List.replicate n 0)).map nA) none)] H) (fun i => q.length - i) 0 (.cons rfl <| .cons rfl <| .cons rfl <| .cons rfl <| .nil _) ⟨Nat.zero_le _, ?_⟩ (by omega) ?_
  · have e : (List.replicate n [AV.int IntKind.i64 (Int.ofNat 0)]).flatten = (List.replicate n 0).map nA := by
      rw [List.map_replicate]
      clear hq hX hF1 hn
      induction n with
      | zero => rfl
      | succ n ih => rw [List.replicate_succ, List.flatten_cons, ih]; rfl
    rw [e] at hF1
    exact hF1.up rfl (by simp only [next_bump]; omega)
  rintro i H ⟨h1, hF⟩
  by_cases hi : i < q.length
  · obtain ⟨⟨a, b⟩, hp⟩ : ∃ p, q[i]? = some p := ⟨_, List.getElem?_eq_getElem hi⟩
    obtain ⟨g0, g1⟩ := prsC_get hp
    have hm := hq _ (List.mem_of_getElem? hp)
    dsimp only at g0 g1 hm
    have hN : ∀ m ∈ (q.take i).foldl nearSt (List.replicate n 0), m < 1024 := near_fold_lt hn _ _ (fun c hc => hq c (List.mem_of_mem_take hc)) (rep_lt n)
    have hNl : ((q.take i).foldl nearSt (List.replicate n 0)).length = n := by rw [near_fold_len]; simp
    have hstep : (q.take (i + 1)).foldl nearSt (List.replicate n 0) = nearSt ((q.take i).foldl nearSt (List.replicate n 0)) (a, b) := by
      rw [List.take_add_one, hp, List.foldl_append]; rfl
    generalize (q.take i).foldl nearSt (List.replicate n 0) = N at hF hN hNl hstep
    repeat' (first | refine WK.seq ?_ | refine WK.skip ?_ | refine WK.block ?_ | (apply WK.reg; (· exact lnn)) | (apply WK.regd0; (· exact lnn)) | (apply WKO.stN (f := nA); (· rfl); (· rfl); (· rfl); (· rfl); (· assumption); (· rfl); (· first | (simp only [next_bump] at *; omega)); (· exact .inr (by omega)); (· first | omega | (simp; omega)); intro _ _ _) | refine WKO.nil ?_ | ((first | apply WKO.op); (· first | exact k_mv rfl | exact k_iaE rfl rfl hX (by omega) | exact k_faE rfl hX (by omega) | (apply k_ldE; (· rfl); (· exact hX); (· assumption); (· rfl); (· simp; done); (· first | exact g0 | exact g1)) | exact k_ia1s rfl rfl (by omega) | exact k_lenE rfl hX | (apply k_ldO; (· rfl); (· assumption); (· rfl); (· exact .head _); (· exact map_at (by first | omega | (simp; omega)))) | exact k_shl1 rfl rfl (by omega) | exact k_orN rfl rfl (lt20 (getD_lt10 hN _)) (lt20 (pow10 (by omega))) | exact k_orN rfl rfl (lt20 (getD_lt10 (set_lt10 hN (or10 (getD_lt10 hN _) (pow10 (by omega)))) _)) (lt20 (pow10 (by omega))) | exact opA); (· rfl)) | refine pN ?_ | refine bN ?_ | (apply WK.condT; (· rfl); (· exact dcd)) | fail)
    refine ⟨i + 1, (.cons rfl <| .cons rfl <| .cons rfl <| .cons rfl <| .nil _), ⟨by omega, ?_⟩, by omega⟩
    rw [hstep]
    rename_i hF3 _
    exact hF3.up rfl (by simp only [next_bump]; omega)
  · repeat' (first | refine WK.seq ?_ | refine WK.ret ?_ | refine WK.exit ?_ | (apply WK.reg; (· exact lnn)) | refine WKO.nil ?_ | ((first | apply WKO.op); (· first | exact k_mv rfl | exact k_lenE rfl hX | exact opA); (· rfl)) | refine pN ?_ | refine pX ?_ | refine bX ?_ | (apply WK.condF; (· rfl); (· exact dcd)) | fail)
    refine ⟨nofun, _, rfl, M, rfl, hM0, ?_, ?_, fun k hk => ?_⟩
    · have := hF.le
      simp only [next_bump]
      omega
    · have := hF.obj _ (.head _)
      rw [List.take_of_length_le (by omega)] at this
      exact this
    · exact hF.fr k hk (by simp)
end Go.Proofs.Ytpbighinamljbaa.PA
namespace Go.Proofs.Ytpbighinamljbaa.PA
open Go Go.Eng Go.Proofs
section
variable {cf : CF} {n : Nat} {H0 H H' : AHeap} {mod : List Nat} {T : Nat} {fs : List (Nat × AObj)} {l : KL0} {x y : XO} {r : List XOper} {R : KL0 → AHeap → Prop}
theorem k_minZ {a b : Int} (hx : evK l x = some (.int .i64 a)) (hy : evK l y = some (.int .i64 b)) : XV cf l H n (.mn [x, y]) = some (.int .i64 (min a b), H) := by
  have := k_mnZ (cf := cf) (H := H) (n := n) hx hy
  rwa [show (if b < a then b else a) = min a b by split <;> omega] at this
theorem k_maxZ {a b : Int} (hx : evK l x = some (.int .i64 a)) (hy : evK l y = some (.int .i64 b)) : XV cf l H n (.mx [x, y]) = some (.int .i64 (max a b), H) := by
  have := k_mxZ (cf := cf) (H := H) (n := n) hx hy
  rwa [show (if b > a then b else a) = max a b by split <;> omega] at this
theorem k_lss0 {a : Int} {c : Nat} (hx : evK l x = some (.int .i64 a)) (hy : evK l y = some (.int .i64 (.ofNat c))) : XV cf l H n (.bin .lss x y) = some (.bool (decide (a < (c : Int))), H) :=
  k_bin hx hy rfl
theorem k_gtr0 {a : Int} {c : Nat} (hx : evK l x = some (.int .i64 a)) (hy : evK l y = some (.int .i64 (.ofNat c))) : XV cf l H n (.bin .gtr x y) = some (.bool (decide (a > (c : Int))), H) :=
  k_bin hx hy rfl
theorem k_geqZ {a b : Int} (hx : evK l x = some (.int .i64 a)) (hy : evK l y = some (.int .i64 b)) : XV cf l H n (.bin .geq x y) = some (.bool (decide (a ≥ b)), H) :=
  k_bin hx hy rfl
theorem WKO.stN2 {f1 f2 : Nat × AObj} {i p w : Nat} {opn : Option Nat} {f : Nat → AV} {N : List Nat} {a x : XO} (ha : evK l a = some (.ptr i p)) (hx : evK l x = some (f w)) (hc : (f w).cells = [f w]) (h1 : (f w).oneCell = true) (hF : HF H0 mod T (f1 :: f2 :: (i, .cells (N.map f) opn) :: fs) H) (hm : H'.m = H.m) (hn : H.next ≤ H'.next) (hi : i ∈ mod ∨ H0.next ≤ i) (hp : p < N.length)
    (k : ∀ H1, HF H0 mod T (f1 :: f2 :: (i, .cells ((N.set p w).map f) opn) :: fs) H1 → H1.next = H'.next → WKO cf r (n + 1) l H1 R) : WKO cf (⟨none, .store 1 a x, none⟩ :: r) n l H' R := by
  have e : (N.set p w).map f = overA (N.map f) p (f w).cells := by
    rw [hc, List.map_set, overA, List.set_eq_take_append_cons_drop, if_pos (by simpa using hp)]
    simp
  rw [e] at k
  exact WKO.stO2 ha hx hF hm hn hi (by rw [hc]; rfl) (by rw [hc]; simp [h1]) (by simp; omega) k
end
theorem _root_.Go.Eng.HF.frb {H0 H H' : AHeap} {T : Nat} {fs : List (Nat × AObj)} (h : HF H0 [] T fs H) {k : Nat} (hm : H'.m = H.m) (hk : k < H0.next) : H'.get k = H0.get k := by
  have : H'.get k = H.get k := by unfold AHeap.get; rw [hm]
  exact this.trans (h.fr k hk (by simp))
def nE (p : Int × Int) : Nat × Nat := (p.1.toNat, p.2.toNat)
theorem okE_nat {m : Nat} {p : Int × Int} (h : okE (m : Int) p = true) : ∃ a b : Nat, p = ((a : Int), (b : Int)) ∧ a < m ∧ b < m ∧ a ≠ b := by
  obtain ⟨a, b⟩ := p
  simp only [okE, decide_eq_true_eq] at h
  exact ⟨a.toNat, b.toNat, by rw [Int.toNat_of_nonneg h.1, Int.toNat_of_nonneg h.2.2.1], by omega, by omega, by omega⟩
def body46 : XCode := match L46.code with
  | .seq _ (.seq _ (.seq _ (.seq (.seq _ (.block _ (.loop c))) _))) => c
  | _ => .skip
def RdH (H0 : AHeap) (G M m : Nat) (N : List Nat) (H : AHeap) : Prop := ∃ T, HF H0 [] T [(G, .cells [nA m, .sl M 0 m m] none), (M, .cells (N.map sA) none)] H
def nrZ (m : Nat) (l : ZPrs) (i : Nat) : List Nat := ((l.take i).map nE).foldl nearSt (List.replicate m 0)
def L46a (m : Nat) (X : AV) (l : ZPrs) (G i : Nat) : KL0 := [(0, nA m), (1, X), (4, .nilp), (5, .bool false), (6, .ptr G 0), (28, X), (29, nA l.length), (30, nA i)]
theorem body46_ok {cf : CF} {fuel : Nat} {H0 : AHeap} {m G M : Nat} {l : ZPrs} {X : AV} (hm : m ≤ 10) (hX : RdR 2 H0 X l.length (zc l)) (hl : l.length ≤ 60) (hM0 : H0.next ≤ M) (i : Nat) (H : AHeap) (h1 : i ≤ l.length) (hgood : ∀ p ∈ l.take i, okE m p = true) (hR : RdH H0 G M m (nrZ m l i) H) :
    WK cf fuel body46 (L46a m X l G i) H fun e l' H' => (e = .normal → ∃ j, Sub l' (L46a m X l G j) ∧ (j ≤ l.length ∧ (∀ p ∈ l.take j, okE m p = true) ∧ RdH H0 G M m (nrZ m l j) H') ∧ l.length - j < l.length - i) ∧
      (e ≠ .normal → (e = .exit 0 ∧ l.all (okE m) = true ∧ Sub l' [(0, nA m), (6, .ptr G 0)] ∧ RdH H0 G M m (nrZ m l l.length) H') ∨ (e = .ret ∧ l.all (okE m) = false ∧ Sub l' [(4, .nilp), (5, .bool false)] ∧ (∀ k, k < H0.next → H'.get k = H0.get k) ∧ H0.next ≤ H'.next)) := by
  obtain ⟨T, hF⟩ := hR
  have hT := hF.le
  have hT0 := hF.base
  unfold body46 L46
  dsimp only
  unfold L46a
  by_cases hi : i < l.length
  · obtain ⟨p, hp⟩ : ∃ p, l[i]? = some p := ⟨_, List.getElem?_eq_getElem hi⟩
    obtain ⟨g0, g1⟩ := zc_get hp
    have hpm := List.mem_of_getElem? hp
    have hN : ∀ c ∈ nrZ m l i, c < 1024 := by
      refine near_fold_lt hm _ _ (fun c hc => ?_) (rep_lt m)
      obtain ⟨p, hp, rfl⟩ := List.mem_map.1 hc
      obtain ⟨a, b, rfl, h⟩ := okE_nat (hgood p hp)
      exact h
    have hNl : (nrZ m l i).length = m := by rw [nrZ, near_fold_len]; simp
    have hstep : nrZ m l (i + 1) = nearSt (nrZ m l i) (nE p) := by
      rw [nrZ, List.take_add_one, hp, List.map_append, List.foldl_append]; rfl
    by_cases hok : okE m p = true
    · obtain ⟨a, b, rfl, ha, hb, hab⟩ := okE_nat hok
      dsimp only at g0 g1
      have hstep : nrZ m l (i + 1) = nearSt (nrZ m l i) (a, b) := hstep
      generalize nrZ m l i = N at hF hN hNl hstep
      repeat' (first | refine WK.seq ?_ | refine WK.skip ?_ | refine WK.block ?_ | (apply WK.reg; (· exact lnn)) | (apply WK.regd0; (· exact lnn)) | (apply WKO.stN2 (f := sA); (· rfl); (· rfl); (· rfl); (· rfl); (· assumption); (· rfl); (· first | (simp only [next_bump] at *; omega)); (· exact .inr (by omega)); (· first | omega | (simp; omega)); intro _ _ _) | (apply WKO.alO; (· assumption); (· rfl); (· exact nxx); (· exact nxx); (· exact nxx); intro _ _ _) | (apply WKO.stO0; (· rfl); (· rfl); (· assumption); (· rfl); (· exact nxx); (· first | exact .inr nxx); (· rfl); (· rfl); (· first | decide); intro _ _ _) | refine WKO.nil ?_ | ((first | apply WKO.op | ((first | apply WKO.gop); (· rfl); (· exact dcd))); (· first | exact k_mv rfl | exact k_iaE rfl rfl hX (by omega) | (apply k_ldE2; (· rfl); (· exact hX); (· assumption); (· rfl); (· simp; done); (· exact g0); (· exact g1)) | exact k_ia1s rfl rfl (by omega) | exact k_minZ rfl rfl | exact k_maxZ rfl rfl | exact k_lss0 rfl rfl | exact k_geqZ rfl rfl | (apply k_ldO; (· rfl); (· assumption); (· rfl); (· exact .tail _ (.tail _ (.head _))); (· exact map_at (by first | omega | (simp; omega)))) | exact k_shl16 rfl rfl (by omega) | exact k_or16 rfl rfl (getD_lt10 hN _) (pow10 (by omega)) | exact k_or16 rfl rfl (getD_lt10 (set_lt10 hN (or10 (getD_lt10 hN _) (pow10 (by omega)))) _) (pow10 (by omega)) | (apply k_ldO; (· rfl); (· assumption); (· rfl); (· exact mmb); (· rfl)) | exact k_faddr rfl | exact k_nilc rfl | exact opA); (· rfl)) | refine pN ?_ | refine bN ?_ | (apply WK.condT; (· rfl); (· exact dcd)) | (apply WK.condF; (· rfl); (· exact dcd)) | fail)
      rename_i hF3 _
      refine ⟨i + 1, (.cons rfl <| .cons rfl <| .cons rfl <| .cons rfl <| .cons rfl <| .cons rfl <| .cons rfl <| .cons rfl <| .nil _), ⟨by omega, fun p h => ?_, ?_⟩, by omega⟩
      · rw [List.take_add_one, hp] at h
        rcases List.mem_append.1 h with h | h
        · exact hgood p h
        · have : p = ((a : Int), (b : Int)) := by simpa using h
          subst this
          exact hok
      · rw [hstep]
        have h3 := (hF3.sub (List.sublist_cons_self ..) (Nat.le_refl _) hF3.le).up (H' := _) rfl (Nat.le_refl _)
        exact ⟨_, HF.up h3 rfl (by simp only [next_bump]; omega)⟩
    · have hbad : l.all (okE m) = false := by
        cases q : l.all (okE m) with
        | false => rfl
        | true => exact absurd (List.all_eq_true.1 q p hpm) hok
      have hok' : ¬ (0 ≤ p.1 ∧ p.1 < m ∧ 0 ≤ p.2 ∧ p.2 < m ∧ p.1 ≠ p.2) := fun w => hok (by simp only [okE, decide_eq_true_eq]; exact w)
      obtain ⟨a, b⟩ := p
      dsimp only at g0 g1 hok'
      repeat' (first | refine WK.seq ?_ | refine WK.skip ?_ | refine WK.ret ?_ | refine WK.block ?_ | (apply WK.reg; (· exact lnn)) | (apply WKO.alO; (· assumption); (· rfl); (· exact nxx); (· exact nxx); (· exact nxx); intro _ _ _) | (apply WKO.stO0; (· rfl); (· rfl); (· assumption); (· rfl); (· exact nxx); (· first | exact .inr nxx); (· rfl); (· rfl); (· first | decide); intro _ _ _) | refine WKO.nil ?_ | ((first | apply WKO.op | ((first | apply WKO.gop); (· rfl); (· exact dcd))); (· first | exact k_mv rfl | exact k_iaE rfl rfl hX (by omega) | (apply k_ldE2; (· rfl); (· exact hX); (· assumption); (· rfl); (· simp; done); (· exact g0); (· exact g1)) | exact k_minZ rfl rfl | exact k_maxZ rfl rfl | exact k_lss0 rfl rfl | exact k_eqlZ rfl rfl | exact k_geqZ rfl rfl | (apply k_ldO; (· rfl); (· assumption); (· rfl); (· exact mmb); (· rfl)) | exact k_faddr rfl | exact opA); (· rfl)) | ((first | apply WKO.gnoF); (· rfl); (· exact dcd)) | ((first | apply WKO.gsp); (· rfl); all_goals ((fail_if_success (refine known ?_ ?_; (· assumption))); intro _)) | refine pN ?_ | refine pR ?_ | refine bR ?_ | (apply WK.condT; (· rfl); (· exact dcd)) | fail)
      all_goals first
        | exact .inr ⟨rfl, hbad, (.cons rfl <| .cons rfl <| .nil _), fun k hk => by apply HF.frb; (· assumption); (· rfl); (· exact hk), by simp only [next_bump] at *; omega⟩
        | (exfalso; omega)
  · repeat' (first | refine WK.seq ?_ | refine WK.exit ?_ | (apply WK.reg; (· exact lnn)) | refine WKO.nil ?_ | ((first | apply WKO.op); (· first | exact opA); (· rfl)) | refine pN ?_ | refine pX ?_ | (apply WK.condF; (· rfl); (· exact dcd)) | fail)
    have hil : i = l.length := by omega
    rw [hil] at hF
    exact .inl ⟨rfl, List.all_eq_true.2 (fun p hp => hgood p (by rw [List.take_of_length_le (by omega)]; exact hp)), (.cons rfl <| .cons rfl <| .nil _), T, hF.up rfl (by simp only [next_bump]; omega)⟩
def swS (N : List Nat) : Nat → Nat → Nat → Nat
  | 0, _, r => r
  | s + 1, i, r => swS N s (i + 1) (if bt r i then r ||| N.getD i 0 else r)
def reN (N : List Nat) : Nat → Nat → Nat
  | 0, r => r
  | k + 1, r => reN N k (swS N N.length 0 r)
def conS (N : List Nat) : Bool := decide (cnt (reN N N.length 1) = N.length)
def ReadR (H0 : AHeap) (n : Int) (l : ZPrs) (v : AV) (H' : AHeap) : Prop :=
  (grZ n l = false ∧ v = .tup [.nilp, .bool false] ∧ (∀ k, k < H0.next → H'.get k = H0.get k) ∧ H0.next ≤ H'.next) ∨
  (grZ n l = true ∧ ∃ (m : Nat) (q : Prs) (G M : Nat), n = m ∧ 1 ≤ m ∧ m ≤ 10 ∧ zc l = prsC q ∧ q.length = l.length ∧ Egs m q ∧ v = .tup [.ptr G 0, .bool (conS (nearN m q))] ∧ RdH H0 G M m (nearN m q) H')
theorem k_bt64 {cf : CF} {n a i : Nat} {H : AHeap} {l : KL0} {x y : XO} (h64 : ∀ H m i, m < 1024 → i < 10 → cf 64 [sA m, nA i] H = some (.bool (m.testBit i), H)) (hx : evK l x = some (sA a)) (hy : evK l y = some (nA i)) (ha : a < 1024) (hi : i < 10) :
    XV cf l H n (.call (.k (.fn 64 [])) [x, y]) = some (.bool (bt a i), H) := by
  rw [bt_eq]
  exact k_call rfl (by simp only [evL, hx, hy]; rfl) (h64 _ _ _ ha hi)
theorem x46 {cf : CF} {fuel : Nat} {H0 : AHeap} {n : Int} {l : ZPrs} {X : AV} (hX : RdR 2 H0 X l.length (zc l)) (hf : 101 < fuel)
    (h64 : ∀ H m i, m < 1024 → i < 10 → cf 64 [sA m, nA i] H = some (.bool (m.testBit i), H)) (h67 : ∀ H m, m < 1024 → cf 67 [sA m] H = some (nA (cnt m), H)) :
    ∃ u H', xfunc cf fuel L46 [.int .i64 n, X] H0 = some (u, H') ∧ ReadR H0 n l u H' := by
  refine xfunc_ofK rfl (by show 2 ≤ 109; omega) ?_
  have hF0 : HF H0 [] H0.next [] H0 := ⟨by simp, by simp, by simp, Nat.le_refl _, Nat.le_refl _, fun _ _ _ => rfl⟩
  by_cases hc : 1 ≤ n ∧ n ≤ 10 ∧ l.length ≤ 60
  · obtain ⟨c1, c2, c3⟩ := hc
    obtain ⟨m, rfl⟩ : ∃ m : Nat, n = m := ⟨n.toNat, by omega⟩
    have hb := @body46_ok cf fuel
    unfold body46 at hb
    unfold L46 at hb ⊢
    dsimp only at hb ⊢
    repeat' (first | refine WK.seq ?_ | refine WK.skip ?_ | refine WK.block ?_ | (apply WK.reg; (· exact lnn)) | (apply WKO.mkO; (· rfl); (· rfl); (· omega); (· assumption); (· rfl); (· first | (simp only [next_bump] at *; omega)); intro _ _ _) | (apply WKO.boxN; (· rfl); (· assumption); (· rfl); (· first | omega); (· first | (simp only [next_bump] at *; omega)); (· first | (simp only [next_bump] at *; omega)); (· simp only [next_bump, List.map_cons, List.map_nil, List.mem_singleton] at *; omega); (· first | omega); intro _ _ _) | refine WKO.nil ?_ | ((first | apply WKO.op | ((first | apply WKO.gop); (· rfl); (· exact dcd))); (· first | exact k_mv rfl | exact k_lenE rfl hX | exact k_lss0 rfl rfl | exact k_gtr0 rfl rfl | exact opA); (· rfl)) | refine pN ?_ | (apply WK.condF; (· rfl); (· exact dcd)) | fail)
    rename_i H1 hF1 hn1 H2 hF2 hn2
    clear hF1
    have hM0 : H0.next ≤ (((H0.bump 2).bump 11).bump 6).next := by simp only [next_bump]; omega
    generalize (((H0.bump 2).bump 11).bump 6).next = M at hF2 hn1 hM0 ⊢
    generalize ((H0.bump 2).bump 11).next + 1 + 1 + 1 + 1 = G at hF2 ⊢
    refine WK.loop (α := Nat) (fun i => L46a m X l G i) (fun i H => i ≤ l.length ∧ (∀ p ∈ l.take i, okE m p = true) ∧ RdH H0 G M m (nrZ m l i) H) (fun i => l.length - i) 0 (.cons rfl <| .cons rfl <| .cons rfl <| .cons rfl <| .cons rfl <| .cons rfl <| .cons rfl <| .cons rfl <| .nil _) ⟨Nat.zero_le _, by simp, M + 1, ?_⟩ (by omega) ?_
    · have e : (List.replicate m [AV.int IntKind.u16 (Int.ofNat 0)]).flatten = (nrZ m l 0).map sA := by
        show _ = (List.replicate m 0).map sA
        rw [List.map_replicate]
        clear hX hF2 hb c1 c2
        induction m with
        | zero => rfl
        | succ n ih => rw [List.replicate_succ, List.flatten_cons, ih]; rfl
      rw [e] at hF2
      exact hF2.up rfl (by simp only [next_bump]; omega)
    rintro i H ⟨h1, h2, h3⟩
    refine (hb (by omega) hX c3 hM0 i H h1 h2 h3).mono ?_
    rintro e l' H' ⟨p1, p2⟩
    refine ⟨p1, fun hne => ?_⟩
    rcases p2 hne with ⟨rfl, hall, hs, hR⟩ | ⟨rfl, hall, hs, hk, hnx⟩
    · clear hb p1 p2
      refine bX ?_
      refine pN ?_
      refine WK.sub hs ?_
      obtain ⟨q, hq, hqE⟩ : ∃ q : Prs, l = q.map (fun c => ((c.1 : Int), (c.2 : Int))) ∧ Egs m q := by
        refine ⟨l.map nE, ?_, fun c hc => ?_⟩
        · rw [List.map_map]
          conv => lhs; rw [← List.map_id l]
          refine List.map_congr_left fun p hp => ?_
          obtain ⟨a, b, rfl, _⟩ := okE_nat (List.all_eq_true.1 hall p hp)
          rfl
        · obtain ⟨p, hp, rfl⟩ := List.mem_map.1 hc
          obtain ⟨a, b, rfl, h⟩ := okE_nat (List.all_eq_true.1 hall p hp)
          exact h
      have hz : zc l = prsC q := by rw [hq, zc_prs]
      have hN : nrZ m l l.length = nearN m q := by
        rw [nrZ, List.take_of_length_le (Nat.le_refl _), hq, List.map_map]
        show (List.map _ q).foldl nearSt _ = _
        have : (nE ∘ fun c : Nat × Nat => ((c.1 : Int), (c.2 : Int))) = id := by funext c; rfl
        rw [this, List.map_id]
        rfl
      rw [hN] at hR
      have hNl := nearN_len m q
      have hNt := nearN_lt (by omega) hqE
      generalize hNN : nearN m q = N at hR hNl hNt
      obtain ⟨T, hF⟩ := hR
      repeat' (first | refine WK.seq ?_ | refine WK.block ?_ | (apply WK.reg; (· exact lnn)) | refine WKO.nil ?_ | ((first | apply WKO.op); (· first | exact k_mv rfl); (· rfl)) | refine pN ?_ | fail)
      refine WK.loop (α := Nat × Nat) (fun p => [(0, nA m), (6, .ptr G 0), (83, nA m), (84, nA p.1), (9, sA p.2)]) (fun p H => p.1 ≤ m ∧ p.2 < 1024 ∧ reN N (m - p.1) p.2 = reN N m 1 ∧ HF H0 [] T [(G, .cells [nA m, .sl M 0 m m] none), (M, .cells (N.map sA) none)] H) (fun p => m - p.1) (0, 1) (.cons rfl <| .cons rfl <| .cons rfl <| .cons rfl <| .cons rfl <| .nil _) ⟨Nat.zero_le _, by decide, rfl, hF.up rfl (by simp only [next_bump]; omega)⟩ (by dsimp only; omega) ?_
      clear hF
      rintro ⟨k, r⟩ H ⟨h1, h2, h3, hF⟩
      dsimp only at h1 h2 h3 ⊢
      by_cases hk : k < m
      · repeat' (first | refine WK.seq ?_ | refine WK.skip ?_ | refine WK.block ?_ | (apply WK.reg; (· exact lnn)) | refine WKO.nil ?_ | ((first | apply WKO.op); (· first | exact k_mv rfl | (apply k_ldO; (· rfl); (· assumption); (· rfl); (· exact mmb); (· rfl)) | exact k_faddr rfl | exact k_nilc rfl | exact opA); (· rfl)) | refine pN ?_ | (apply WK.condT; (· rfl); (· exact dcd)) | fail)
        refine WK.loop (α := Nat × Nat) (fun p => [(0, nA m), (6, .ptr G 0), (83, nA m), (84, nA k), (89, .sl M 0 m m), (90, nA m), (91, nA p.1), (9, sA p.2)]) (fun p H => p.1 ≤ m ∧ p.2 < 1024 ∧ swS N (m - p.1) p.1 p.2 = swS N m 0 r ∧ HF H0 [] T [(G, .cells [nA m, .sl M 0 m m] none), (M, .cells (N.map sA) none)] H) (fun p => m - p.1) (0, r) (.cons rfl <| .cons rfl <| .cons rfl <| .cons rfl <| .cons rfl <| .cons rfl <| .cons rfl <| .cons rfl <| .nil _) ⟨Nat.zero_le _, h2, rfl, hF.up rfl (by simp only [next_bump]; omega)⟩ (by dsimp only; omega) ?_
        clear hF
        rintro ⟨i, r'⟩ H ⟨i1, i2, i3, hF⟩
        dsimp only at i1 i2 i3 ⊢
        by_cases hi : i < m
        · repeat' (first | refine WK.seq ?_ | refine WK.skip ?_ | refine WK.block ?_ | (apply WK.reg; (· exact lnn)) | refine WKO.nil ?_ | ((first | apply WKO.op); (· first | exact k_mv rfl | exact k_ia1s rfl rfl (by omega) | exact k_bt64 h64 rfl rfl (by omega) (by omega) | (apply k_ldO; (· rfl); (· assumption); (· rfl); (· exact .tail _ (.head _)); (· exact map_at (by omega))) | exact k_or16 rfl rfl i2 (getD_lt10 hNt _) | exact opA); (· rfl)) | refine pN ?_ | refine bN ?_ | (apply WK.condT; (· rfl); (· exact dcd)) | (apply WK.condB; (· rfl); all_goals intro _) | fail)
          · rename_i hb
            refine ⟨(i + 1, r' ||| N.getD i 0), (.cons rfl <| .cons rfl <| .cons rfl <| .cons rfl <| .cons rfl <| .cons rfl <| .cons rfl <| .cons rfl <| .nil _), ⟨hi, or10 i2 (getD_lt10 hNt i), ?_, hF.up rfl (by simp only [next_bump]; omega)⟩, ?_⟩ <;> dsimp only
            · rw [← i3, show m - i = m - (i + 1) + 1 by omega, swS, if_pos hb]
            · omega
          · rename_i hb
            refine ⟨(i + 1, r'), (.cons rfl <| .cons rfl <| .cons rfl <| .cons rfl <| .cons rfl <| .cons rfl <| .cons rfl <| .cons rfl <| .nil _), ⟨hi, i2, ?_, hF.up rfl (by simp only [next_bump]; omega)⟩, ?_⟩ <;> dsimp only
            · rw [← i3, show m - i = m - (i + 1) + 1 by omega, swS, if_neg (by rw [hb]; decide)]
            · omega
        · repeat' (first | refine WK.seq ?_ | refine WK.exit ?_ | (apply WK.reg; (· exact lnn)) | refine WKO.nil ?_ | ((first | apply WKO.op); (· first | exact k_mv rfl | exact opA); (· rfl)) | refine pN ?_ | refine pX ?_ | refine bN ?_ | refine bX ?_ | (apply WK.condF; (· rfl); (· exact dcd)) | fail)
          refine ⟨(k + 1, r'), (.cons rfl <| .cons rfl <| .cons rfl <| .cons rfl <| .cons rfl <| .nil _), ⟨hk, i2, ?_, hF.up rfl (by simp only [next_bump]; omega)⟩, ?_⟩ <;> dsimp only
          · rw [show m - i = 0 by omega, swS] at i3
            rw [← h3, show m - k = m - (k + 1) + 1 by omega, reN, hNl, i3]
          · omega
      · repeat' (first | refine WK.seq ?_ | refine WK.ret ?_ | refine WK.exit ?_ | (apply WK.reg; (· exact lnn)) | refine WKO.nil ?_ | ((first | apply WKO.op); (· first | exact k_mv rfl | exact k_call rfl rfl (h67 _ _ h2) | exact opA); (· rfl)) | refine pN ?_ | refine pX ?_ | refine bX ?_ | (apply WK.condF; (· rfl); (· exact dcd)) | fail)
        have hkm : k = m := by omega
        subst hkm
        refine ⟨nofun, _, rfl, .inr ⟨?_, k, q, G, M, rfl, by omega, by omega, hz, by rw [hq, List.length_map], hqE, ?_, T, ?_⟩⟩
        · simp only [grZ, hall, Bool.and_true, Bool.and_eq_true, decide_eq_true_eq]
          exact ⟨⟨c1, c2⟩, c3⟩
        · rw [show k - k = 0 by omega, reN] at h3
          rw [hNN, conS, hNl, ← h3]
          rfl
        · rw [hNN]
          exact hF.up rfl (by simp only [next_bump]; omega)
    · have hg : grZ (m : Int) l = false := by rw [grZ, hall, Bool.and_false]
      repeat' (first | refine pR ?_ | refine bR ?_ | fail)
      refine ⟨nofun, [.nilp, .bool false], ?_, .inl ⟨hg, rfl, hk, hnx⟩⟩
      simp only [resK, resK1, hs 4 .nilp rfl, hs 5 (.bool false) rfl, Option.bind_some]
  · have hg : grZ n l = false := by
      rw [Bool.eq_false_iff]
      intro w
      simp only [grZ, Bool.and_eq_true, decide_eq_true_eq] at w
      exact hc ⟨w.1.1.1, w.1.1.2, w.1.2⟩
    repeat' (first | refine WK.seq ?_ | refine WK.ret ?_ | (apply WK.reg; (· exact lnn)) | refine WKO.nil ?_ | ((first | apply WKO.op | ((first | apply WKO.gop); (· rfl); (· exact dcd))); (· first | exact k_mv rfl | exact k_lenE rfl hX | exact k_lss0 rfl rfl | exact k_gtr0 rfl rfl | exact opA); (· rfl)) | ((first | apply WKO.gnoF); (· rfl); (· exact dcd)) | ((first | apply WKO.gsp); (· rfl); all_goals ((fail_if_success (refine known ?_ ?_; (· assumption))); intro _)) | refine pN ?_ | refine pR ?_ | (apply WK.condT; (· rfl); (· exact dcd)) | fail)
    all_goals first
      | exact ⟨nofun, _, rfl, .inl ⟨hg, rfl, fun _ _ => rfl, by simp only [next_bump]; omega⟩⟩
      | (exfalso; omega)
end Go.Proofs.Ytpbighinamljbaa.PA
namespace Go.Proofs.Ytpbighinamljbaa.PA
open Go Go.Eng Go.Proofs
def Kp (H H' : AHeap) : Prop := H.next ≤ H'.next ∧ ∀ k, k < H.next → H'.get k = H.get k
theorem Kp.refl (H : AHeap) : Kp H H := ⟨Nat.le_refl _, fun _ _ => rfl⟩
theorem Kp.up {H H' H2 : AHeap} (h : Kp H H') (hm : H2.m = H'.m) (hn : H'.next ≤ H2.next) : Kp H H2 := ⟨Nat.le_trans h.1 hn, fun k hk => by
  have : H2.get k = H'.get k := by unfold AHeap.get; rw [hm]
  exact this.trans (h.2 k hk)⟩
theorem Kp.trans {H H' H2 : AHeap} (h : Kp H H') (h2 : Kp H' H2) : Kp H H2 := ⟨Nat.le_trans h.1 h2.1, fun k hk => (h2.2 k (Nat.lt_of_lt_of_le hk h.1)).trans (h.2 k hk)⟩
theorem Kp.bump {H : AHeap} (k : Nat) : Kp H (H.bump k) := ⟨by simp only [next_bump]; omega, fun _ _ => rfl⟩
theorem _root_.Go.Eng.HF.kp {H0 H : AHeap} {T : Nat} {fs : List (Nat × AObj)} (h : HF H0 [] T fs H) : Kp H0 H := ⟨Nat.le_trans h.base h.le, fun k hk => h.fr k hk (by simp)⟩
theorem _root_.Go.Eng.HF.callK {H0 H H' : AHeap} {mod : List Nat} {T : Nat} {fs : List (Nat × AObj)} (h : HF H0 mod T fs H) (hk : Kp H H') : HF H0 mod T fs H' :=
  h.call (mod' := []) (fun k hk' _ => hk.2 k hk') hk.1 (by simp) (by simp)
theorem hf0 (H : AHeap) : HF H [] H.next [] H := ⟨by simp, by simp, by simp, Nat.le_refl _, Nat.le_refl _, fun _ _ _ => rfl⟩
theorem RdR.kp {z len : Nat} {H H' : AHeap} {X : AV} {cs : List AV} (h : RdR z H X len cs) (hk : Kp H H') : RdR z H' X len cs := h.frame hk.1 fun i hi => hk.2 i (h.own_lt hi)
end Go.Proofs.Ytpbighinamljbaa.PA
namespace Go.Proofs.Ytpbighinamljbaa.PA
open Go Go.Eng Go.Proofs
theorem Kp.get {H0 H : AHeap} {P : Nat} {o : AObj} (h : Kp H0 H) (hP : H0.get P = some o) (hlt : P < H0.next) : H.get P = some o := (h.2 P hlt).trans hP
section
variable {cf : CF} {fuel P : Nat} {H0 : AHeap} {n : Int}
end
end Go.Proofs.Ytpbighinamljbaa.PA
namespace Go.Proofs.Ytpbighinamljbaa.PA
open Go Go.Eng Go.Proofs
theorem k_mkfn {cf : CF} {n f : Nat} {H : AHeap} {l : KL0} {xs : List XO} {av : List AV} (h : evL (evK l) xs = some av) : XV cf l H n (.mkfn f xs) = some (.fn f av, H) := k_any (by simp only [xval, xop, h])
theorem pow11 {m : Nat} (h : m ≤ 10) : 2 ^ m ≤ 1024 := Nat.pow_le_pow_right (n := 2) (by omega) h
def vC (N : List Nat) (inf : Nat) : Prs → Nat → Option Nat
  | [], busy => some busy
  | (a, b) :: l, busy => if bt inf a = true ∧ bt inf b = false ∧ bt busy a = false ∧ bt busy b = false ∧ bt (N.getD a 0) b = true then vC N inf l (busy ||| (2 ^ a ||| 2 ^ b)) else none
def vR (N : List Nat) : List Prs → Nat → Option Nat
  | [], inf => some inf
  | l :: ls, inf => match vC N inf l 0 with
    | none => none
    | some busy => vR N ls (inf ||| busy)
end Go.Proofs.Ytpbighinamljbaa.PA
namespace Go.Proofs.Ytpbighinamljbaa.PA
open Go Go.Eng Go.Proofs
attribute [local irreducible] inZ
end Go.Proofs.Ytpbighinamljbaa.PA
namespace Go.Proofs.Ytpbighinamljbaa.PA
open Go Go.Eng Go.Proofs
end Go.Proofs.Ytpbighinamljbaa.PA
namespace Go.Proofs.Ytpbighinamljbaa.PA
open Go Go.Eng Go.Proofs
def Inn (a b : Nat) : Prop := ∀ i, a.testBit i = true → b.testBit i = true
theorem Inn.refl (a : Nat) : Inn a a := fun _ h => h
theorem Inn.trans {a b c : Nat} (h : Inn a b) (g : Inn b c) : Inn a c := fun i hi => g i (h i hi)
theorem Inn.orl (a b : Nat) : Inn a (a ||| b) := fun i h => by rw [Nat.testBit_or, h]; rfl
theorem Inn.orr (a b : Nat) : Inn b (a ||| b) := fun i h => by rw [Nat.testBit_or, h]; simp
theorem Inn.or {a b c : Nat} (h : Inn a c) (g : Inn b c) : Inn (a ||| b) c := fun i hi => by
  rw [Nat.testBit_or, Bool.or_eq_true] at hi
  exact hi.elim (h i) (g i)
theorem Inn.eq {a b : Nat} (h : Inn a b) (g : Inn b a) : a = b := by
  apply Nat.eq_of_testBit_eq
  intro i
  rw [Bool.eq_iff_iff]
  exact ⟨h i, g i⟩
theorem arN_ge {N : List Nat} {set : Nat} : ∀ (s v acc : Nat), Inn acc (arN N set s v acc)
  | 0, _, acc => Inn.refl _
  | s + 1, v, acc => by
    rw [arN]
    refine Inn.trans ?_ (arN_ge s (v + 1) _)
    split
    · exact Inn.orl _ _
    · exact Inn.refl _
theorem arN_in {N : List Nat} {set : Nat} : ∀ (s v acc i : Nat), v ≤ i → i < v + s → bt set i = true → Inn (N.getD i 0) (arN N set s v acc)
  | 0, v, _, i, h, h', _ => by omega
  | s + 1, v, acc, i, h, h', hb => by
    rw [arN]
    by_cases e : i = v
    · subst e
      rw [if_pos hb]
      exact Inn.trans (Inn.orr _ _) (arN_ge _ _ _)
    · exact arN_in s (v + 1) _ i (by omega) (by omega) hb
theorem arN_le {N : List Nat} {set C : Nat} : ∀ (s v acc : Nat), Inn acc C → (∀ i, v ≤ i → i < v + s → bt set i = true → Inn (N.getD i 0) C) → Inn (arN N set s v acc) C
  | 0, _, _, h, _ => h
  | s + 1, v, acc, h, g => by
    rw [arN]
    refine arN_le s (v + 1) _ ?_ (fun i h1 h2 => g i (by omega) (by omega))
    split
    · rename_i hb
      exact Inn.or h (g v (Nat.le_refl _) (by omega) hb)
    · exact h
def ClN (N : List Nat) (C : Nat) : Prop := ∀ i, i < N.length → bt C i = true → Inn (N.getD i 0) C
theorem around_in {N : List Nat} {set i : Nat} (hi : i < N.length) (hb : bt set i = true) : Inn (N.getD i 0) (around N set) := arN_in _ _ _ i (Nat.zero_le _) (by omega) hb
theorem around_cl {N : List Nat} {C : Nat} (h : ClN N C) : Inn (around N C) C := arN_le _ _ _ (fun i h => by simp at h) (fun i _ h2 hb => h i (by omega) hb)
theorem cl_around {N : List Nat} {C : Nat} (h : Inn (around N C) C) : ClN N C := fun i hi hb => (around_in hi hb).trans h
theorem ball_cl {N : List Nat} {C : Nat} (h : ClN N C) : ∀ {r set : Nat}, Inn set C → Inn (ballN N r set) C
  | 0, _, g => g
  | r + 1, set, g => by
    rw [ballN]
    refine ball_cl h (Inn.or g ?_)
    exact arN_le _ _ _ (fun i h => by simp at h) (fun i _ h2 hb => h i (by omega) (by rw [bt_eq] at hb ⊢; exact g i hb))
theorem swS_ge {N : List Nat} : ∀ (s i r : Nat), Inn r (swS N s i r)
  | 0, _, _ => Inn.refl _
  | s + 1, i, r => by
    rw [swS]
    refine Inn.trans ?_ (swS_ge s (i + 1) _)
    split
    · exact Inn.orl _ _
    · exact Inn.refl _
theorem swS_in {N : List Nat} : ∀ (s v r i : Nat), v ≤ i → i < v + s → bt r i = true → Inn (N.getD i 0) (swS N s v r)
  | 0, v, _, i, h, h', _ => by omega
  | s + 1, v, r, i, h, h', hb => by
    rw [swS]
    by_cases e : i = v
    · subst e
      rw [if_pos hb]
      exact Inn.trans (Inn.orr _ _) (swS_ge _ _ _)
    · refine swS_in s (v + 1) _ i (by omega) (by omega) ?_
      split
      · rw [bt_eq] at hb ⊢
        exact Inn.orl _ _ i hb
      · exact hb
theorem swS_cl {N : List Nat} {C : Nat} (hC : ClN N C) : ∀ (s i r : Nat), i + s ≤ N.length → Inn r C → Inn (swS N s i r) C
  | 0, _, _, _, h => h
  | s + 1, i, r, hl, h => by
    rw [swS]
    refine swS_cl hC s (i + 1) _ (by omega) ?_
    split
    · rename_i hb
      exact Inn.or h (hC i (by omega) (by rw [bt_eq] at hb ⊢; exact h i hb))
    · exact h
theorem reN_cl {N : List Nat} {C : Nat} (hC : ClN N C) : ∀ (k r : Nat), Inn r C → Inn (reN N k r) C
  | 0, _, h => h
  | k + 1, r, h => by
    rw [reN]
    exact reN_cl hC k _ (swS_cl hC _ _ _ (by omega) h)
theorem ball_re {N : List Nat} : ∀ (k a r : Nat), Inn a r → Inn (ballN N k a) (reN N k r)
  | 0, _, _, h => h
  | k + 1, a, r, h => by
    rw [ballN, reN]
    refine ball_re k _ _ (Inn.or (h.trans (swS_ge _ _ _)) ?_)
    exact arN_le _ _ _ (fun i h => by simp at h) (fun i _ h2 hb => swS_in _ _ _ i (Nat.zero_le _) (by omega) (by rw [bt_eq] at hb ⊢; exact h i hb))
theorem cnt_lt {a b : Nat} (h : Inn a b) {i : Nat} (hi : i < 10) (h1 : b.testBit i = true) (h2 : a.testBit i = false) : cnt a < cnt b := by
  unfold cnt memb
  have hs : ((List.range 10).filter fun i => a.testBit i).Sublist (((List.range 10).filter fun i => b.testBit i).filter fun i => a.testBit i) := by
    rw [List.filter_filter]
    rw [show (fun i => a.testBit i && b.testBit i) = fun i => a.testBit i by
      funext i
      cases q : a.testBit i with
      | false => rfl
      | true => rw [h i q]; rfl]
    exact List.Sublist.refl _
  refine Nat.lt_of_le_of_lt hs.length_le ?_
  refine List.length_filter_lt_length_iff_exists.2 ⟨i, ?_, by simp [h2]⟩
  simp [hi, h1]
theorem cnt_full {n a : Nat} (hn : n ≤ 10) (h : a < 2 ^ n) : cnt a = n ↔ a = 2 ^ n - 1 := by
  have hp : ∀ n, n < 11 → ∀ a, a < 1024 → a < 2 ^ n → (decide (cnt a = n) = decide (a = 2 ^ n - 1)) := by decide +kernel
  have := hp n (by omega) a (Nat.lt_of_lt_of_le h (pow11 hn)) h
  rw [← decide_eq_true_iff (p := cnt a = n), this, decide_eq_true_iff]
theorem bit10 {a i : Nat} (h : a < 1024) (hi : a.testBit i = true) : i < 10 := by
  rcases Nat.lt_or_ge i 10 with q | q
  · exact q
  · have : a < 2 ^ i := Nat.lt_of_lt_of_le h (Nat.pow_le_pow_right (n := 2) (by omega) q)
    rw [Nat.testBit_lt_two_pow this] at hi
    cases hi
theorem ball_grow {N : List Nat} (hN : ∀ m ∈ N, m < 1024) : ∀ k, ClN N (ballN N k 1) ∨ k + 1 ≤ cnt (ballN N k 1)
  | 0 => .inr (show 1 ≤ cnt 1 from by decide)
  | k + 1 => by
    have hB : ballN N k 1 < 1024 := ballN_lt hN k 1 (by omega)
    rw [ballN_step]
    by_cases hc : Inn (around N (ballN N k 1)) (ballN N k 1)
    · have e : ballN N k 1 ||| around N (ballN N k 1) = ballN N k 1 := Inn.eq (Inn.or (Inn.refl _) hc) (Inn.orl _ _)
      rw [e]
      exact .inl (cl_around hc)
    · rcases ball_grow hN k with h | h
      · exact absurd (around_cl h) hc
      · obtain ⟨i, hi⟩ := Classical.not_forall.1 hc
        obtain ⟨h1, h2⟩ := Classical.not_imp.1 hi
        have := cnt_lt (Inn.orl (ballN N k 1) (around N (ballN N k 1))) (i := i) (bit10 (around_lt hN _) h1) (by rw [Nat.testBit_or, h1]; simp) (by simpa using h2)
        exact .inr (by omega)
end Go.Proofs.Ytpbighinamljbaa.PA
namespace Go.Proofs.Ytpbighinamljbaa.PA
open Go Go.Eng Go.Proofs
theorem inn_full {a n : Nat} (h : a < 2 ^ n) : Inn a (2 ^ n - 1) := fun i hi => by
  rw [Nat.testBit_two_pow_sub_one]
  rcases Nat.lt_or_ge i n with q | q
  · exact decide_eq_true q
  · rw [Nat.testBit_lt_two_pow (Nat.lt_of_lt_of_le h (Nat.pow_le_pow_right (n := 2) (by omega) q))] at hi
    cases hi
theorem full_lt {a n : Nat} (h : Inn a (2 ^ n - 1)) : a < 2 ^ n := by
  apply Nat.lt_pow_two_of_testBit
  intro i hi
  cases q : a.testBit i with
  | false => rfl
  | true =>
    have := h i q
    rw [Nat.testBit_two_pow_sub_one, decide_eq_true_iff] at this
    omega
theorem ball_ge {N : List Nat} : ∀ (k a : Nat), Inn a (ballN N k a)
  | 0, _ => Inn.refl _
  | k + 1, a => (Inn.orl _ _).trans (ball_ge k _)
theorem conS_eq {N : List Nat} (hN : ∀ m ∈ N, m < 2 ^ N.length) (h1 : 1 ≤ N.length) (h2 : N.length ≤ 10) : conS N = connN N := by
  have hp := pow11 h2
  have hN' : ∀ m ∈ N, m < 1024 := fun m hm => Nat.lt_of_lt_of_le (hN m hm) hp
  have hg : ∀ i, N.getD i 0 < 2 ^ N.length := fun i => by
    rw [List.getD_eq_getElem?_getD]
    cases q : N[i]? with
    | none => simp only [Option.getD_none]; exact Nat.lt_of_lt_of_le Nat.zero_lt_one Nat.one_le_two_pow
    | some m => exact hN m (List.mem_of_getElem? q)
  have hfull : ClN N (2 ^ N.length - 1) := fun i _ _ => inn_full (hg i)
  have h1f : Inn 1 (2 ^ N.length - 1) := inn_full (by
    have : 2 ^ 1 ≤ 2 ^ N.length := Nat.pow_le_pow_right (by omega) h1
    omega)
  have hk : ClN N (ballN N (N.length - 1) 1) := by
    rcases ball_grow hN' (N.length - 1) with h | h
    · exact h
    · have hin : Inn (ballN N (N.length - 1) 1) (2 ^ N.length - 1) := ball_cl hfull h1f
      have hc : cnt (2 ^ N.length - 1) = N.length := (cnt_full h2 (by have := Nat.one_le_two_pow (n := N.length); omega)).2 rfl
      have he : ballN N (N.length - 1) 1 = 2 ^ N.length - 1 := by
        refine Inn.eq hin (fun i hi => ?_)
        cases q : (ballN N (N.length - 1) 1).testBit i with
        | true => rfl
        | false =>
          have := cnt_lt hin (i := i) (bit10 (by omega) hi) hi q
          omega
      rw [he]
      exact hfull
  have hB : ClN N (ballN N N.length 1) := by
    have e : ballN N N.length 1 = ballN N (N.length - 1) 1 := by
      conv => lhs; rw [show N.length = N.length - 1 + 1 by omega]
      rw [ballN_step]
      exact Inn.eq (Inn.or (Inn.refl _) (around_cl hk)) (Inn.orl _ _)
    rw [e]
    exact hk
  have hR : reN N N.length 1 = ballN N N.length 1 := Inn.eq (reN_cl hB _ _ (ball_ge _ _)) (ball_re _ _ _ (Inn.refl _))
  have hlt : reN N N.length 1 < 2 ^ N.length := full_lt (reN_cl hfull _ _ h1f)
  rw [conS, connN, Bool.eq_iff_iff, decide_eq_true_iff, decide_eq_true_iff, cnt_full h2 hlt, hR]
theorem orAt_lt2 {N : List Nat} {n i v : Nat} (h : ∀ m ∈ N, m < 2 ^ n) (hv : v < 2 ^ n) : ∀ m ∈ orAt N i v, m < 2 ^ n := fun m hm => by
  have hg : N.getD i 0 < 2 ^ n := by
    rw [List.getD_eq_getElem?_getD]
    cases q : N[i]? with
    | none => simp only [Option.getD_none]; exact Nat.lt_of_lt_of_le Nat.zero_lt_one Nat.one_le_two_pow
    | some m => exact h m (List.mem_of_getElem? q)
  rcases List.mem_or_eq_of_mem_set hm with hm | rfl
  · exact h m hm
  · exact Nat.or_lt_two_pow hg hv
theorem near_fold_lt2 {n : Nat} : ∀ (q : Prs) (N : List Nat), Egs n q → (∀ m ∈ N, m < 2 ^ n) → ∀ m ∈ q.foldl nearSt N, m < 2 ^ n
  | [], N, _, h => h
  | c :: q, N, hq, h => by
    obtain ⟨h1, h2, _⟩ := hq c (List.mem_cons_self ..)
    exact near_fold_lt2 q _ (fun d hd => hq d (List.mem_cons_of_mem _ hd)) (orAt_lt2 (orAt_lt2 h (Nat.pow_lt_pow_right (by omega) h2)) (Nat.pow_lt_pow_right (by omega) h1))
theorem nearN_lt2 {n : Nat} {q : Prs} (hq : Egs n q) : ∀ m ∈ nearN n q, m < 2 ^ n := near_fold_lt2 q _ hq (fun m hm => by
  have := List.eq_of_mem_replicate hm
  subst this
  exact Nat.lt_of_lt_of_le Nat.zero_lt_one Nat.one_le_two_pow)
theorem conS_near {n : Nat} {q : Prs} (h1 : 1 ≤ n) (h2 : n ≤ 10) (hq : Egs n q) : conS (nearN n q) = connN (nearN n q) := by
  have hl := nearN_len n q
  exact conS_eq (by rw [hl]; exact nearN_lt2 hq) (by omega) (by omega)
end Go.Proofs.Ytpbighinamljbaa.PA
namespace Go.Proofs.Ytpbighinamljbaa.PA
open Go Go.Eng Go.Proofs
theorem cfG_run {k f : Nat} {fn : XFunc} {args : List AV} {H : AHeap} {P : AV → AHeap → Prop} (hK : KG f args H = none) (hF : F f = some fn) (h : ∃ u H', xfunc (cfG k) 2000 fn args H = some (u, H') ∧ P u H') : ∃ u H', cfG (k + 1) f args H = some (u, H') ∧ P u H' := by
  obtain ⟨u, H', h1, h2⟩ := h
  exact ⟨u, H', (cfG_step hK hF).trans h1, h2⟩
section
variable {k P Q : Nat} {H : AHeap} {n : Int}
theorem g_19 {m : Nat} {q : Prs} {X : AV} (hm : m ≤ 10) (hq : Egs m q) (hX : RdR 2 H X q.length (prsC q)) (hl : q.length ≤ 1000) :
    ∃ u H', cfG (k + 1) 19 [nA m, X] H = some (u, H') ∧ ∃ i, u = .sl i 0 m m ∧ H.next ≤ i ∧ i < H'.next ∧ H'.get i = some (.cells ((nearN m q).map nA) none) ∧ ∀ k, k < H.next → H'.get k = H.get k :=
  cfG_run rfl rfl (x19 hm hq hX hl (by omega))
end
end Go.Proofs.Ytpbighinamljbaa.PA
namespace Go.Proofs.Ytpbighinamljbaa.PA
open Go Go.Eng Go.Proofs
end Go.Proofs.Ytpbighinamljbaa.PA
namespace Go.Eng
theorem Clean.upd {H H1 : AHeap} {n : Nat} (h : Clean H) (ho : ∀ j, j ≠ n → H1.get j = H.get j) (hn : H1.next = H.next) (hl : n < H.next) : Clean H1 := fun j hj => by rw [ho j (by omega)]; exact h j (by omega)
theorem less_get {H : AHeap} {base R : Nat} : ∀ (l : List Nat) (H : AHeap), (∀ i ∈ l, R ≠ base + i) → (H.less base l).get R = H.get R
  | [], H, _ => rfl
  | i :: l, H, h => by
    unfold AHeap.less
    rw [less_get (H := H) l _ (fun j hj => h j (List.mem_cons_of_mem _ hj)), AHeap.get_set, if_neg (h i List.mem_cons_self)]
theorem fresh_of {ops : List XOper} {tr : List St} {base : Nat} {nn : List Nat} (h : ∀ k ∈ nn, ∃ o sk, ops[k]? = some o ∧ tr[k]? = some sk ∧ o.guard = none ∧ ∀ i, i ≤ k → ∃ si, tr[i]? = some si ∧ si.H.get (base + k) = none) : freshOk ops tr base nn = true := by
  unfold freshOk
  rw [List.all_eq_true]
  intro k hk
  obtain ⟨o, sk, h1, h2, h3, h4⟩ := h k hk
  rw [h1, h2]
  simp only
  rw [List.all_eq_true]
  intro i _
  rw [Bool.or_eq_true]
  by_cases hi : k < i
  · left
    have hw : wantedA sk.tm o = some true := by unfold wantedA; rw [h3]
    rw [hw]
    simpa using hi
  · right
    obtain ⟨si, q1, q2⟩ := h4 i (by omega)
    rw [q1]
    simp only
    rw [q2]
    rfl
end Go.Eng
namespace Go.Proofs.Ytpbighinamljbaa.PA
open Go Go.Eng Go.Proofs
end Go.Proofs.Ytpbighinamljbaa.PA
namespace Go.Eng
inductive TrP : List St → List (KL0 × AHeap) → Prop
  | nil : TrP [] []
  | cons {tm : Tr AV} {H : AHeap} {l : KL0} {tr : List St} {ps : List (KL0 × AHeap)} (h : Kw tm l) (t : TrP tr ps) : TrP (⟨tm, H⟩ :: tr) ((l, H) :: ps)
theorem TrP.at {tr : List St} {ps : List (KL0 × AHeap)} (h : TrP tr ps) {i : Nat} {p : KL0 × AHeap} (hp : ps[i]? = some p) : ∃ tm, tr[i]? = some ⟨tm, p.2⟩ ∧ Kw tm p.1 := by
  induction h generalizing i with
  | nil => cases hp
  | cons h t ih =>
    cases i with
    | zero => cases hp; exact ⟨_, rfl, h⟩
    | succ i => exact ih hp
theorem TrP.last {tr : List St} {ps : List (KL0 × AHeap)} (h : TrP tr ps) {p : KL0 × AHeap} (hp : ps.getLast? = some p) : ∃ tm, tr.getLast? = some ⟨tm, p.2⟩ ∧ Kw tm p.1 := by
  induction h with
  | nil => cases hp
  | cons h t ih =>
    cases t with
    | nil => cases hp; exact ⟨_, rfl, h⟩
    | cons h' t' =>
      rw [List.getLast?_cons_cons] at hp ⊢
      exact ih hp
theorem TrP.len {tr : List St} {ps : List (KL0 × AHeap)} (h : TrP tr ps) : tr.length = ps.length := by
  induction h with
  | nil => rfl
  | cons h t ih => simp [ih]
def WKT (cf : CF) (ops : List XOper) (n : Nat) (l : KL0) (H : AHeap) (Q : List (KL0 × AHeap) → Prop) : Prop :=
  ∀ tm, Kw tm l → ∃ tr ps, xtrace cf ops n ⟨tm, H⟩ = some tr ∧ TrP tr ps ∧ Q ps
section
variable {cf : CF} {fuel n : Nat} {l : KL0} {H : AHeap} {Q : List (KL0 × AHeap) → Prop}
theorem WKT.nil (h : Q [(l, H)]) : WKT cf [] n l H Q := fun tm ht => ⟨_, _, rfl, .cons ht .nil, h⟩
theorem WKT.op {d : Nat} {op : XOp} {r : List XOper} {v : AV} {H1 : AHeap} (h : XV cf l H n op = some (v, H1)) (ha : allSm l op.opnds = true) (k : WKT cf r (n + 1) ((d, v) :: l) H1 fun ps => Q ((l, H) :: ps)) : WKT cf (⟨some d, op, none⟩ :: r) n l H Q := fun tm ht => by
  obtain ⟨tr, ps, h1, h2, h3⟩ := k _ (ht.set d v)
  unfold XV at h
  exact ⟨_, _, by simp only [xtrace, xstep, wantedA, (xval_kw ht ha).trans h, putT, h1, Option.map_some], .cons ht h2, h3⟩
theorem WKT.opn {op : XOp} {r : List XOper} {v : AV} {H1 : AHeap} (h : XV cf l H n op = some (v, H1)) (ha : allSm l op.opnds = true) (k : WKT cf r (n + 1) l H1 fun ps => Q ((l, H) :: ps)) : WKT cf (⟨none, op, none⟩ :: r) n l H Q := fun tm ht => by
  obtain ⟨tr, ps, h1, h2, h3⟩ := k _ ht
  unfold XV at h
  exact ⟨_, _, by simp only [xtrace, xstep, wantedA, (xval_kw ht ha).trans h, putT, h1, Option.map_some], .cons ht h2, h3⟩
theorem WKT.callV {d g : Nat} {x : XO} {xs : List XO} {cs av : List AV} {P : AV → AHeap → Prop} {r : List XOper} (hx : evK l x = some (.fn g cs)) (hl : evL (evK l) xs = some av) (ha : allSm l (x :: xs) = true) (h : ∃ v H', cf g (av ++ cs) H = some (v, H') ∧ P v H')
    (k : ∀ v H', P v H' → WKT cf r (n + 1) ((d, v) :: l) H' fun ps => Q ((l, H) :: ps)) : WKT cf (⟨some d, .call x xs, none⟩ :: r) n l H Q := by
  obtain ⟨v, H', h1, h2⟩ := h
  exact WKT.op (H1 := H') (k_any (op_call hx hl h1)) ha (k v H' h2)
def LooseP (ops : List XOper) (ps : List (KL0 × AHeap)) (base : Nat) (nn : List Nat) (q : Nat × List Nat × List Nat) : Prop :=
  ∃ d op l H v, ops[q.1]? = some ⟨d, op, none⟩ ∧ ps[q.1]? = some (l, H) ∧ allSm l op.opnds = true ∧ xop (evK l) H 0 op = .v v ∧
    ∀ j ∈ q.1 :: (q.2.1 ++ q.2.1.map (· + 1)), ∃ p, ps[j]? = some p ∧ xop (evK l) ((p.2.less base q.2.2).less base (nn.filter fun k => Nat.ble j k)) 0 op = .v v
def FreshP (ops : List XOper) (ps : List (KL0 × AHeap)) (base : Nat) (k : Nat) : Prop :=
  ∃ o, ops[k]? = some o ∧ o.guard = none ∧ ∀ i, i ≤ k → ∃ p, ps[i]? = some p ∧ p.2.get (base + k) = none
theorem WK.regT {ops : List XOper} {lo : List (Nat × List Nat × List Nat)} {nn : List Nat} {k : Nat} {R : XE → KL0 → AHeap → Prop} (hk : ops.length = k)
    (h : WKT cf ops H.next l (H.bump k) fun ps => (∀ q ∈ lo, LooseP ops ps H.next nn q) ∧ (∀ j ∈ nn, FreshP ops ps H.next j) ∧ ∃ p, ps.getLast? = some p ∧ R .normal p.1 p.2) : WK cf fuel (.regd ops lo nn) l H R := by
  unfold WK
  intro tm ht
  obtain ⟨tr, ps, h1, h2, h3, h4, p, h5, h6⟩ := h tm ht
  obtain ⟨tm', g1, g2⟩ := h2.last h5
  refine W.regd k hk ⟨tr, h1, ?_, ?_, _, g1, p.1, g2, h6⟩
  · rw [List.all_eq_true]
    intro q hq
    obtain ⟨d, op, l1, H1, v, q1, q2, q3, q4, q5⟩ := h3 q hq
    obtain ⟨t1, r1, r2⟩ := h2.at q2
    have hev : ∀ (H' : AHeap), xop (St.ev t1) H' 0 op = xop (evK l1) H' 0 op := fun H' => xop_congr fun x hx => by
      have := List.all_eq_true.1 q3 x hx
      cases e : evK l1 x with
      | none => rw [e] at this; cases this
      | some u => exact r2.ev e
    unfold looseOk
    rw [q1, r1]
    simp only [wantedA]
    rw [hev, q4]
    simp only
    rw [List.all_eq_true]
    intro j hj
    obtain ⟨pj, s1, s2⟩ := q5 j hj
    obtain ⟨tj, s3, _⟩ := h2.at s1
    rw [s3]
    simp only
    rw [hev, s2]
    exact AV.beq_refl v
  · refine fresh_of fun j hj => ?_
    obtain ⟨o, q1, q2, q3⟩ := h4 j hj
    obtain ⟨pj, s1, _⟩ := q3 j (Nat.le_refl _)
    obtain ⟨tj, s3, _⟩ := h2.at s1
    refine ⟨o, _, q1, s3, q2, fun i hi => ?_⟩
    obtain ⟨pi, u1, u2⟩ := q3 i hi
    obtain ⟨ti, u3, _⟩ := h2.at u1
    exact ⟨_, u3, u2⟩
theorem WKO.append1E {d1 d2 z bytes m : Nat} {x : XO} {zs : List AV} {ps : List (Nat × Nat × XO)} {r : List XOper} {R : KL0 → AHeap → Prop} {v : AV} {cs new : List AV}
    (hR : RowE z H v m cs) (hx : evK ((d1, .sl n 0 1 1) :: l) x = some v) (hps : (evParts (evK l) ps).bind (fillA (List.replicate 1 zs).flatten) = some new) (ha : allSm l (XOp.bslice zs ps 1).opnds = true) (hz : 0 < z) (hl : m + 1 ≤ 2 ^ 30) (hb : bytes ≤ 2 ^ 16) (hnl : new.length = z) (ho : new.all AV.oneCell = true)
    (hn : n < H.next) (hf : v.own ≠ some n)
    (k : ∀ v' H1, Row z H1 v' (m + 1) (cs ++ new) → H.next ≤ H1.next → (∀ j, j < H.next → j ≠ n → v.own ≠ some j → H1.get j = H.get j) → (∀ i, v'.own = some i → v.own = some i ∨ H.next ≤ i) →
      WKO cf r (n + 1 + 1) ((d2, v') :: (d1, .sl n 0 1 1) :: l) H1 R) :
    WKO cf (⟨some d1, .bslice zs ps 1, none⟩ :: ⟨some d2, .app z bytes x (.t d1), none⟩ :: r) n l H R := by
  have hR1 : RowE z (H.set n (some (.cells new none))) v m cs := hR.frame (Nat.le_refl _) (fun i hi => by rw [AHeap.get_set, if_neg (by intro e; rw [e] at hi; exact hf hi)])
  have hsrc : srcA (H.set n (some (.cells new none))) z 1 (.sl n 0 1 1) = some new := by
    simp only [srcA, AHeap.get_set, if_true, hnl, Nat.one_mul, Nat.zero_add, Nat.le_refl, List.drop_zero]
    rw [List.take_of_length_le (by omega)]
  obtain ⟨v', H1, h1, h2, h3, h4, h5⟩ := hR1.app (bytes := bytes) hz hl (by omega) hb (y := .sl n 0 1 1) rfl hsrc (by omega) ho
  have e1 : evK ((d1, AV.sl n 0 1 1) :: l) (.t d1) = some (.sl n 0 1 1) := by simp only [evK, look]; simp
  refine WKO.op (v := .sl n 0 1 1) (H1 := H.set n (some (.cells new none))) (k_any ?_) ha (WKO.op (v := v') (H1 := H1) (k_any ?_) ?_ (k v' H1 h2 h3 (fun j hj hjn hjo => ?_) h5))
  · simp only [xval, xop, hps]
  · simp only [xval, xop, hx, e1, h1]
  · simp [allSm, XOp.opnds, hx, e1]
  · rw [h4 j hj hjo, AHeap.get_set, if_neg hjn]
end
def Clp (z : Nat) (H : AHeap) (X : AV) (m : Nat) (cs : List AV) : Prop :=
  m < 1048576 ∧ ((X = .nils ∧ m = 0 ∧ cs = []) ∨ ∃ i full opn, X = .sl i 0 m m ∧ H.get i = some (.cells full opn) ∧ full.take (m * z) = cs ∧ m * z ≤ full.length)
theorem Clp.frame {z m : Nat} {H H' : AHeap} {X : AV} {cs : List AV} (h : Clp z H X m cs) (hg : ∀ i, X.own = some i → H'.get i = H.get i) : Clp z H' X m cs := by
  obtain ⟨h0, h⟩ := h
  refine ⟨h0, ?_⟩
  rcases h with h | ⟨i, full, opn, rfl, h1, h2, h3⟩
  · exact .inl h
  · exact .inr ⟨i, full, opn, rfl, (hg i rfl).trans h1, h2, h3⟩
theorem Clp.app {z bytes m j : Nat} {H : AHeap} {X : AV} {cs new : List AV} (h : Clp z H X m cs) (hb : bytes ≤ 2 ^ 16) (hj : H.get j = some (.cells new none)) (hnl : new.length = z) (ho : new.all AV.oneCell = true) : appA H z bytes X (.sl j 0 1 1) = .eff (.sl H.next 0 (m + 1) openCap) (H.add (.cells (cs ++ new) (some z))) := by
  have hsrc : srcA H z 1 (.sl j 0 1 1) = some new := by
    simp only [srcA, hj, hnl, Nat.one_mul, Nat.zero_add, Nat.le_refl, List.drop_zero, if_true]
    rw [List.take_of_length_le (by omega)]
  obtain ⟨h0, ⟨rfl, rfl, rfl⟩ | ⟨i, full, opn, rfl, h1, h2, h3⟩⟩ := h
  · simp only [appA, lenA, hsrc, ho]
    rw [if_neg (by simp; omega), if_neg (by omega), if_neg (by omega)]
    rfl
  · simp only [appA, lenA, hsrc, ho, h1]
    rw [if_neg (by simp; omega), if_neg (by omega), if_neg (by omega), if_neg (by omega), if_pos (by unfold openAt; omega), if_neg (by omega), List.drop_zero, h2]
end Go.Eng
