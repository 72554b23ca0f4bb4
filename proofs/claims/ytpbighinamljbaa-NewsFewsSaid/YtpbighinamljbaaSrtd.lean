/- slices.Sorted(maps.Keys(m)) as a known call: whatever order, one end. No condition. -/
import Derived.Test.YtpbighinamljbaaCol
import Derived.Test.YtpbighinamljbaaLits
set_option linter.unusedSimpArgs false
set_option linter.unusedVariables false
namespace Go.Eng
variable {P : Program}
/-- A region in which one call may answer in several ways. -/
theorem region_set {cf : CF} (hcf : CFok P cf) {id nt : Nat} {ops : Array Oper} {pre post : List XOper} {d : Nat} {f : XO} {args : List XO} {g : Nat} {cs l : List AV} {s s1 : St} {S : AV → AHeap → Prop} {G : St → Prop}
    (hm : ops.toList.mapM (compOper P ops) = some (pre ++ ⟨some d, .call f args, none⟩ :: post)) (hd : ∀ x ∈ pre ++ ⟨some d, .call f args, none⟩ :: post, dstOk nt x = true)
    (h1 : xops cf pre s.H.next (bump s (pre.length + 1 + post.length)) = some s1) (h2 : St.ev s1.tm f = some (.fn g cs)) (h3 : evL (St.ev s1.tm) args = some l)
    (hf : ∃ fn, P.funcs[g]? = some fn ∧ fn.body.isNone = false ∧ (fn.name == "runtime.NumGoroutine") = false)
    (hcall : ∀ E w us, Rel E s1.H w → AVRelL E w (l ++ cs) us → Calls P g us.toArray w fun e w' => ∃ v H' u E', S v H' ∧ e = .returned u ∧ Step E s1.H w E' H' w' ∧ AVRel E' w' v u)
    (hpost : ∀ v H', S v H' → s1.H.next ≤ H'.next → ∃ s2, xops cf post (s.H.next + (pre.length + 1)) ⟨s1.tm.set d (some v), H'⟩ = some s2 ∧ G s2)
    {E : Env} {w : World} {a : Act} (hsz : a.tmps.size = nt) (hR : Rel E s.H w) (hT : TmR E w s.tm a.tmps) {Q : Exit → Act → World → Prop}
    (hQ : ∀ s2, G s2 → ∀ E' a' w', Step E s.H w E' s2.H w' → TmR E' w' s2.tm a'.tmps → a'.defers = a.defers → a'.tmps.size = nt → Q .normal a' w') : (Code.region id ops false).wp P Q a w := by
  obtain ⟨l1, l2⟩ := mapM_get hm
  have hr : List.range ops.size = List.range' 0 pre.length ++ (pre.length :: List.range' (pre.length + 1) post.length) := by
    have : ops.size = pre.length + 1 + post.length := by
      have := l1.symm
      simp only [Array.length_toList, List.length_append, List.length_cons] at this
      omega
    rw [this, List.range_eq_range', show pre.length + 1 + post.length = pre.length + (post.length + 1) by omega, ← List.range'_append_1, List.range'_succ]
    simp
  have hnone : ∀ k, E.ρ (s.H.next + k) = none := by
    intro k
    cases hq : E.ρ (s.H.next + k) with
    | none => rfl
    | some L => have := (hR.dom _ L hq).1; omega
  refine wp_region ?_
  rw [hr]
  refine ops_sound_k hcf (base := s.H.next) pre 0 (bump s (pre.length + 1 + post.length)) s1 E w a (fun k x hk => ?_) (fun x hx => by rw [hsz]; exact hd x (by simp [hx])) h1 (rel_bump (tm := s.tm) _ hR) hT (fun k _ _ => hnone k) (by show s.H.next + 0 + pre.length ≤ s.H.next + (pre.length + 1 + post.length); omega) (fun E1 a1 w1 r1 r2 r3 r4 r5 => ?_)
  · obtain ⟨o, q1, q2⟩ := l2 k x (by
      rw [List.getElem?_append_left (by
        rcases Nat.lt_or_ge k pre.length with q | q
        · exact q
        · rw [List.getElem?_eq_none q] at hk; cases hk)]
      exact hk)
    exact ⟨o, by simpa using q1, q2⟩
  · have st1 : Step E s.H w E1 s1.H w1 := rstep_step (tm := s.tm) r1
    have hnx : s.H.next + (pre.length + 1 + post.length) ≤ s1.H.next := r1.nx
    obtain ⟨o0, ho0, hc0⟩ := l2 pre.length ⟨some d, .call f args, none⟩ (by simp)
    rw [Array.getElem?_toList] at ho0
    obtain ⟨c1, c2, c3⟩ := compOper_inv hc0
    have hno : o0.guard = none := by
      rcases c3 with ⟨q, _⟩ | ⟨_, _, _, _, q, _⟩
      · exact q
      · cases q
    obtain ⟨us, he, hus⟩ := call_exec r2 c1 h2 h3 hf
    rw [wpOps_cons]
    unfold wpOp
    rw [ho0]
    simp only [Region.wanted, hno, if_true]
    refine .inl ?_
    unfold Oper.wp
    rw [he]
    simp only [Oper.upon]
    refine (hcall E1 w1 us r1.rel hus).mono ?_
    rintro e w2 ⟨v, H', u, E2, hS, rfl, st2, hv⟩
    obtain ⟨s2, hs2, hG⟩ := hpost v H' hS st2.nx
    have hT2 : TmR E2 w2 (s1.tm.set d (some v)) (a1.put o0.dst u).tmps := by
      rw [← c2]
      refine TmR.put (dst := some d) (r2.mono st2.ext) hv (fun d' hd' => ?_)
      cases hd'
      have := hd ⟨some d, .call f args, none⟩ (by simp)
      rw [r4, hsz]
      simpa [dstOk] using this
    have hnone2 : ∀ k, pre.length + 1 ≤ k → k < pre.length + 1 + post.length → E2.ρ (s.H.next + k) = none := by
      intro k k1 k2
      cases hq : E2.ρ (s.H.next + k) with
      | none => rfl
      | some L =>
        rcases st2.ids _ _ hq with q | q
        · rcases r5 _ _ q with p | p | p
          · rw [hnone k] at p; cases p
          · omega
          · have hb : (bump s (pre.length + 1 + post.length)).H.next = s.H.next + (pre.length + 1 + post.length) := rfl
            rw [hb] at p
            omega
        · omega
    refine ops_sound hcf (base := s.H.next) post (pre.length + 1) ⟨s1.tm.set d (some v), H'⟩ s2 E2 w2 (a1.put o0.dst u) (fun k x hk => ?_) (fun x hx => by rw [put_size, r4, hsz]; exact hd x (by simp [hx])) hs2 st2.rel hT2 hnone2 (by have := st2.nx; show s.H.next + (pre.length + 1) + post.length ≤ H'.next; omega) (fun E3 a3 w3 q1 q2 q3 q4 => ?_)
    · obtain ⟨o, p1, p2⟩ := l2 (pre.length + 1 + k) x (by
        rw [List.getElem?_append_right (by omega), show pre.length + 1 + k - pre.length = k + 1 by omega, List.getElem?_cons_succ]
        exact hk)
      exact ⟨o, by simpa using p1, p2⟩
    · refine hQ s2 hG E3 a3 w3 (rstep_step (tm := s.tm) ((r1.trans (st2.toR (by omega))).trans q1)) q2 ?_ ?_
      · rw [q3, put_defers, r3]
      · rw [q4, put_size, r4, hsz]
theorem comp_facts {f : Nat} {fn : XFunc} (hc : compFunc P f = some fn) : ∃ fn, P.funcs[f]? = some fn ∧ fn.body.isNone = false ∧ (fn.name == "runtime.NumGoroutine") = false := by
  unfold compFunc at hc
  simp only [bind] at hc
  obtain ⟨fd, hfd, hc⟩ := bindSome hc
  obtain ⟨c, hbody, hc⟩ := bindSome hc
  split at hc
  · cases hc
  · rename_i hname
    exact ⟨fd, hfd, by rw [hbody]; rfl, by simpa using hname⟩
/-- A function whose code comes to an end in one of several ways, with one answer. -/
theorem func_set {f : Nat} {fn : XFunc} (hc : compFunc P f = some fn) {args : List AV} {H H' : AHeap} {v : AV} (hnp : args.length = fn.np ∧ args.length ≤ fn.nt)
    (hwp : ∀ c, compCode P c = some fn.code → fn.code.room fn.nt = true → ∀ E w a, a.tmps.size = fn.nt → Rel E H w → TmR E w (argsT args 0 .e) a.tmps → ∀ Q : Exit → Act → World → Prop,
      (∀ e s1, (e = .normal ∨ e = .ret) → (∃ l, resL s1 fn.res = some l ∧ (match l with | [x] => some (x, s1.H) | l => some (.tup l, s1.H)) = some (v, s1.H) ∧ HSame s1.H H') → ∀ E' a' w', Step E H w E' s1.H w' → TmR E' w' s1.tm a'.tmps → a'.defers = a.defers → Q (exOf e) a' w') → c.wp P Q a w) :
    CallOK P f args H v H' := by
  unfold compFunc at hc
  simp only [bind] at hc
  obtain ⟨fd, hfd, hc⟩ := bindSome hc
  obtain ⟨c, hbody, hc⟩ := bindSome hc
  split at hc
  · cases hc
  · rename_i hname
    obtain ⟨xc, hxc, hc⟩ := bindSome hc
    split at hc
    · cases hc
    · rename_i hroom
      obtain ⟨rs, hrs, hc⟩ := bindSome hc
      cases hc
      refine ⟨⟨fd, hfd, by rw [hbody]; rfl, by simpa using hname⟩, fun E w us hR hus => ?_⟩
      have hlen := hus.length
      have hsz : (us.toArray ++ Array.replicate (fd.ntmps - us.toArray.size) undef).size = fd.ntmps := by
        have := hnp.2
        simp only [Array.size_append, Array.size_replicate, List.size_toArray]
        simp only at this
        omega
      have hT : TmR E w (argsT args 0 .e) (us.toArray ++ Array.replicate (fd.ntmps - us.toArray.size) undef) := by
        intro t x hx
        rw [argsT_get] at hx
        simp only [Nat.zero_le, Nat.zero_add, true_and, Nat.sub_zero] at hx
        split at hx
        · rename_i hlt
          obtain ⟨u, h1, h2⟩ := hus.get hx
          refine ⟨u, ?_, h2⟩
          rw [Array.getElem?_append_left (by simp only [List.size_toArray]; omega)]
          simpa using h1
        · simp [Tr.get] at hx
      refine calls_of_wp hfd hbody ?_
      refine hwp c hxc (by simpa using hroom) E w _ hsz hR hT _ (fun e s1 he hl E' a' w' h1 h2 h3 => ?_)
      have fin : a'.defers = [] ∧ ∃ u, (results fd a'.tmps).run P w' = .ok u w' ∧ ∃ u' E', Ending.returned u = .returned u' ∧ Step E H w E' H' w' ∧ AVRel E' w' v u' := by
        obtain ⟨l, hl, hv, hsame⟩ := hl
        have h1' := h1.same hsame
        refine ⟨h3, ?_⟩
        obtain ⟨vs, q1, q2⟩ := res_sound h1.rel h2 hrs hl
        have hm : (fd.results.mapM (resM a'.tmps)).run P w' = .ok vs.toArray w' := by
          rw [Array.mapM_eq_mapM_toList]
          simp [q1]
        match l, hv, q2 with
        | [x], hv, q2 =>
          simp only [Option.some.injEq, Prod.mk.injEq, and_true] at hv
          subst hv
          simp only [AVRelL] at q2
          obtain ⟨u, us', rfl, q3, rfl⟩ := q2
          refine ⟨u, ?_, u, E', rfl, h1', q3⟩
          simp only [results_eq, Sem.run_bind, hm]
          simp
        | [], hv, q2 =>
          simp only [Option.some.injEq, Prod.mk.injEq, and_true] at hv
          subst hv
          have hl2 := q2.length
          refine ⟨.tuple vs.toArray, ?_, _, E', rfl, h1', by simp only [AVRel]; exact ⟨_, rfl, by simpa using q2⟩⟩
          simp only [results_eq, Sem.run_bind, hm]
          simp only [List.length_nil] at hl2
          simp [hl2]
        | x :: y :: l, hv, q2 =>
          simp only [Option.some.injEq, Prod.mk.injEq, and_true] at hv
          subst hv
          have hl2 := q2.length
          refine ⟨.tuple vs.toArray, ?_, _, E', rfl, h1', by simp only [AVRel]; exact ⟨_, rfl, by simpa using q2⟩⟩
          simp only [results_eq, Sem.run_bind, hm]
          simp only [List.length_cons] at hl2
          simp [hl2]
      rcases he with rfl | rfl <;> exact fin
end Go.Eng
namespace Go.Proofs.Ytpbighinamljbaa.PA
open Go Go.Eng Go.Proofs
def sC0 : XCode := .reg [o 2 (.mv (.k .nils))]
def sPre : List XOper := [o 4 (.mv (.t 0))]
def sPost : List XOper := [o 3 (.mv (.t 5))]
def sRest : XCode := .seq (.reg [o 6 (.mv (.t 3)), o 7 (.call (.k (.fn 80 [])) [.t 6])]) (.seq (.reg [o 8 (.mv (.t 3)), o 2 (.mv (.t 8))]) .ret)
/-- The sort's run behind the collecting, the keys in some order. -/
def sortedRun (cf : CF) (fuel : Nat) (x : AV) (H : AHeap) (l : List Int) : Option (AV × AHeap) :=
  match xcode cf fuel sC0 ⟨argsT [x] 0 .e, H⟩ with
  | some (.normal, s0) => match xops cf sPre s0.H.next (bump s0 3) with
    | some s1 => match xops cf sPost (s0.H.next + 2) ⟨s1.tm.set 5 (some (colV s1.H l)), colH s1.H l⟩ with
      | some s2 => match xcode cf fuel sRest s2 with
        | some (.ret, s3) => (s3.tm.get 2).map fun v => (v, s3.H)
        | _ => none
      | none => none
    | none => none
  | _ => none
theorem sorted_call {cf : CF} (hcf : CFok Try.prog cf) {fuel : Nat} {H H' : AHeap} {v : AV} {p q j : Nat} {cs : List AV} {opn : Option Nat} {es : List (AV × AV)} (hp : H.get p = some (.cells cs opn)) (hq : cs[q]? = some (.map j)) (hj : H.get j = some (.map es))
    (hk : ∀ e ∈ es, keyU e.1 = true) (hn : es.length ≤ 65536) (hall : ∀ l : List Int, l.Perm (es.map fun e => keyInt e.1) → ∃ H1, sortedRun cf fuel (.fn 81 [.ptr p q]) H l = some (v, H1) ∧ HSame H1 H') :
    CallOK Try.prog 68 [.fn 81 [.ptr p q]] H v H' := by
  have hmix : Try.prog.follows .mixedOrders = true := by kernel_rfl
  refine func_set l68 ⟨rfl, by show 1 ≤ 9; decide⟩ (fun c hc hroom E w a hsz hR hT Q hQ => ?_)
  have hc' : compCode Try.prog c = some (.seq sC0 (.seq (.reg (sPre ++ o 5 (.call (.k (.fn 79 [])) [.t 4]) :: sPost)) sRest)) := hc
  have hroom' : XCode.room 9 (.seq sC0 (.seq (.reg (sPre ++ o 5 (.call (.k (.fn 79 [])) [.t 4]) :: sPost)) sRest)) = true := hroom
  simp only [XCode.room, Bool.and_eq_true] at hroom'
  obtain ⟨r0, r1, r2⟩ := hroom'
  obtain ⟨c0, c12, rfl, h0, h12⟩ := inv_seq hc'
  obtain ⟨c1, c2, rfl, h1, h2⟩ := inv_seq h12
  obtain ⟨id, ops, rfl, hops⟩ := inv_reg h1
  -- one order is as good as another
  obtain ⟨_, hsome, _⟩ := hall _ (List.Perm.refl _)
  unfold sortedRun at hsome
  split at hsome
  · rename_i s0 hs0
    split at hsome
    · rename_i s1 hs1
      refine wp_seq (code_sound hmix hcf fuel 9 c0 sC0 h0 r0 _ _ s0 hs0 E w a hsz hR hT _ (fun E1 a1 w1 q1 q2 q3 q4 => ?_))
      simp only [exOf, Exit.then]
      refine wp_seq ?_
      have e0 : s0 = ⟨(argsT [.fn 81 [.ptr p q]] 0 .e).set 2 (some .nils), H.bump 1⟩ := by
        simp [xcode, sC0, xops, xstep, wantedA, xval, xop, St.ev, AR.ofV, putT, bump] at hs0
        exact hs0.symm
      have e1 : s1 = ⟨s0.tm.set 4 (some (.fn 81 [.ptr p q])), H.bump 4⟩ := by
        subst e0
        simp [sPre, xops, xstep, wantedA, xval, xop, St.ev, AR.ofV, putT, bump, argsT, Tr.get_set] at hs1
        exact hs1.symm
      have hget : ∀ i, s1.H.get i = H.get i := fun i => by rw [e1]; rfl
      refine region_set hcf (nt := 9) (f := .k (.fn 79 [])) (args := [.t 4]) (g := 79) (cs := []) (l := [.fn 81 [.ptr p q]]) (s1 := s1)
        (S := fun v H'' => ∃ l : List Int, l.Perm (es.map fun e => keyInt e.1) ∧ v = colV s1.H l ∧ H'' = colH s1.H l)
        (G := fun s2 => ∃ s3, xcode cf fuel sRest s2 = some (.ret, s3) ∧ s3.tm.get 2 = some v ∧ HSame s3.H H') hops (fun x hx => ?_) hs1 rfl ?_ ?_ ?_ ?_ q4 q1.rel q2 ?_
      · have hr1 : (XCode.reg (sPre ++ o 5 (.call (.k (.fn 79 [])) [.t 4]) :: sPost)).room 9 = true := r1
        simp only [XCode.room, List.all_eq_true] at hr1
        exact hr1 x hx
      · rw [e1]
        simp [evL, St.ev, Tr.get_set]
      · exact comp_facts l79
      · intro E2 w2 us hR2 hus
        refine (collect_call hR2 ((hget p).trans hp) hq ((hget j).trans hj) hk hn (by simpa using hus)).mono ?_
        rintro e w' ⟨l, u, E', rfl, hl, hst, hv⟩
        exact ⟨_, _, u, E', ⟨l, hl, rfl, rfl⟩, rfl, hst, hv⟩
      · rintro v' H'' ⟨l, hl, rfl, rfl⟩ _
        obtain ⟨H1, hl', hsm⟩ := hall l hl
        unfold sortedRun at hl'
        simp only [hs0, hs1] at hl'
        split at hl'
        · rename_i s2 hs2
          split at hl'
          · rename_i s3 hs3
            obtain ⟨x, hx, e⟩ := Option.map_eq_some_iff.1 hl'
            simp only [Prod.mk.injEq] at e
            obtain ⟨rfl, rfl⟩ := e
            exact ⟨s2, hs2, s3, hs3, hx, hsm⟩
          · cases hl'
        · cases hl'
      · rintro s2 ⟨s3, hs3, hv3, hsm⟩ E2 a2 w2 p1 p2 p3 p4
        simp only [Exit.then]
        refine code_sound hmix hcf fuel 9 c2 sRest h2 r2 _ _ s3 hs3 E2 w2 a2 p4 p1.rel p2 _ (fun E3 a3 w3 t1 t2 t3 t4 => ?_)
        refine hQ .ret s3 (.inr rfl) ⟨[v], by show resL s3 [.t 2] = _; simp [resL, resA, hv3], rfl, hsm⟩ E3 a3 w3 ((q1.trans p1).trans t1) t2 (by rw [t3, p3, q3])
    · cases hsome
  · cases hsome
end Go.Proofs.Ytpbighinamljbaa.PA
