/- Known calls: the document's examples, begin, call, and what is asked of a set's members. No condition. -/
import Derived.Test.YtpbighinamljbaaRunLives
import Derived.Test.YtpbighinamljbaaEngC
set_option linter.unusedSimpArgs false
set_option linter.unusedVariables false
namespace Go.Eng
/-- Nothing is ours; what lies there is not written. -/
def E0 (w : World) : Env := ⟨fun _ => none, fun b => b < w.heap.size, fun _ => none⟩
theorem rel0 (w : World) : Rel (E0 w) ⟨.e, 0⟩ w :=
  ⟨fun i L h => (by cases h), fun b h => h, fun i o h => (by simp [AHeap.get, Tr.get] at h), fun i j o o' L L' h => (by simp [AHeap.get, Tr.get] at h)⟩
theorem below0 {w w' : World} {E' : Env} {H' : AHeap} (h : Step (E0 w) ⟨.e, 0⟩ w E' H' w') : Go.RowKit.Below w.heap.size w w' :=
  ⟨h.fr.os, h.fr.tape, h.fr.output, h.fr.size, fun k hk => h.fr.block k hk (fun i o L hg => (by simp [AHeap.get, Tr.get] at hg))⟩
mutual
/-- Values without memory. -/
def AV.plain : AV → Bool
  | .bool _ | .int _ _ | .str _ => true
  | .agg l | .tup l => AV.plainL l
  | _ => false
def AV.plainL : List AV → Bool
  | [] => true
  | x :: r => x.plain && AV.plainL r
end
mutual
theorem plain_rel {E E' : Env} {w w' : World} : ∀ {v : AV} {u : Value}, v.plain = true → AVRel E w v u → AVRel E' w' v u
  | .bool _, _, _, h => by simpa [AVRel] using h
  | .int _ _, _, _, h => by simpa [AVRel] using h
  | .str _, _, _, h => by simpa [AVRel] using h
  | .agg l, _, hp, h => by
    simp only [AV.plain] at hp
    simp only [AVRel] at h ⊢
    obtain ⟨us, h1, h2⟩ := h
    exact ⟨us, h1, plain_relL hp h2⟩
  | .tup l, _, hp, h => by
    simp only [AV.plain] at hp
    simp only [AVRel] at h ⊢
    obtain ⟨us, h1, h2⟩ := h
    exact ⟨us, h1, plain_relL hp h2⟩
  | .ptr .., _, hp, _ => by simp [AV.plain] at hp
  | .nilp, _, hp, _ => by simp [AV.plain] at hp
  | .sl .., _, hp, _ => by simp [AV.plain] at hp
  | .nils, _, hp, _ => by simp [AV.plain] at hp
  | .map _, _, hp, _ => by simp [AV.plain] at hp
  | .nilm, _, hp, _ => by simp [AV.plain] at hp
  | .fn .., _, hp, _ => by simp [AV.plain] at hp
  | .nilf, _, hp, _ => by simp [AV.plain] at hp
  | .ifc .., _, hp, _ => by simp [AV.plain] at hp
  | .nili, _, hp, _ => by simp [AV.plain] at hp
  | .imm .., _, hp, _ => by simp [AV.plain] at hp
  | .iptr .., _, hp, _ => by simp [AV.plain] at hp
  | .glob .., _, hp, _ => by simp [AV.plain] at hp
theorem plain_relL {E E' : Env} {w w' : World} : ∀ {l : List AV} {us : List Value}, AV.plainL l = true → AVRelL E w l us → AVRelL E' w' l us
  | [], _, _, h => by simpa [AVRelL] using h
  | x :: l, _, hp, h => by
    simp only [AV.plainL, Bool.and_eq_true] at hp
    simp only [AVRelL] at h ⊢
    obtain ⟨u, us, h1, h2, h3⟩ := h
    exact ⟨u, us, h1, plain_rel hp.1 h2, plain_relL hp.2 h3⟩
end
/-- The world that a call from nothing leaves, seen from elsewhere. -/
theorem step_of_below {E : Env} {H : AHeap} {w w' : World} (hR : Rel E H w) (hb : Go.RowKit.Below w.heap.size w w') : Step E H w E H w' := by
  have hext : Env.Ext E E w w' := ⟨fun _ _ h => h, fun _ h => h, fun b hbI => hb.block b (hR.imm b hbI), fun _ _ _ h => h⟩
  have hsz := hb.size
  refine ⟨hext, ⟨fun j L hj => ?_, fun b hbI => ?_, fun j p hj => ?_, hR.inj⟩, ⟨hb.os, hb.tape, hb.output, hsz, fun b hbI _ => hb.block b hbI⟩, fun j p L hj hρ => .inr ⟨j, p, L, hj, hρ, rfl⟩, Nat.le_refl _, fun j L h => .inl h, fun _ h => .inl h⟩
  · have := hR.dom j L hj
    exact ⟨this.1, by omega⟩
  · have := hR.imm b hbI
    omega
  · obtain ⟨L, q1, q2, q3⟩ := hR.obj j p hj
    exact ⟨L, q1, ObjR.mono hext (hb.block _ (hR.dom j L q1).2) q2, q3⟩
/-- A call that was run from nothing, with an answer without memory, from wherever. -/
theorem frame0 {P : Program} {f : Nat} {args args0 : List AV} {v : AV} {H H1 : AHeap} (h : CallOK P f args0 ⟨.e, 0⟩ v H1) (hv : v.plain = true) (ha : ∀ E w us, Rel E H w → AVRelL E w args us → AVRelL (E0 w) w args0 us) : CallOK P f args H v H := by
  refine ⟨h.1, fun E w us hR hus => ?_⟩
  refine (h.2 (E0 w) w us (rel0 w) (ha E w us hR hus)).mono ?_
  rintro e w' ⟨u, E', rfl, hst, hvr⟩
  exact ⟨u, E, rfl, step_of_below hR (below0 hst), plain_rel hv hvr⟩
/-- A slice, read only. -/
theorem freeze {E : Env} {H : AHeap} {w : World} (hR : Rel E H w) {v : AV} {u : Value} (hv : AVRel E w v u) {z l : Nat} {cs : List AV} (hl : lenA v = some l) (hs : srcA H z l v = some cs) (hns : ∀ s, v ≠ .str s) (hp : AV.plainL cs = true) (hcl : l = 0 → cs = []) :
    AVRel (E0 w) w (.imm cs l false) u := by
  unfold srcA at hs
  split at hs
  · simp only [lenA, Option.some.injEq] at hl
    subst hl
    simp only [if_true, Option.some.injEq] at hs
    subst hs
    simp only [AVRel] at hv ⊢
    exact .inl ⟨trivial, trivial, none, 0, hv, fun q => by cases q⟩
  · rename_i i o l' c
    simp only [lenA, Option.some.injEq] at hl
    subst hl
    split at hs
    · rename_i cells opn hg
      split at hs
      · cases hs
        obtain ⟨L, ad, c', C, t, fz, us, hρ, rfl, hsl, hlc, hb, hr, hcell, _⟩ := row_sound hR hv hg
        simp only [AVRel]
        by_cases h0 : l' = 0
        · exact .inl ⟨h0, hcl h0, some ad, c', by rw [h0], fun q => by cases q⟩
        · obtain rfl := hsl.addr hlc h0
          refine .inr ⟨L.b, L.s + o, c', (us.drop o).take (l' * z), rfl, (hR.dom i L hρ).2, fun j x hj => ?_, ?_, hlc, fun q => by cases q⟩
          · rw [List.getElem?_take] at hj
            split at hj
            · rw [List.getElem?_drop] at hj
              have := hcell _ x hj
              simp only [World.cell?, hb]
              rw [show L.s + o + j = L.s + (o + j) by omega]
              exact this
            · cases hj
          · exact plain_relL hp ((hr.drop o).take (l' * z))
      · cases hs
    · cases hs
  · rename_i cs' l' full
    simp only [lenA, Option.some.injEq] at hl
    subst hl
    split at hs
    · cases hs
      simp only [AVRel] at hv ⊢
      rcases hv with ⟨h0, h1, a, c, h2, _⟩ | ⟨b, s, c, us, h1, h2, h3, h4, h5, _⟩
      · subst h0 h1
        exact .inl ⟨rfl, hcl rfl, a, c, h2, fun q => by cases q⟩
      · refine .inr ⟨b, s, c, us.take (l' * z), h1, hR.imm b h2, fun j x hj => ?_, plain_relL hp (h4.take _), h5, fun q => by cases q⟩
        rw [List.getElem?_take] at hj
        split at hj
        · exact h3 j x hj
        · cases hj
    · cases hs
  · rename_i s
    exact absurd rfl (hns s)
  · cases hs
end Go.Eng
namespace Go.Proofs.Ytpbighinamljbaa.PA
open Go Go.Eng Go.Proofs
/-- The members below n of a set. -/
def memb (n m : Nat) : List Nat := (List.range n).filter fun i => m.testBit i
def natA (n : Nat) : AV := .int .i64 (n : Int)
def isAV (v : AV) : Option (AV × AHeap) → Bool
  | some (u, _) => AV.beq v u
  | none => false
theorem isAV_some {v : AV} {r : Option (AV × AHeap)} (h : isAV v r = true) : ∃ H, r = some (v, H) := by
  unfold isAV at h
  split at h
  · rename_i u H
    rw [AV.beq_sound h]
    exact ⟨H, rfl⟩
  · cases h
/-- What is known at first. -/
def begA (n : Nat) : List AV := (List.range 6).map fun i => .int .u8 (if i < n then ((2 ^ i : Nat) : Int) else 0)
theorem tabBeg : ((List.range 7).all fun n => isAV (.agg (begA n)) (xcall F 300 3 54 [natA n] H0)) = true := by kernel_rfl
theorem tabBits : ((List.range 64).all fun m => isAV (natA m) (xcall F 300 3 25 [.imm ((memb 6 m).map natA) (memb 6 m).length false] H0)) = true := by kernel_rfl
theorem tabRis : ((List.range 7).all fun n => (List.range 64).all fun m => isAV (.bool (decide (m < 2 ^ n))) (xcall F 300 4 24 [natA n, .imm ((memb 6 m).map natA) (memb 6 m).length false] H0)) = true := by kernel_rfl
end Go.Proofs.Ytpbighinamljbaa.PA
