/- The table of known calls. No condition. -/
import Derived.Test.YtpbighinamljbaaCalls
set_option linter.unusedSimpArgs false
set_option linter.unusedVariables false
namespace Go.Proofs.Ytpbighinamljbaa.PA
open Go Go.Eng Go.Proofs
/-- A slice's length and cells. -/
def cellsA (H : AHeap) (z : Nat) (x : AV) : Option (Nat × List AV) :=
  match x with
  | .str _ => none
  | x => (lenA x).bind fun l => (srcA H z l x).bind fun cs => if l = 0 ∧ cs ≠ [] then none else some (l, cs)
def natOf : AV → Option Nat
  | .int .i64 (.ofNat n) => some n
  | _ => none
theorem natOf_eq {x : AV} {n : Nat} (h : natOf x = some n) : x = natA n := by
  unfold natOf at h
  split at h
  · cases h; rfl
  · cases h
def natsOf : List AV → Option (List Nat)
  | [] => some []
  | x :: r => (natOf x).bind fun n => (natsOf r).map (n :: ·)
theorem natsOf_eq : ∀ {cs : List AV} {l : List Nat}, natsOf cs = some l → cs = l.map natA
  | [], l, h => by simp [natsOf] at h; subst h; rfl
  | x :: r, l, h => by
    simp only [natsOf, Option.bind_eq_some_iff, Option.map_eq_some_iff] at h
    obtain ⟨n, h1, m, h2, rfl⟩ := h
    rw [natOf_eq h1, natsOf_eq h2]
    rfl
def prsOf : List Nat → Option Prs
  | [] => some []
  | a :: b :: r => (prsOf r).map ((a, b) :: ·)
  | _ => none
theorem prsOf_eq : ∀ {l : List Nat} {p : Prs}, prsOf l = some p → l.map natA = prsC p
  | [], p, h => by simp [prsOf] at h; subst h; rfl
  | [_], p, h => by simp [prsOf] at h
  | a :: b :: r, p, h => by
    simp only [prsOf, Option.map_eq_some_iff] at h
    obtain ⟨q, h1, rfl⟩ := h
    simp only [List.map_cons, prsOf_eq h1, prsC_cons]
def maskOf (l : List Nat) : Option Nat := (List.range 64).find? fun m => memb 6 m == l
def u8sOf : List AV → Option (List Int)
  | [] => some []
  | .int .u8 n :: r => (u8sOf r).map (n :: ·)
  | _ => none
theorem u8sOf_eq : ∀ {cs : List AV} {l : List Int}, u8sOf cs = some l → cs = l.map (.int .u8)
  | [], l, h => by simp [u8sOf] at h; subst h; rfl
  | x :: r, l, h => by
    unfold u8sOf at h
    split at h
    · rename_i heq; cases heq
    · rename_i n r' heq
      cases heq
      obtain ⟨m, h2, rfl⟩ := Option.map_eq_some_iff.1 h
      rw [u8sOf_eq h2]
      rfl
    · cases h
theorem u8sOf_map (l : List Int) : u8sOf (l.map (.int .u8)) = some l := by
  induction l with
  | nil => rfl
  | cons n l ih => simp [u8sOf, ih]
def vldB (n : Nat) (l : Prs) : Bool := l.all fun p => decide (p.1 < n) && decide (p.2 < n) && decide (p.1 ≠ p.2)
theorem vldB_iff {n : Nat} {l : Prs} : vldB n l = true ↔ Vld n l := by
  simp [vldB, Vld, and_assoc]
def KL : CF := fun f args H =>
  match f, args with
  | 17, [] => some (.bool true, H)
  | 24, [n, x] => (natOf n).bind fun n => (cellsA H 1 x).bind fun c => (natsOf c.2).bind fun l => (maskOf l).bind fun m => if n < 7 ∧ l.length = c.1 then some (.bool (decide (m < 2 ^ n)), H) else none
  | 25, [x] => (cellsA H 1 x).bind fun c => (natsOf c.2).bind fun l => (maskOf l).bind fun m => if l.length = c.1 then some (natA m, H) else none
  | 54, [n] => (natOf n).bind fun n => if n < 7 then some (.agg (begA n), H) else none
  | 57, [n, x] => (natOf n).bind fun n => (cellsA H 2 x).bind fun c => (natsOf c.2).bind fun l => (prsOf l).bind fun p => if 1 ≤ n ∧ n ≤ 6 ∧ p.length ≤ 60 ∧ vldB n p = true ∧ p.length = c.1 then some (.int .i64 0, H) else none
  | 59, [.agg k, .agg [a, b]] => (u8sOf k).bind fun k => (natOf a).bind fun a => (natOf b).bind fun b => if k.length = 6 ∧ a < 6 ∧ b < 6 then some (.agg ((callA k a b).map (.int .u8)), H) else none
  | 21, [x, y] => (cellsA H 1 x).bind fun c => (cellsA H 1 y).bind fun d => (natsOf c.2).bind fun l => (natsOf d.2).bind fun l' => (maskOf l).bind fun m => if l' = l ∧ l.length = c.1 ∧ l.length = d.1 then some (.bool true, H) else none
  | _, _ => none
theorem tabSame : ((List.range 64).all fun m => isAV (.bool true) (xcall F 300 3 21 [.imm ((memb 6 m).map natA) (memb 6 m).length false, .imm ((memb 6 m).map natA) (memb 6 m).length false] H0)) = true := by kernel_rfl
theorem plain_nats (l : List Nat) : AV.plainL (l.map natA) = true := by
  induction l with
  | nil => rfl
  | cons n l ih => simp only [List.map_cons, AV.plainL, ih, Bool.and_true]; rfl
theorem plain_u8s (l : List Int) : AV.plainL (l.map (AV.int .u8)) = true := by
  induction l with
  | nil => rfl
  | cons n l ih => simp only [List.map_cons, AV.plainL, ih, Bool.and_true]; rfl
theorem cells_freeze {E : Env} {H : AHeap} {w : World} (hR : Rel E H w) {x : AV} {u : Value} (hv : AVRel E w x u) {z : Nat} {c : Nat × List AV} (h : cellsA H z x = some c) (hp : AV.plainL c.2 = true) : AVRel (E0 w) w (.imm c.2 c.1 false) u := by
  unfold cellsA at h
  split at h
  · cases h
  · rename_i hns
    simp only [Option.bind_eq_some_iff] at h
    obtain ⟨l, h1, cs, h2, h3⟩ := h
    split at h3
    · cases h3
    · rename_i hc
      cases h3
      exact Go.Eng.freeze hR hv h1 h2 hns hp (fun q => by
        rcases Classical.em (cs = []) with e | e
        · exact e
        · exact absurd ⟨q, e⟩ hc)
theorem xF (k : Nat) : CFok Try.prog (xcall F 300 k) := xcall_sound mixP F_ok 300 k
theorem args1 {E : Env} {H : AHeap} {w : World} {us : List Value} {x y : AV} (h : AVRelL E w [x] us) (hxy : ∀ u, AVRel E w x u → AVRel (E0 w) w y u) : AVRelL (E0 w) w [y] us := by
  simp only [AVRelL] at h ⊢
  obtain ⟨u, us', rfl, h1, rfl⟩ := h
  exact ⟨u, [], rfl, hxy u h1, rfl⟩
theorem args2 {E : Env} {H : AHeap} {w : World} {us : List Value} {x y x' y' : AV} (h : AVRelL E w [x, x'] us) (hxy : ∀ u, AVRel E w x u → AVRel (E0 w) w y u) (hxy' : ∀ u, AVRel E w x' u → AVRel (E0 w) w y' u) : AVRelL (E0 w) w [y, y'] us := by
  simp only [AVRelL] at h ⊢
  obtain ⟨u, us', rfl, h1, u', us'', rfl, h2, rfl⟩ := h
  exact ⟨u, [u'], rfl, hxy u h1, u', [], rfl, hxy' u' h2, rfl⟩
theorem KL_ok : CFok Try.prog KL := by
  intro f args H v H' h
  unfold KL at h
  split at h
  · cases h
    have h0 := runLives0
    obtain ⟨⟨b, H1⟩, h1, h2⟩ := Option.map_eq_some_iff.1 h0
    cases b with
    | bool b =>
      simp only at h2
      subst h2
      exact frame0 (cfN_ok _ _ _ _ _ _ _ h1) rfl (fun E w us _ h => plain_relL rfl h)
    | _ => simp at h2
  · rename_i n x
    simp only [Option.bind_eq_some_iff] at h
    obtain ⟨n, hn, c, hc, l, hl, m, hm, h⟩ := h
    split at h
    · rename_i hh
      cases h
      obtain rfl := natOf_eq hn
      have hm1 : m < 64 := by
        have := List.mem_of_find?_eq_some hm
        simpa using this
      have hm2 : memb 6 m = l := by
        have := List.find?_some hm
        simpa using this
      have ht := tabRis
      rw [List.all_eq_true] at ht
      have ht1 := ht n (List.mem_range.2 hh.1)
      rw [List.all_eq_true] at ht1
      obtain ⟨H1, h1⟩ := isAV_some (ht1 m (List.mem_range.2 hm1))
      rw [hm2, hh.2] at h1
      refine frame0 (xF 4 _ _ _ _ _ h1) rfl (fun E w us hR h => args2 (H := H) h (fun u hu => plain_rel rfl hu) (fun u hu => ?_))
      have hcs := natsOf_eq hl
      have := cells_freeze hR hu hc (by rw [hcs]; exact plain_nats _)
      rwa [hcs] at this
    · cases h
  · rename_i x
    simp only [Option.bind_eq_some_iff] at h
    obtain ⟨c, hc, l, hl, m, hm, h⟩ := h
    split at h
    · rename_i hh
      cases h
      have hm1 : m < 64 := by
        have := List.mem_of_find?_eq_some hm
        simpa using this
      have hm2 : memb 6 m = l := by
        have := List.find?_some hm
        simpa using this
      have ht := tabBits
      rw [List.all_eq_true] at ht
      obtain ⟨H1, h1⟩ := isAV_some (ht m (List.mem_range.2 hm1))
      rw [hm2, hh] at h1
      refine frame0 (xF 3 _ _ _ _ _ h1) rfl (fun E w us hR h => args1 (H := H) h (fun u hu => ?_))
      have hcs := natsOf_eq hl
      have := cells_freeze hR hu hc (by rw [hcs]; exact plain_nats _)
      rwa [hcs] at this
    · cases h
  · rename_i n
    simp only [Option.bind_eq_some_iff] at h
    obtain ⟨n, hn, h⟩ := h
    split at h
    · rename_i hh
      cases h
      obtain rfl := natOf_eq hn
      have ht := tabBeg
      rw [List.all_eq_true] at ht
      obtain ⟨H1, h1⟩ := isAV_some (ht n (List.mem_range.2 hh))
      refine frame0 (xF 3 _ _ _ _ _ h1) ?_ (fun E w us hR h => args1 (H := H) h (fun u hu => plain_rel rfl hu))
      simp only [AV.plain, begA]
      rw [show (fun i => AV.int IntKind.u8 (if i < n then ((2 ^ i : Nat) : Int) else 0)) = (AV.int .u8) ∘ (fun i => if i < n then ((2 ^ i : Nat) : Int) else 0) from rfl, ← List.map_map]
      exact plain_u8s _
    · cases h
  · rename_i n x
    simp only [Option.bind_eq_some_iff] at h
    obtain ⟨n, hn, c, hc, l, hl, p, hp, h⟩ := h
    split at h
    · rename_i hh
      cases h
      obtain ⟨c1, c2, c3, c4, c5⟩ := hh
      obtain rfl := natOf_eq hn
      obtain ⟨v', H1, h1, rfl⟩ := check_ok (cf := xcall F 300 3) (fuel := 300) (H := ⟨.e, 0⟩) c1 c2 c3 (vldB_iff.1 c4) (by omega)
      have h1' : xcall F 300 4 57 [natA n, .imm (prsC p) p.length false] ⟨.e, 0⟩ = some (.int .i64 0, H1) := h1
      refine frame0 (xF 4 _ _ _ _ _ h1') rfl (fun E w us hR h => args2 (H := H) h (fun u hu => plain_rel rfl hu) (fun u hu => ?_))
      have hcs := natsOf_eq hl
      have := cells_freeze hR hu hc (by rw [hcs]; exact plain_nats _)
      rwa [hcs, prsOf_eq hp, ← c5] at this
    · cases h
  · rename_i k a b
    simp only [Option.bind_eq_some_iff] at h
    obtain ⟨xs, hk, a, ha, b, hb, h⟩ := h
    split at h
    · rename_i hh
      cases h
      obtain ⟨c1, c2, c3⟩ := hh
      obtain rfl := u8sOf_eq hk
      obtain rfl := natOf_eq ha
      obtain rfl := natOf_eq hb
      match xs, c1 with
      | [x0, x1, x2, x3, x4, x5], _ =>
        obtain ⟨H1, h1⟩ := tabCall x0 x1 x2 x3 x4 x5 a b c2 c3
        exact frame0 (xF 2 _ _ _ _ _ h1) (by simp only [AV.plain]; exact plain_u8s _) (fun E w us hR h => args2 (H := H) h (fun u hu => plain_rel (by simp only [AV.plain]; exact plain_u8s _) hu) (fun u hu => plain_rel rfl hu))
    · cases h
  · rename_i x y
    simp only [Option.bind_eq_some_iff] at h
    obtain ⟨c, hc, d, hd, l, hl, l', hl', m, hm, h⟩ := h
    split at h
    · rename_i hh
      cases h
      obtain ⟨rfl, hh, hh'⟩ := hh
      have hm1 : m < 64 := by
        have := List.mem_of_find?_eq_some hm
        simpa using this
      have hm2 : memb 6 m = l' := by
        have := List.find?_some hm
        simpa using this
      have ht := tabSame
      rw [List.all_eq_true] at ht
      obtain ⟨H1, h1⟩ := isAV_some (ht m (List.mem_range.2 hm1))
      rw [hm2] at h1
      have hcs := natsOf_eq hl
      have hcd := natsOf_eq hl'
      refine frame0 (xF 3 _ _ _ _ _ h1) rfl (fun E w us hR h => args2 (H := H) h (fun u hu => ?_) (fun u hu => ?_))
      · have := cells_freeze hR hu hc (by rw [hcs]; exact plain_nats _)
        rwa [hcs, ← hh] at this
      · have := cells_freeze hR hu hd (by rw [hcd]; exact plain_nats _)
        rwa [hcd, ← hh'] at this
    · cases h
  · cases h
def cfL (k : Nat) : CF := xcallK KL F 300 k
theorem cfL_ok (k : Nat) : CFok Try.prog (cfL k) := xcallK_sound mixP KL_ok F_ok 300 k
end Go.Proofs.Ytpbighinamljbaa.PA
