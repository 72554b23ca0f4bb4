/- The document's examples, run by the abstract machine. No condition. -/
import Derived.Test.YtpbighinamljbaaSrtd
set_option linter.unusedSimpArgs false
set_option linter.unusedVariables false
namespace Go.Proofs.Ytpbighinamljbaa.PA
open Go Go.Eng Go.Proofs
def entBeq : List (AV × AV) → List (AV × AV) → Bool
  | [], [] => true
  | x :: r, y :: q => AV.beq x.1 y.1 && AV.beq x.2 y.2 && entBeq r q
  | _, _ => false
def objBeq : Option AObj → Option AObj → Bool
  | none, none => true
  | some (.cells c o), some (.cells c' o') => AV.beqL c c' && o == o'
  | some (.map es), some (.map es') => entBeq es es'
  | some (.lmap es t), some (.lmap es' t') => entBeq es es' && t == t'
  | _, _ => false
def trBeq : Tr AObj → Tr AObj → Bool
  | .e, .e => true
  | .n l v r, .n l' v' r' => trBeq l l' && objBeq v v' && trBeq r r'
  | _, _ => false
theorem entBeq_eq : ∀ {a b : List (AV × AV)}, entBeq a b = true → a = b
  | [], [], _ => rfl
  | [], _ :: _, h => by simp [entBeq] at h
  | _ :: _, [], h => by simp [entBeq] at h
  | x :: r, y :: q, h => by
    simp only [entBeq, Bool.and_eq_true] at h
    rw [entBeq_eq h.2, Prod.ext (AV.beq_sound h.1.1) (AV.beq_sound h.1.2)]
theorem objBeq_eq {a b : Option AObj} (h : objBeq a b = true) : a = b := by
  unfold objBeq at h
  split at h
  · rfl
  · rw [Bool.and_eq_true] at h
    rw [AV.beqL_sound h.1, eq_of_beq h.2]
  · rw [entBeq_eq h]
  · rw [Bool.and_eq_true] at h
    rw [entBeq_eq h.1, eq_of_beq h.2]
  · cases h
theorem trBeq_eq : ∀ {a b : Tr AObj}, trBeq a b = true → a = b
  | .e, .e, _ => rfl
  | .e, .n .., h => by simp [trBeq] at h
  | .n .., .e, h => by simp [trBeq] at h
  | .n l v r, .n l' v' r', h => by
    simp only [trBeq, Bool.and_eq_true] at h
    rw [trBeq_eq h.1.1, objBeq_eq h.1.2, trBeq_eq h.2]
/-- One answer of several runs; of their next names the greatest. -/
def allSame : List (Option (AV × AHeap)) → Option (AV × AHeap)
  | [] => none
  | [r] => r
  | some (v, H) :: r => match allSame r with
    | some (v', H') => if AV.beq v v' && trBeq H.m H'.m then some (v', ⟨H'.m, Nat.max H.next H'.next⟩) else none
    | none => none
  | none :: _ => none
theorem allSame_mem : ∀ {l : List (Option (AV × AHeap))} {r : AV × AHeap}, allSame l = some r → ∀ q ∈ l, ∃ H1, q = some (r.1, H1) ∧ HSame H1 r.2
  | [], _, h, _, _ => by simp [allSame] at h
  | [x], r, h, q, hq => by
    simp only [allSame] at h
    simp only [List.mem_singleton] at hq
    exact ⟨r.2, by rw [hq, h], fun i => .refl _, Nat.le_refl _⟩
  | some (v, H) :: y :: l, r, h, q, hq => by
    simp only [allSame] at h
    split at h
    · rename_i v' H' h1
      split at h
      · rename_i hb
        simp only [Bool.and_eq_true] at hb
        obtain ⟨b1, b2⟩ := hb
        cases h
        rcases List.mem_cons.1 hq with rfl | hq
        · have e1 := AV.beq_sound b1
          have e2 := trBeq_eq b2
          refine ⟨H, by rw [e1], fun i => ?_, Nat.le_max_left _ _⟩
          show ObjSame (H.m.get i) (H'.m.get i)
          rw [e2]
          exact .refl _
        · obtain ⟨H1, q1, q2⟩ := allSame_mem h1 q hq
          exact ⟨H1, q1, q2.obj, Nat.le_trans q2.nx (Nat.le_max_right _ _)⟩
      · cases h
    · cases h
  | none :: y :: l, r, h, q, hq => by simp [allSame] at h
/-- Sorted keys, as a known call. -/
def sortedK (cf : CF) (fuel : Nat) : CF := fun f args H =>
  if f = 68 then match args with
    | [.fn 81 [.ptr p q]] => match H.get p with
      | some (.cells cs _) => match cs[q]? with
        | some (.map j) => match H.get j with
          | some (.map es) => if es.all (fun e => keyU e.1) && Nat.ble es.length 65536 then allSame ((permsL (es.map fun e => keyInt e.1)).map fun l => sortedRun cf fuel (.fn 81 [.ptr p q]) H l) else none
          | _ => none
        | _ => none
      | _ => none
    | _ => none
  else none
theorem sortedK_ok {cf : CF} (hcf : CFok Try.prog cf) (fuel : Nat) : CFok Try.prog (sortedK cf fuel) := by
  intro f args H v H' h
  unfold sortedK at h
  split at h
  · rename_i hf
    subst hf
    split at h
    · rename_i p q
      split at h
      · rename_i cs opn hp
        split at h
        · rename_i j hq
          split at h
          · rename_i es hj
            split at h
            · rename_i hc
              simp only [Bool.and_eq_true, List.all_eq_true, Nat.ble_eq] at hc
              exact sorted_call hcf hp hq hj hc.1 hc.2 (fun l hl => allSame_mem h _ (List.mem_map.2 ⟨l, perms_mem hl, rfl⟩))
            · cases h
          · cases h
        · cases h
      · cases h
    · cases h
  · cases h
theorem mixP : Try.prog.follows .mixedOrders = true := by kernel_rfl
def KN : CF := sortedK (xcall F 300 8) 300
theorem KN_ok : CFok Try.prog KN := sortedK_ok (xcall_sound mixP F_ok 300 8) 300
/-- The machine with its known call. -/
def cfN (fuel depth : Nat) : CF := xcallK KN F fuel depth
theorem cfN_ok (fuel depth : Nat) : CFok Try.prog (cfN fuel depth) := xcallK_sound mixP KN_ok F_ok fuel depth
def H0 : AHeap := ⟨.e, 0⟩
end Go.Proofs.Ytpbighinamljbaa.PA
