/- news.few: what it computes, in plain Lean; its map. No condition. -/
import Derived.Test.YtpbighinamljbaaHf
import Derived.Test.YtpbighinamljbaaDone3
set_option linter.unusedSimpArgs false
set_option linter.unusedVariables false
namespace Go.Proofs.Ytpbighinamljbaa.PA
open Go Go.Eng Go.Proofs
abbrev FT := List (List Nat × Nat)
def lookF : FT → List Nat → Nat
  | [], _ => 0
  | (k, v) :: r, K => if k = K then v else lookF r K
def updF : FT → List Nat → Nat → FT
  | [], K, v => [(K, v)]
  | (k, w) :: r, K, v => if k = K then (K, v) :: r else (k, w) :: updF r K v
/-- The pairs behind (a, b), in order. -/
def goB (f : Nat → Nat → FT → Option Prs × FT) (a : Nat) : Nat → Nat → FT → Option Prs × FT
  | 0, _, F => (none, F)
  | s + 1, b, F => match f a b F with
    | (some l, F') => (some l, F')
    | (none, F') => goB f a s (b + 1) F'
def goA (f : Nat → Nat → FT → Option Prs × FT) (n : Nat) : Nat → Nat → FT → Option Prs × FT
  | 0, _, F => (none, F)
  | s + 1, a, F => match goB f a (n - (a + 1)) (a + 1) F with
    | (some l, F') => (some l, F')
    | (none, F') => goA f n s (a + 1) F'
def fewP (n : Nat) : Nat → List Nat → FT → Option Prs × FT
  | 0, K, F => if compl n K then (some [], F) else (none, F)
  | left + 1, K, F => if compl n K then (some [], F) else if lookF F K ≥ left + 1 then (none, F) else
      match goA (fun a b F => if callM K a b = K then (none, F) else match fewP n left (callM K a b) F with
        | (some l, F') => (some ((a, b) :: l), F')
        | (none, F') => (none, F')) n n 0 F with
      | (some l, F') => (some l, F')
      | (none, F') => (none, updF F' K (left + 1))
/-- What is tried at one pair. -/
def fewSt (n L : Nat) (K : List Nat) (a b : Nat) (F : FT) : Option Prs × FT := if callM K a b = K then (none, F) else match fewP n L (callM K a b) F with
  | (some l, F') => (some ((a, b) :: l), F')
  | (none, F') => (none, F')
theorem fewP_succ (n L : Nat) (K : List Nat) (F : FT) : fewP n (L + 1) K F = if compl n K then (some [], F) else if lookF F K ≥ L + 1 then (none, F) else
    match goA (fewSt n L K) n n 0 F with
    | (some l, F') => (some l, F')
    | (none, F') => (none, updF F' K (L + 1)) := rfl
theorem goB_some {f : Nat → Nat → FT → Option Prs × FT} {a : Nat} : ∀ {s b : Nat} {F F' : FT} {l : Prs}, goB f a s b F = (some l, F') → ∃ b F, f a b F = (some l, F')
  | 0, b, F, F', l, h => by simp [goB] at h
  | s + 1, b, F, F', l, h => by
    rw [goB] at h
    cases hf : f a b F with
    | mk o G =>
      rw [hf] at h
      cases o with
      | none => exact goB_some h
      | some m => exact ⟨b, F, by rw [hf]; exact h⟩
theorem goA_some {f : Nat → Nat → FT → Option Prs × FT} {n : Nat} : ∀ {s a : Nat} {F F' : FT} {l : Prs}, goA f n s a F = (some l, F') → ∃ a b F, f a b F = (some l, F')
  | 0, a, F, F', l, h => by simp [goA] at h
  | s + 1, a, F, F', l, h => by
    rw [goA] at h
    cases hf : goB f a (n - (a + 1)) (a + 1) F with
    | mk o G =>
      rw [hf] at h
      cases o with
      | none => exact goA_some h
      | some m =>
        obtain ⟨b, F1, q⟩ := goB_some hf
        exact ⟨a, b, F1, by rw [q]; exact h⟩
theorem fewP_len {n : Nat} : ∀ {left : Nat} {K : List Nat} {F : FT} {l : Prs}, (fewP n left K F).1 = some l → l.length ≤ left
  | 0, K, F, l, h => by
    rw [fewP] at h
    split at h <;> simp at h
    subst h
    exact Nat.le_refl _
  | L + 1, K, F, l, h => by
    rw [fewP_succ] at h
    split at h
    · simp at h; subst h; exact Nat.zero_le _
    · split at h
      · simp at h
      · cases hg : goA (fewSt n L K) n n 0 F with
        | mk o G =>
          rw [hg] at h
          cases o with
          | none => simp at h
          | some m =>
            obtain rfl : m = l := by simpa using h
            obtain ⟨a, b, F1, q⟩ := goA_some hg
            rw [fewSt] at q
            split at q
            · simp at q
            · cases hr : fewP n L (callM K a b) F1 with
              | mk o2 G2 =>
                rw [hr] at q
                cases o2 with
                | none => simp at q
                | some l2 =>
                  have := fewP_len (l := l2) (by rw [hr])
                  simp at q
                  obtain ⟨q1, _⟩ := q
                  subst q1
                  simp
                  omega
theorem fewP5 : (fewP 5 6 (begM 5) []).1 = some [(0, 1), (0, 2), (3, 4), (0, 3), (0, 1), (2, 4)] := by decide +kernel
def Kok (K : List Nat) : Prop := K.length = 6 ∧ ∀ m ∈ K, m < 64
def Fok (F : FT) : Prop := ∀ e ∈ F, Kok e.1
def K6 : KT := .mk true [.i .u8, .i .u8, .i .u8, .i .u8, .i .u8, .i .u8]
def enc6 (e : List Nat × Nat) : AV × AV := (.agg (e.1.map u8A), nA e.2)
def lit6 (K : List Nat) : List Lit := K.map fun m : Nat => Lit.int .u8 (m : Int)
theorem lit_u8 {m : Nat} (h : m < 64) : litA (.i .u8) (u8A m) = some (Lit.int .u8 (m : Int)) := by
  have : (Lit.int .u8 (m : Int)).wf = true := by
    simp [Lit.wf, IntKind.min, IntKind.max, IntKind.bits, IntKind.signed]
    omega
  simp [litA, u8A, this]
theorem key6 {K : List Nat} (h : Kok K) : keyA K6 (.agg (K.map u8A)) = some (lit6 K) := by
  obtain ⟨hl, hb⟩ := h
  match K, hl with
  | [a, b, c, d, e, f], _ =>
    simp only [List.mem_cons, List.not_mem_nil, or_false, forall_eq_or_imp, forall_eq] at hb
    obtain ⟨h1, h2, h3, h4, h5, h6⟩ := hb
    simp only [keyA, K6, if_true, List.map_cons, List.map_nil, litsA, lit_u8 h1, lit_u8 h2, lit_u8 h3, lit_u8 h4, lit_u8 h5, lit_u8 h6, bind, Option.bind_some, lit6]
theorem lits_eq : ∀ {K K' : List Nat}, litsEq (lit6 K) (lit6 K') = decide (K = K')
  | [], [] => by simp [lit6, litsEq]
  | [], _ :: _ => by simp [lit6, litsEq]
  | _ :: _, [] => by simp [lit6, litsEq]
  | a :: K, b :: K' => by
    have := lits_eq (K := K) (K' := K')
    simp only [lit6, List.map_cons, litsEq, litEq] at this ⊢
    rw [this]
    rw [Bool.eq_iff_iff]
    simp
    omega
def findP : FT → List Nat → Nat → Option (Nat × AV)
  | [], _, _ => none
  | (k, v) :: r, K, i => if k = K then some (i, nA v) else findP r K (i + 1)
theorem find6 {K : List Nat} : ∀ {F : FT} (i : Nat), Fok F → findE K6 (lit6 K) (F.map enc6) i = some (findP F K i)
  | [], i, _ => rfl
  | (k, v) :: F, i, h => by
    have hk : keyA K6 (.agg (k.map u8A)) = some (lit6 k) := key6 (h (k, v) (List.mem_cons_self ..))
    have ih := find6 (K := K) (F := F) (i + 1) (fun e he => h e (List.mem_cons_of_mem _ he))
    simp only [List.map_cons, enc6] at ih ⊢
    simp only [findE, hk, ih, lits_eq, findP]
    by_cases q : K = k
    · subst q; simp
    · rw [if_neg (by simpa using q), if_neg (fun w => q w.symm)]
theorem findP_look : ∀ {F : FT} {K : List Nat} {i : Nat}, (match findP F K i with | some (_, v) => v | none => nA 0) = nA (lookF F K)
  | [], K, i => rfl
  | (k, v) :: F, K, i => by
    simp only [findP, lookF]
    by_cases q : k = K
    · rw [if_pos q, if_pos q]
    · rw [if_neg q, if_neg q]
      exact findP_look
theorem findP_upd : ∀ {F : FT} {K : List Nat} {i v : Nat} (pre : FT), pre.length = i →
    (match findP F K i with | some (j, _) => ((pre ++ F).map enc6).set j (enc6 (K, v)) | none => (pre ++ F).map enc6 ++ [enc6 (K, v)]) = (pre ++ updF F K v).map enc6
  | [], K, i, v, pre, _ => by simp [findP, updF]
  | (k, w) :: F, K, i, v, pre, hp => by
    simp only [findP, updF]
    by_cases q : k = K
    · subst q
      rw [if_pos rfl, if_pos rfl]
      subst hp
      simp [List.set_append]
    · rw [if_neg q, if_neg q]
      have := findP_upd (F := F) (K := K) (i := i + 1) (v := v) (pre ++ [(k, w)]) (by simp [hp])
      simpa using this
theorem upd6 {F : FT} {K : List Nat} {v : Nat} (hF : Fok F) : updE K6 (lit6 K) (.agg (K.map u8A)) (nA v) (F.map enc6) = some ((updF F K v).map enc6) := by
  have := findP_upd (F := F) (K := K) (i := 0) (v := v) [] rfl
  unfold updE
  rw [find6 0 hF]
  cases h : findP F K 0 with
  | none => rw [h] at this; simpa [enc6] using this
  | some p => rw [h] at this; simpa [enc6] using this
theorem updF_ok {F : FT} {K : List Nat} {v : Nat} (hF : Fok F) (hK : Kok K) : Fok (updF F K v) := by
  induction F with
  | nil => intro e he; simp only [updF, List.mem_singleton] at he; subst he; exact hK
  | cons p F ih =>
    obtain ⟨k, w⟩ := p
    intro e he
    simp only [updF] at he
    split at he
    · rcases List.mem_cons.1 he with rfl | he
      · exact hK
      · exact hF e (List.mem_cons_of_mem _ he)
    · rcases List.mem_cons.1 he with rfl | he
      · exact hF _ (List.mem_cons_self ..)
      · exact ih (fun e he => hF e (List.mem_cons_of_mem _ he)) e he
end Go.Proofs.Ytpbighinamljbaa.PA
