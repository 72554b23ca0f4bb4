/- The table of known calls for NewsKnows. No condition. -/
import Derived.Test.YtpbighinamljbaaChk3
set_option linter.unusedSimpArgs false
set_option linter.unusedVariables false
namespace Go.Proofs.Ytpbighinamljbaa.PA
open Go Go.Eng Go.Proofs
def zsOf : List AV → Option ZPrs
  | [] => some []
  | .int .i64 a :: .int .i64 b :: r => (zsOf r).map ((a, b) :: ·)
  | _ => none
theorem zsOf_eq : ∀ {cs : List AV} {l : ZPrs}, zsOf cs = some l → cs = zc l
  | [], l, h => by simp [zsOf] at h; subst h; rfl
  | [x], l, h => by
    unfold zsOf at h
    split at h
    · rename_i heq; cases heq
    · rename_i heq; cases heq
    · cases h
  | x :: y :: r, l, h => by
    unfold zsOf at h
    split at h
    · rename_i heq; cases heq
    · rename_i a b r' heq
      cases heq
      obtain ⟨m, h2, rfl⟩ := Option.map_eq_some_iff.1 h
      rw [zsOf_eq h2]
      rfl
    · cases h
theorem zsOf_zc (l : ZPrs) : zsOf (zc l) = some l := by
  induction l with
  | nil => rfl
  | cons p l ih =>
    show zsOf (.int .i64 p.1 :: .int .i64 p.2 :: zc l) = _
    simp [zsOf, ih]
theorem plain_zc (l : ZPrs) : AV.plainL (zc l) = true := by
  induction l with
  | nil => rfl
  | cons p l ih =>
    show AV.plainL (.int .i64 p.1 :: .int .i64 p.2 :: zc l) = true
    simp only [AV.plainL, ih, Bool.and_true]
    rfl
/-- The known calls of NewsKnows. -/
def KZ : CF := fun f args H =>
  match f, args with
  | 57, [.int .i64 n, x] => (cellsA H 2 x).bind fun c => (zsOf c.2).bind fun l => if l.length = c.1 then some (.int .i64 (errZ n l), H) else none
  | 29, [.int .i64 n, x] => (cellsA H 2 x).bind fun c => (zsOf c.2).bind fun l => if l.length = c.1 then some (.int .i64 (errZ n l), H) else none
  | f, args => KL2 f args H
theorem KZ_ok : CFok Try.prog KZ := by
  intro f args H v H' h
  unfold KZ at h
  split at h
  · rename_i n x
    simp only [Option.bind_eq_some_iff] at h
    obtain ⟨c, hc, l, hl, h⟩ := h
    split at h
    · rename_i hh
      cases h
      obtain ⟨v', H1, h1, rfl⟩ := x57 (cf := xcall F 300 3) (fuel := 300) (H := ⟨.e, 0⟩) (n := n) (l := l) (by omega)
      have h1' : xcall F 300 4 57 [.int .i64 n, .imm (zc l) l.length false] ⟨.e, 0⟩ = some (.int .i64 (errZ n l), H1) := h1
      refine frame0 (xF 4 _ _ _ _ _ h1') rfl (fun E w us hR h => args2 (H := H) h (fun u hu => plain_rel rfl hu) (fun u hu => ?_))
      have hcs := zsOf_eq hl
      have := cells_freeze hR hu hc (by rw [hcs]; exact plain_zc _)
      rwa [hcs, ← hh] at this
    · cases h
  · rename_i n x
    simp only [Option.bind_eq_some_iff] at h
    obtain ⟨c, hc, l, hl, h⟩ := h
    split at h
    · rename_i hh
      cases h
      obtain ⟨v', H1, h1, rfl⟩ := x29 (k := 3) (fuel := 300) (H := ⟨.e, 0⟩) (n := n) (l := l) (by omega)
      have h1' : cfI 4 29 [.int .i64 n, .imm (zc l) l.length false] ⟨.e, 0⟩ = some (.int .i64 (errZ n l), H1) := h1
      refine frame0 (cfI_ok 4 _ _ _ _ _ h1') rfl (fun E w us hR h => args2 (H := H) h (fun u hu => plain_rel rfl hu) (fun u hu => ?_))
      have hcs := zsOf_eq hl
      have := cells_freeze hR hu hc (by rw [hcs]; exact plain_zc _)
      rwa [hcs, ← hh] at this
    · cases h
  · exact KL2_ok _ _ _ _ _ h
def cfZ (k : Nat) : CF := xcallK KZ F 300 k
theorem cfZ_ok (k : Nat) : CFok Try.prog (cfZ k) := xcallK_sound mixP KZ_ok F_ok 300 k
theorem cfZ_KZ {k f : Nat} {args : List AV} {H : AHeap} {r : AV × AHeap} (h : KZ f args H = some r) : cfZ k f args H = some r := by
  unfold cfZ
  cases k with
  | zero => exact h
  | succ k => unfold xcallK; rw [h]
theorem cfZ_step {k f : Nat} {fn : XFunc} {args : List AV} {H : AHeap} (hK : KZ f args H = none) (hF : F f = some fn) : cfZ (k + 1) f args H = xfunc (cfZ k) 300 fn args H := by
  unfold cfZ
  rw [xcallK, hK, hF]
theorem KZ_29 {n : Int} {x : AV} {H : AHeap} : KZ 29 [.int .i64 n, x] H = (cellsA H 2 x).bind fun c => (zsOf c.2).bind fun l => if l.length = c.1 then some (.int .i64 (errZ n l), H) else none := rfl
theorem z_29 {k : Nat} {n : Int} {x : AV} {l : ZPrs} {H : AHeap} (h : RowE 2 H x l.length (zc l)) : cfZ k 29 [.int .i64 n, x] H = some (.int .i64 (errZ n l), H) := by
  apply cfZ_KZ
  rw [KZ_29, cellsA_row h, Option.bind_some]
  dsimp only
  rw [zsOf_zc, Option.bind_some, if_pos rfl]
theorem z_17 {k : Nat} {H : AHeap} : cfZ k 17 [] H = some (.bool true, H) := cfZ_KZ rfl
theorem zc_prs (q : Prs) : zc (q.map (fun c => ((c.1 : Int), (c.2 : Int)))) = prsC q := by
  induction q with
  | nil => rfl
  | cons c q ih =>
    show AV.int .i64 (c.1 : Int) :: AV.int .i64 (c.2 : Int) :: zc (q.map _) = _
    rw [ih]
    rfl
end Go.Proofs.Ytpbighinamljbaa.PA
