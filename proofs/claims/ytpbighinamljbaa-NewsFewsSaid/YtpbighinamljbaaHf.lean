/- What is known of some objects, and what is left as it was: rules for walks. No condition. -/
import Derived.Test.YtpbighinamljbaaRng
set_option linter.unusedSimpArgs false
set_option linter.unusedVariables false
namespace Go.Eng
/-- Objects that are known, below a bound; all that was there before stays, but for some. -/
structure HF (H0 : AHeap) (mod : List Nat) (T : Nat) (fs : List (Nat × AObj)) (H : AHeap) : Prop where
  obj : ∀ p ∈ fs, H.get p.1 = some p.2
  lt : ∀ p ∈ fs, p.1 < T
  nd : (fs.map (·.1)).Nodup
  base : H0.next ≤ T
  le : T ≤ H.next
  fr : ∀ k, k < H0.next → k ∉ mod → H.get k = H0.get k
section
variable {cf : CF} {n : Nat} {H0 H H' : AHeap} {mod : List Nat} {T : Nat} {fs : List (Nat × AObj)} {l : KL0} {x y : XO} {r : List XOper} {R : KL0 → AHeap → Prop}
theorem HF.up (h : HF H0 mod T fs H) (hm : H'.m = H.m) (hn : H.next ≤ H'.next) : HF H0 mod T fs H' := by
  have hg : ∀ k, H'.get k = H.get k := fun k => by unfold AHeap.get; rw [hm]
  exact ⟨fun p hp => (hg _).trans (h.obj p hp), h.lt, h.nd, h.base, Nat.le_trans h.le hn, fun k h1 h2 => (hg k).trans (h.fr k h1 h2)⟩
theorem HF.sub {gs : List (Nat × AObj)} {T' : Nat} (h : HF H0 mod T fs H) (hs : gs.Sublist fs) (hT : T ≤ T') (hn : T' ≤ H.next) : HF H0 mod T' gs H :=
  ⟨fun p hp => h.obj p (hs.subset hp), fun p hp => Nat.lt_of_lt_of_le (h.lt p (hs.subset hp)) hT, h.nd.sublist (hs.map _), Nat.le_trans h.base hT, hn, h.fr⟩
/-- Behind a call that leaves these as they were. -/
theorem HF.call {mod' : List Nat} (h : HF H0 mod T fs H) (hf : ∀ k, k < H.next → k ∉ mod' → H'.get k = H.get k) (hn : H.next ≤ H'.next) (hm : ∀ k, k ∈ mod' → k ∈ mod ∨ H0.next ≤ k) (hd : ∀ p ∈ fs, p.1 ∉ mod') : HF H0 mod T fs H' :=
  ⟨fun p hp => (hf _ (Nat.lt_of_lt_of_le (h.lt p hp) h.le) (hd p hp)).trans (h.obj p hp), h.lt, h.nd, h.base, Nat.le_trans h.le hn, fun k h1 h2 => (hf k (Nat.lt_of_lt_of_le h1 (Nat.le_trans h.base h.le)) (fun w => by
    rcases hm k w with w | w
    · exact h2 w
    · omega)).trans (h.fr k h1 h2)⟩
/-- A further object is known. -/
theorem HF.add {i : Nat} {o : AObj} (h : HF H0 mod T fs H) (hg : H.get i = some o) (hi : i < T) (hn : i ∉ fs.map (·.1)) : HF H0 mod T ((i, o) :: fs) H where
  obj := fun p hp => by
    rcases List.mem_cons.1 hp with rfl | hp
    · exact hg
    · exact h.obj p hp
  lt := fun p hp => by
    rcases List.mem_cons.1 hp with rfl | hp
    · exact hi
    · exact h.lt p hp
  nd := by rw [List.map_cons, List.nodup_cons]; exact ⟨hn, h.nd⟩
  base := h.base
  le := h.le
  fr := h.fr
/-- A new object. -/
theorem HF.new {o : AObj} {H1 : AHeap} (h : HF H0 mod T fs H) (hT : T ≤ n) (hn : n < H1.next) (h1 : H1.get n = some o) (h2 : ∀ k, k ≠ n → H1.get k = H.get k) : HF H0 mod (n + 1) ((n, o) :: fs) H1 where
  obj := fun p hp => by
    rcases List.mem_cons.1 hp with rfl | hp
    · exact h1
    · rw [h2 _ (by have := h.lt p hp; omega)]; exact h.obj p hp
  lt := fun p hp => by
    rcases List.mem_cons.1 hp with rfl | hp
    · exact Nat.lt_succ_self _
    · have := h.lt p hp; omega
  nd := by
    rw [List.map_cons, List.nodup_cons]
    refine ⟨fun w => ?_, h.nd⟩
    obtain ⟨p, hp, e⟩ := List.mem_map.1 w
    have := h.lt p hp
    simp only at e
    omega
  base := by have := h.base; omega
  le := hn
  fr := fun k hk hm => (h2 k (by have := h.base; omega)).trans (h.fr k hk hm)
/-- An object is written. -/
theorem HF.put {gs : List (Nat × AObj)} {i : Nat} {o o' : AObj} {H1 : AHeap} (h : HF H0 mod T (gs ++ (i, o) :: fs) H) (hi : i ∈ mod ∨ H0.next ≤ i) (hn : H1.next = H.next) (h1 : H1.get i = some o') (h2 : ∀ k, k ≠ i → H1.get k = H.get k) : HF H0 mod T (gs ++ (i, o') :: fs) H1 where
  obj := fun p hp => by
    have hnd := h.nd
    rw [List.map_append, List.map_cons, List.nodup_append] at hnd
    obtain ⟨_, nd2, nd3⟩ := hnd
    rw [List.nodup_cons] at nd2
    rcases List.mem_append.1 hp with hp | hp
    · rw [h2 _ (fun e => nd3 _ (List.mem_map.2 ⟨p, hp, rfl⟩) _ (List.mem_cons_self ..) e)]
      exact h.obj p (List.mem_append.2 (.inl hp))
    · rcases List.mem_cons.1 hp with rfl | hp
      · exact h1
      · rw [h2 _ (fun e => nd2.1 (List.mem_map.2 ⟨p, hp, e⟩))]
        exact h.obj p (List.mem_append.2 (.inr (List.mem_cons_of_mem _ hp)))
  lt := fun p hp => by
    rcases List.mem_append.1 hp with hp | hp
    · exact h.lt p (List.mem_append.2 (.inl hp))
    · rcases List.mem_cons.1 hp with rfl | hp
      · exact h.lt (i, o) (List.mem_append.2 (.inr (List.mem_cons_self ..)))
      · exact h.lt p (List.mem_append.2 (.inr (List.mem_cons_of_mem _ hp)))
  nd := by
    have := h.nd
    rwa [List.map_append, List.map_cons] at this ⊢
  base := h.base
  le := by rw [hn]; exact h.le
  fr := fun k hk hm => (h2 k (fun e => by
    subst e
    rcases hi with hi | hi
    · exact hm hi
    · omega)).trans (h.fr k hk hm)
/-! ### reads -/
theorem k_ldO {i p : Nat} {c : List AV} {opn : Option Nat} {v : AV} (hx : evK l x = some (.ptr i p)) (hF : HF H0 mod T fs H) (hm : H'.m = H.m) (ho : (i, .cells c opn) ∈ fs) (hc : c[p]? = some v) : XV cf l H' n (.load none x) = some (v, H') :=
  k_any (op_loadc hx (by unfold AHeap.get; rw [hm]; exact hF.obj _ ho) hc)
theorem k_ldA {i m : Nat} {c : List AV} {opn : Option Nat} (hx : evK l x = some (.ptr i 0)) (hF : HF H0 mod T fs H) (hm : H'.m = H.m) (ho : (i, .cells c opn) ∈ fs) (hc : c.length = m) : XV cf l H' n (.load (some m) x) = some (.agg c, H') := by
  have hg : H'.get i = some (.cells c opn) := by unfold AHeap.get; rw [hm]; exact hF.obj _ ho
  have := op_loadn (cf := cf) (m := n) (n := m) (i := i) (o := 0) (ev := evK l) (x := x) hx hg (by omega)
  rw [List.drop_zero, List.take_of_length_le (by omega)] at this
  exact k_any this
theorem k_lookO {i j : Nat} {K : KT} {zero key v : AV} {ok : Bool} {es : List (AV × AV)} {ls : List Lit} (hx : evK l x = some (.map i)) (hy : evK l y = some key) (hF : HF H0 mod T fs H) (hm : H'.m = H.m) (ho : (i, .map es) ∈ fs) (hk : keyA K key = some ls)
    (hf : findE K ls es 0 = some (some (j, v))) : XV cf l H' n (.look K zero x y ok) = some (if ok then .tup [v, .bool true] else v, H') := by
  have hg : H'.get i = some (.map es) := by unfold AHeap.get; rw [hm]; exact hF.obj _ ho
  refine k_any ?_
  simp only [xval, xop, hx, hy, Option.bind_some, entsA, hg, hk, hf]
theorem k_lookN {i : Nat} {K : KT} {zero key : AV} {ok : Bool} {es : List (AV × AV)} {ls : List Lit} (hx : evK l x = some (.map i)) (hy : evK l y = some key) (hF : HF H0 mod T fs H) (hm : H'.m = H.m) (ho : (i, .map es) ∈ fs) (hk : keyA K key = some ls)
    (hf : findE K ls es 0 = some none) : XV cf l H' n (.look K zero x y ok) = some (if ok then .tup [zero, .bool false] else zero, H') := by
  have hg : H'.get i = some (.map es) := by unfold AHeap.get; rw [hm]; exact hF.obj _ ho
  refine k_any ?_
  simp only [xval, xop, hx, hy, Option.bind_some, entsA, hg, hk, hf]
/-! ### writes -/
theorem WKO.newO {d : Nat} {op : XOp} {v : AV} {o : AObj} (hop : xval cf (evK l) H' n op = some (v, H'.set n (some o))) (ha : allSm l op.opnds = true) (hF : HF H0 mod T fs H) (hm : H'.m = H.m) (hn : H.next ≤ H'.next) (hT : T ≤ n) (hlt : n < H'.next)
    (k : ∀ H1, HF H0 mod (n + 1) ((n, o) :: fs) H1 → H1.next = H'.next → WKO cf r (n + 1) ((d, v) :: l) H1 R) : WKO cf (⟨some d, op, none⟩ :: r) n l H' R :=
  WKO.op (k_any hop) ha (k (H'.set n (some o)) ((hF.up hm hn).new hT (by rw [next_set]; exact hlt) (by rw [AHeap.get_set, if_pos rfl]) (fun k hk => by rw [AHeap.get_set, if_neg hk])) rfl)
theorem WKO.boxO {d : Nat} {v : AV} (hx : evK l x = some v) (hF : HF H0 mod T fs H) (hm : H'.m = H.m) (hn : H.next ≤ H'.next) (hT : T ≤ n) (hlt : n < H'.next)
    (k : ∀ H1, HF H0 mod (n + 1) ((n, .cells v.cells none) :: fs) H1 → H1.next = H'.next → WKO cf r (n + 1) ((d, .ptr n 0) :: l) H1 R) : WKO cf (⟨some d, .box x, none⟩ :: r) n l H' R :=
  WKO.newO (op := .box x) (by simp only [xval, xop, hx]) (by simp [allSm, XOp.opnds, hx]) hF hm hn hT hlt k
theorem WKO.alO {d : Nat} {z : List AV} (hF : HF H0 mod T fs H) (hm : H'.m = H.m) (hn : H.next ≤ H'.next) (hT : T ≤ n) (hlt : n < H'.next)
    (k : ∀ H1, HF H0 mod (n + 1) ((n, .cells z none) :: fs) H1 → H1.next = H'.next → WKO cf r (n + 1) ((d, .ptr n 0) :: l) H1 R) : WKO cf (⟨some d, .alloc z, none⟩ :: r) n l H' R :=
  WKO.newO (op := .alloc z) (by simp only [xval, xop]) rfl hF hm hn hT hlt k
theorem WKO.mapO {d : Nat} (hF : HF H0 mod T fs H) (hm : H'.m = H.m) (hn : H.next ≤ H'.next) (hT : T ≤ n) (hlt : n < H'.next)
    (k : ∀ H1, HF H0 mod (n + 1) ((n, .map []) :: fs) H1 → H1.next = H'.next → WKO cf r (n + 1) ((d, .map n) :: l) H1 R) : WKO cf (⟨some d, .mkmap, none⟩ :: r) n l H' R :=
  WKO.newO (op := .mkmap) (by simp only [xval, xop]) rfl hF hm hn hT hlt k
theorem WKO.bsO {d m : Nat} {z new : List AV} {ps : List (Nat × Nat × XO)} (hps : (evParts (evK l) ps).bind (fillA (List.replicate m z).flatten) = some new) (ha : allSm l (XOp.bslice z ps m).opnds = true) (hF : HF H0 mod T fs H) (hm : H'.m = H.m) (hn : H.next ≤ H'.next) (hT : T ≤ n) (hlt : n < H'.next)
    (k : ∀ H1, HF H0 mod (n + 1) ((n, .cells new none) :: fs) H1 → H1.next = H'.next → WKO cf r (n + 1) ((d, .sl n 0 m m) :: l) H1 R) : WKO cf (⟨some d, .bslice z ps m, none⟩ :: r) n l H' R :=
  WKO.newO (op := .bslice z ps m) (by simp only [xval, xop, hps]) ha hF hm hn hT hlt k
theorem WKO.stG {gs : List (Nat × AObj)} {i p m : Nat} {c : List AV} {opn : Option Nat} {v : AV} {a x : XO} (ha : evK l a = some (.ptr i p)) (hx : evK l x = some v) (hF : HF H0 mod T (gs ++ (i, .cells c opn) :: fs) H) (hm : H'.m = H.m) (hn : H.next ≤ H'.next) (hi : i ∈ mod ∨ H0.next ≤ i) (hl : v.cells.length = m) (h1 : v.cells.all AV.oneCell = true) (hf : p + m ≤ c.length)
    (k : ∀ H1, HF H0 mod T (gs ++ (i, .cells (overA c p v.cells) opn) :: fs) H1 → H1.next = H'.next → WKO cf r (n + 1) l H1 R) : WKO cf (⟨none, .store m a x, none⟩ :: r) n l H' R := by
  have hF' := hF.up hm hn
  unfold WKO at k ⊢
  intro tm ht
  exact WO.store (ht.ev ha) (ht.ev hx) (hF'.obj (i, _) (List.mem_append.2 (.inr (List.mem_cons_self ..)))) hl h1 hf (fun H1 q1 q2 q3 => k H1 (hF'.put hi q3 q1 q2) q3 tm ht)
theorem WKO.stO0 {i p m : Nat} {c : List AV} {opn : Option Nat} {v : AV} {a x : XO} (ha : evK l a = some (.ptr i p)) (hx : evK l x = some v) (hF : HF H0 mod T ((i, .cells c opn) :: fs) H) (hm : H'.m = H.m) (hn : H.next ≤ H'.next) (hi : i ∈ mod ∨ H0.next ≤ i) (hl : v.cells.length = m) (h1 : v.cells.all AV.oneCell = true) (hf : p + m ≤ c.length)
    (k : ∀ H1, HF H0 mod T ((i, .cells (overA c p v.cells) opn) :: fs) H1 → H1.next = H'.next → WKO cf r (n + 1) l H1 R) : WKO cf (⟨none, .store m a x, none⟩ :: r) n l H' R :=
  WKO.stG (gs := []) ha hx hF hm hn hi hl h1 hf k
theorem WKO.stO1 {f1 : Nat × AObj} {i p m : Nat} {c : List AV} {opn : Option Nat} {v : AV} {a x : XO} (ha : evK l a = some (.ptr i p)) (hx : evK l x = some v) (hF : HF H0 mod T (f1 :: (i, .cells c opn) :: fs) H) (hm : H'.m = H.m) (hn : H.next ≤ H'.next) (hi : i ∈ mod ∨ H0.next ≤ i) (hl : v.cells.length = m) (h1 : v.cells.all AV.oneCell = true) (hf : p + m ≤ c.length)
    (k : ∀ H1, HF H0 mod T (f1 :: (i, .cells (overA c p v.cells) opn) :: fs) H1 → H1.next = H'.next → WKO cf r (n + 1) l H1 R) : WKO cf (⟨none, .store m a x, none⟩ :: r) n l H' R :=
  WKO.stG (gs := [f1]) ha hx hF hm hn hi hl h1 hf k
theorem WKO.stO2 {f1 f2 : Nat × AObj} {i p m : Nat} {c : List AV} {opn : Option Nat} {v : AV} {a x : XO} (ha : evK l a = some (.ptr i p)) (hx : evK l x = some v) (hF : HF H0 mod T (f1 :: f2 :: (i, .cells c opn) :: fs) H) (hm : H'.m = H.m) (hn : H.next ≤ H'.next) (hi : i ∈ mod ∨ H0.next ≤ i) (hl : v.cells.length = m) (h1 : v.cells.all AV.oneCell = true) (hf : p + m ≤ c.length)
    (k : ∀ H1, HF H0 mod T (f1 :: f2 :: (i, .cells (overA c p v.cells) opn) :: fs) H1 → H1.next = H'.next → WKO cf r (n + 1) l H1 R) : WKO cf (⟨none, .store m a x, none⟩ :: r) n l H' R :=
  WKO.stG (gs := [f1, f2]) ha hx hF hm hn hi hl h1 hf k
/-- The whole object is written. -/
theorem WKO.stW0 {i m : Nat} {c vs : List AV} {opn : Option Nat} {v : AV} {a x : XO} (ha : evK l a = some (.ptr i 0)) (hx : evK l x = some v) (hF : HF H0 mod T ((i, .cells c opn) :: fs) H) (hm : H'.m = H.m) (hn : H.next ≤ H'.next) (hi : i ∈ mod ∨ H0.next ≤ i) (hv : v.cells = vs) (hl : vs.length = m) (h1 : vs.all AV.oneCell = true) (hf : c.length = m)
    (k : ∀ H1, HF H0 mod T ((i, .cells vs opn) :: fs) H1 → H1.next = H'.next → WKO cf r (n + 1) l H1 R) : WKO cf (⟨none, .store m a x, none⟩ :: r) n l H' R :=
  WKO.stO0 ha hx hF hm hn hi (by rw [hv]; exact hl) (by rw [hv]; exact h1) (by omega) (fun H1 q => k H1 (by
    have e : overA c 0 v.cells = vs := by
      rw [hv]
      simp only [overA, List.take_zero, List.nil_append, Nat.zero_add]
      rw [List.drop_eq_nil_of_le (by omega), List.append_nil]
    rwa [e] at q))
theorem WKO.updG {gs : List (Nat × AObj)} {i : Nat} {K : KT} {key v : AV} {es es' : List (AV × AV)} {ls : List Lit} {a x y : XO} (ha : evK l a = some (.map i)) (hx : evK l x = some key) (hy : evK l y = some v) (hF : HF H0 mod T (gs ++ (i, .map es) :: fs) H) (hm : H'.m = H.m) (hn : H.next ≤ H'.next) (hi : i ∈ mod ∨ H0.next ≤ i) (hk : keyA K key = some ls) (hu : updE K ls key v es = some es')
    (k : ∀ H1, HF H0 mod T (gs ++ (i, .map es') :: fs) H1 → H1.next = H'.next → WKO cf r (n + 1) l H1 R) : WKO cf (⟨none, .upd K a x y, none⟩ :: r) n l H' R := by
  have hF' := hF.up hm hn
  have hg := hF'.obj (i, .map es) (List.mem_append.2 (.inr (List.mem_cons_self ..)))
  exact WKO.opn (v := undefA) (H1 := H'.set i (some (.map es'))) (k_any (by simp only [xval, xop, ha, hx, hy, hg, hk, hu])) (by simp [allSm, XOp.opnds, ha, hx, hy]) (k _ (hF'.put hi rfl (by rw [AHeap.get_set, if_pos rfl]) (fun k hk => by rw [AHeap.get_set, if_neg hk])) rfl)
theorem WKO.updO1 {f1 : Nat × AObj} {i : Nat} {K : KT} {key v : AV} {es es' : List (AV × AV)} {ls : List Lit} {a x y : XO} (ha : evK l a = some (.map i)) (hx : evK l x = some key) (hy : evK l y = some v) (hF : HF H0 mod T (f1 :: (i, .map es) :: fs) H) (hm : H'.m = H.m) (hn : H.next ≤ H'.next) (hi : i ∈ mod ∨ H0.next ≤ i) (hk : keyA K key = some ls) (hu : updE K ls key v es = some es')
    (k : ∀ H1, HF H0 mod T (f1 :: (i, .map es') :: fs) H1 → H1.next = H'.next → WKO cf r (n + 1) l H1 R) : WKO cf (⟨none, .upd K a x y, none⟩ :: r) n l H' R :=
  WKO.updG (gs := [f1]) ha hx hy hF hm hn hi hk hu k
end
end Go.Eng
