/- Foldings, as a grammar and as what a scan accepts; plain. No condition. -/
import Derived.Test.YtfcgofffalmdfaaDoorJC
import Derived.Test.YtfcgofffalmdfaaDoorJD
import Derived.KernelRfl
set_option linter.unusedSectionVars false
set_option linter.unusedVariables false
set_option linter.unusedSimpArgs false
namespace Go.Proofs.YtfcgofffalmdfaaDoor.PA
open Go Go.Eng
section
variable (may : Nat → Nat → Bool)
theorem Fold.app {i : Nat} {u v : List UInt8} (h : Fold may i u) : Fold may (i + u.length) v → Fold may i (u ++ v) := by
  induction h with
  | nil i => exact fun h => h
  | @dot i w h ih =>
    intro hv
    exact .dot (ih (by rw [List.length_cons] at hv; rwa [show i + 1 + w.length = i + (w.length + 1) by omega]))
  | @pair i a b ha hm hb _ ih =>
    intro hv
    have := ih (by
      have e : (40 :: (a ++ 41 :: b) : List UInt8).length = a.length + b.length + 2 := by simp; omega
      rw [e] at hv
      rwa [show i + 2 + a.length + b.length = i + (a.length + b.length + 2) by omega])
    have e : 40 :: (a ++ 41 :: b) ++ v = 40 :: (a ++ 41 :: (b ++ v)) := by simp
    rw [e]
    exact .pair ha hm this
theorem Fold.scan {i : Nat} {w : List UInt8} (h : Fold may i w) : ∀ (r : List UInt8) (op : List Nat) (out : List (Nat × Nat)) (d : Nat), ∃ out2 d2, scanL (w ++ r) i op out d = scanL r (i + w.length) op (out ++ out2) d2 ∧ (∀ p ∈ out2, may p.1 p.2 = true) := by
  induction h with
  | nil i => intro r op out d; exact ⟨[], d, by simp, fun p hp => by cases hp⟩
  | @dot i w h ih =>
    intro r op out d
    obtain ⟨o2, d2, h1, h2⟩ := ih r op out d
    refine ⟨o2, d2, ?_, h2⟩
    rw [List.cons_append, scanL, if_neg (by decide), if_neg (by decide), if_pos rfl, h1, List.length_cons, show i + 1 + w.length = i + (w.length + 1) by omega]
  | @pair i u v hu hm hv ih1 ih2 =>
    intro r op out d
    obtain ⟨o2, d2, h1, h2⟩ := ih1 (41 :: (v ++ r)) (op ++ [i]) out (max d (op.length + 1))
    obtain ⟨o3, d3, h3, h4⟩ := ih2 r op (out ++ o2 ++ [(i, i + 1 + u.length)]) d2
    refine ⟨o2 ++ [(i, i + 1 + u.length)] ++ o3, d3, ?_, fun p hp => ?_⟩
    · have e : 40 :: (u ++ 41 :: v) ++ r = 40 :: (u ++ 41 :: (v ++ r)) := by simp
      rw [e, scanL, if_pos rfl, h1, scanL, if_neg (by decide), if_pos rfl]
      simp only [List.getLast?_concat, List.dropLast_concat]
      rw [show i + 1 + u.length + 1 = i + 2 + u.length by omega, h3]
      have e2 : (40 :: (u ++ 41 :: v) : List UInt8).length = u.length + v.length + 2 := by simp; omega
      rw [e2, show i + 2 + u.length + v.length = i + (u.length + v.length + 2) by omega]
      simp only [List.append_assoc]
    · rcases List.mem_append.1 hp with hp | hp
      · rcases List.mem_append.1 hp with hp | hp
        · exact h2 p hp
        · rw [List.mem_singleton.1 hp]; exact hm
      · exact h4 p hp
inductive Ctx : Nat → List Nat → List UInt8 → Prop
  | base {w} (h : Fold may 0 w) : Ctx w.length [] w
  | push {a op p w} (hc : Ctx a op p) (hw : Fold may (a + 1) w) : Ctx (a + 1 + w.length) (op ++ [a]) (p ++ 40 :: w)
theorem Ctx.app {i : Nat} {op : List Nat} {p v : List UInt8} (h : Ctx may i op p) (hv : Fold may i v) : Ctx may (i + v.length) op (p ++ v) := by
  cases h with
  | @base w h =>
    have := Ctx.base (may := may) (w := p ++ v) (h.app may (by simpa using hv))
    rwa [List.length_append] at this
  | @push a op p w hc hw =>
    have := Ctx.push hc (hw.app may hv)
    rw [List.length_append, ← Nat.add_assoc] at this
    simpa using this
theorem scan_ctx : ∀ (r : List UInt8) (i : Nat) (op : List Nat) (out : List (Nat × Nat)) (d : Nat) (outF : List (Nat × Nat)) (dF : Nat) (p : List UInt8), scanL r i op out d = some ([], outF, dF) → Ctx may i op p →
    (∃ o2, outF = out ++ o2) ∧ ((∀ q ∈ outF, may q.1 q.2 = true) → Fold may 0 (p ++ r))
  | [], i, op, out, d, outF, dF, p, h, hc => by
    simp only [scanL, Option.some.injEq, Prod.mk.injEq] at h
    obtain ⟨rfl, rfl, _⟩ := h
    refine ⟨⟨[], by simp⟩, fun _ => ?_⟩
    rw [List.append_nil]
    generalize he : ([] : List Nat) = op at hc
    cases hc with
    | base h => exact h
    | push _ _ => simp at he
  | b :: r, i, op, out, d, outF, dF, p, h, hc => by
    simp only [scanL] at h
    split at h
    · rename_i hb
      subst hb
      have hc2 : Ctx may (i + 1) (op ++ [i]) (p ++ [40]) := Ctx.push hc (.nil _)
      obtain ⟨h1, h2⟩ := scan_ctx r (i + 1) _ _ _ _ _ _ h hc2
      exact ⟨h1, fun q => by simpa using h2 q⟩
    · split at h
      · rename_i hb
        subst hb
        split at h
        · cases h
        · rename_i a ha
          cases hc with
          | base h' => cases ha
          | @push a' op' p' w hc' hw =>
            simp only [List.getLast?_concat, Option.some.injEq] at ha
            subst ha
            rw [List.dropLast_concat] at h
            by_cases hm : may a' (a' + 1 + w.length) = true
            · have hc3 : Ctx may (a' + 1 + w.length + 1) op' (p' ++ (40 :: (w ++ [41]))) := by
                have := hc'.app may (Fold.pair hw hm (.nil _))
                have e : (40 :: (w ++ [41]) : List UInt8).length = w.length + 2 := by simp
                rw [e] at this
                rwa [show a' + 1 + w.length + 1 = a' + (w.length + 2) by omega]
              obtain ⟨⟨o2, h1⟩, h2⟩ := scan_ctx r _ _ _ _ _ _ _ h hc3
              exact ⟨⟨[(a', a' + 1 + w.length)] ++ o2, by rw [h1]; simp⟩, fun q => by simpa using h2 q⟩
            · have hout : ∀ (r : List UInt8) (i : Nat) (op : List Nat) (out : List (Nat × Nat)) (d : Nat) (op' : List Nat) (outF : List (Nat × Nat)) (dF : Nat), scanL r i op out d = some (op', outF, dF) → ∃ o2, outF = out ++ o2 := by
                intro r
                induction r with
                | nil => intro i op out d op' outF dF h; simp only [scanL, Option.some.injEq, Prod.mk.injEq] at h; exact ⟨[], by simp [h.2.1]⟩
                | cons b r ih =>
                  intro i op out d op' outF dF h
                  simp only [scanL] at h
                  split at h
                  · exact ih _ _ _ _ _ _ _ h
                  · split at h
                    · split at h
                      · cases h
                      · rename_i a ha
                        obtain ⟨o2, q⟩ := ih _ _ _ _ _ _ _ h
                        exact ⟨[(a, i)] ++ o2, by rw [q]; simp⟩
                    · split at h
                      · exact ih _ _ _ _ _ _ _ h
                      · cases h
              obtain ⟨o2, h1⟩ := hout r _ _ _ _ _ _ _ h
              refine ⟨⟨[(a', a' + 1 + w.length)] ++ o2, by rw [h1]; simp⟩, fun q => ?_⟩
              exact absurd (q (a', a' + 1 + w.length) (by rw [h1]; simp)) hm
      · split at h
        · rename_i hb
          subst hb
          have hc2 : Ctx may (i + 1) op (p ++ [46]) := hc.app may (.dot (.nil _))
          obtain ⟨h1, h2⟩ := scan_ctx r (i + 1) _ _ _ _ _ _ h hc2
          exact ⟨h1, fun q => by simpa using h2 q⟩
        · cases h
end
theorem mem_sortP {l : List (Int × Int)} {p : Int × Int} : p ∈ sortP l ↔ p ∈ l := by
  unfold sortP
  exact List.mem_mergeSort
theorem any_sort {out : List (Nat × Nat)} {f : Nat → Nat → Bool} : ((sortP (out.map castP)).any fun p => !f p.1.toNat p.2.toNat) = false ↔ ∀ q ∈ out, f q.1 q.2 = true := by
  rw [List.any_eq_false]
  constructor
  · intro h q hq
    have := h (castP q) (mem_sortP.2 (List.mem_map_of_mem hq))
    simpa [castP] using this
  · intro h p hp
    obtain ⟨q, hq, rfl⟩ := List.mem_map.1 (mem_sortP.1 hp)
    simp [castP, h q hq]
theorem isF_iff {s : List UInt8} {rl : List Bool} {gap : Int} {f : List UInt8} : isF s rl gap f = true ↔ f.length = s.length ∧ Fold (mayF s rl gap) 0 f := by
  unfold isF
  constructor
  · intro h
    split at h
    · rename_i out d hs
      simp only [Bool.and_eq_true, decide_eq_true_eq, Bool.not_eq_true'] at h
      refine ⟨h.1, ?_⟩
      have := (scan_ctx (mayF s rl gap) f 0 [] [] 0 out d [] hs (Ctx.base (.nil 0))).2 (any_sort.1 h.2)
      simpa using this
    · cases h
  · rintro ⟨h1, h2⟩
    obtain ⟨o2, d2, h3, h4⟩ := h2.scan (mayF s rl gap) [] [] [] 0
    rw [List.append_nil] at h3
    rw [h3]
    simp only [scanL, List.nil_append, h1, decide_true, Bool.true_and, Bool.not_eq_true']
    exact any_sort.2 h4
end Go.Proofs.YtfcgofffalmdfaaDoor.PA
namespace Go.Proofs.YtfcgofffalmdfaaDoor.PA
open Go Go.Eng
theorem op_mn2 {cf : CF} {n : Nat} {k : IntKind} {a b : Int} {H : AHeap} {ev : XO → Option AV} {x y : XO} (hx : ev x = some (.int k a)) (hy : ev y = some (.int k b)) : xval cf ev H n (.mn [x, y]) = some (.int k (if b < a then b else a), H) := by
  simp only [xval, xop, evL2 hx hy, Option.bind_some, minA, List.foldlM]; rfl
theorem op_mx2 {cf : CF} {n : Nat} {k : IntKind} {a b : Int} {H : AHeap} {ev : XO → Option AV} {x y : XO} (hx : ev x = some (.int k a)) (hy : ev y = some (.int k b)) : xval cf ev H n (.mx [x, y]) = some (.int k (if b > a then b else a), H) := by
  simp only [xval, xop, evL2 hx hy, Option.bind_some, maxA, List.foldlM]; rfl
theorem op_imm {cf : CF} {n j l z : Nat} {k : IntKind} {cs : List AV} {fl : Bool} {H : AHeap} {ev : XO → Option AV} {x y : XO} (hx : ev x = some (.imm cs l fl)) (hy : ev y = some (.int k (j : Int))) (h : j < l) : xval cf ev H n (.iaddr z x y) = some (.iptr cs (j * z), H) := by
  simp only [xval, xop, hx, hy, iaddrA, idxOk_lt h, if_true, Int.toNat_natCast, AR.ofV]
theorem op_iload {cf : CF} {n m o : Nat} {cs : List AV} {H : AHeap} {ev : XO → Option AV} {x : XO} (hx : ev x = some (.iptr cs o)) (h : m ≤ (cs.drop o).length) : xval cf ev H n (.load (some m) x) = some (.agg ((cs.drop o).take m), H) := by
  simp only [xval, xop, hx, Option.bind_some, loadA, cellsAt]
  rw [if_pos h]
  rfl
theorem xop_loadc {n i o : Nat} {c : List AV} {opn : Option Nat} {v : AV} {H : AHeap} {ev : XO → Option AV} {x : XO} (hx : ev x = some (.ptr i o)) (hH : H.get i = some (.cells c opn)) (h : c[o]? = some v) : xop ev H n (.load none x) = .v v := by
  simp only [xop, hx, Option.bind_some, loadA, cellsAt, hH, List.getElem?_drop, Nat.add_zero, h, AR.ofV]
theorem looseOk_of {ops : List XOper} {tr : List St} {base j : Nat} {es : List Nat} {o : XOper} {s : St} (ho : ops[j]? = some o) (hs : tr[j]? = some s) (hg : o.guard = none) {x : AV} (hx : xop (St.ev s.tm) s.H 0 o.op = .v x)
    (hall : ∀ i ∈ j :: (es ++ es.map (· + 1)), ∃ si, tr[i]? = some si ∧ xop (St.ev s.tm) si.H 0 o.op = .v x) (hb : AV.beq x x = true) : looseOk ops tr base [] (j, es, []) = true := by
  unfold looseOk
  have hw : wantedA s.tm o = some true := by unfold wantedA; rw [hg]
  simp only [ho, hs, hw, hx]
  rw [List.all_eq_true]
  intro i hi
  obtain ⟨si, h1, h2⟩ := hall i hi
  simp only [h1, List.filter_nil, AHeap.less, h2, hb]
theorem WT.store {cf : CF} {n m i o : Nat} {a x : XO} {v : AV} {c : List AV} {opn : Option Nat} {r : List XOper} {tm : Tr AV} {H : AHeap} {Q : List St → Prop} (ha : St.ev tm a = some (.ptr i o)) (hx : St.ev tm x = some v) (hH : H.get i = some (.cells c opn)) (hl : v.cells.length = m) (h1 : v.cells.all AV.oneCell = true) (hf : o + m ≤ c.length)
    (k : ∀ H1 : AHeap, H1.get i = some (.cells (overA c o v.cells) opn) → (∀ j, j ≠ i → H1.get j = H.get j) → H1.next = H.next → WT cf r (n + 1) ⟨tm, H1⟩ fun tr => Q (⟨tm, H⟩ :: tr)) : WT cf (⟨none, .store m a x, none⟩ :: r) n ⟨tm, H⟩ Q :=
  WT.opn (op_store ha hx hH hl h1 hf) (k _ (by rw [AHeap.get_set, if_pos rfl]) (fun j hj => by rw [AHeap.get_set, if_neg hj]) rfl)
def rulesOf (l : List (Int × Int)) : List Bool := l.foldl (fun rl p => (rl.set (p.1.toNat * 4 + p.2.toNat) true).set (p.2.toNat * 4 + p.1.toNat) true) (List.replicate 16 false)
theorem rulesOf_len (l : List (Int × Int)) : (rulesOf l).length = 16 := by
  have : ∀ (l : List (Int × Int)) (rl : List Bool), (l.foldl (fun rl p => (rl.set (p.1.toNat * 4 + p.2.toNat) true).set (p.2.toNat * 4 + p.1.toNat) true) rl).length = rl.length := by
    intro l
    induction l with
    | nil => intro rl; rfl
    | cons p l ih => intro rl; rw [List.foldl_cons, ih]; simp
  rw [rulesOf, this]; rfl
def badP (p : Int × Int) : Bool := decide (p.1 < 0) || decide (p.2 < 0) || decide (p.1 ≥ 4) || decide (p.2 ≥ 4)
theorem ropeA_len {s : List UInt8} {rl : List Bool} {gap : Int} {k f : AV} : (ropeA s rl gap k f).length = rl.length + 4 := by simp [ropeA]
theorem ropeA_set {s : List UInt8} {rl : List Bool} {gap : Int} {k f : AV} {j : Nat} (h : j < rl.length) : overA (ropeA s rl gap k f) (1 + j) [.bool true] = ropeA s (rl.set j true) gap k f := by
  have e : overA (ropeA s rl gap k f) (1 + j) [.bool true] = (ropeA s rl gap k f).set (1 + j) (.bool true) := by
    rw [List.set_eq_take_append_cons_drop, if_pos (by rw [ropeA_len]; omega)]
    simp [overA]
  rw [e, show 1 + j = j + 1 by omega]
  simp only [ropeA, List.set_cons_succ]
  rw [List.set_append_left _ _ (by simpa using h), List.map_set]
def readE (s : List UInt8) (l : List (Int × Int)) (gap : Int) : Int :=
  if 40 < s.length ∨ 16 < l.length then 3 else if l.any badP = true then 1 else if gap < 0 ∨ gap > 5 then 1 else if s.all inS = true then 0 else 2
def ReadQ (s : List UInt8) (l : List (Int × Int)) (gap : Int) (v : AV) (H' : AHeap) : Prop :=
  (readE s l gap ≠ 0 ∧ v = .tup [.nilp, .int .i64 (readE s l gap)]) ∨
  (readE s l gap = 0 ∧ ∃ R kn fn, v = .tup [.ptr R 0, .int .i64 0] ∧ H'.get R = some (.cells (ropeA s (rulesOf l) gap (.map kn) (.map fn)) none) ∧ R < H'.next ∧ H'.get kn = some (.map []) ∧ H'.get fn = some (.map []) ∧ kn < fn ∧ fn < R)
theorem bad_iff (p : Int × Int) : badP p = true ↔ ((if p.2 < p.1 then p.2 else p.1) < 0 ∨ (if p.2 > p.1 then p.2 else p.1) ≥ 4) := by
  simp only [badP, Bool.or_eq_true, decide_eq_true_eq]
  constructor
  · intro h
    split <;> split <;> omega
  · intro h
    split at h <;> split at h <;> omega
set_option maxHeartbeats 8000000 in
set_option maxRecDepth 100000 in
theorem read_ok {k : Nat} {H : AHeap} {s : List UInt8} {l : List (Int × Int)} {gap : Int} : ∃ v H', xfunc (xcallK K0 F 2000 (k + 3)) 2000 L24 [.str s, .imm (encPairs l) l.length false, .int .i64 gap] H = some (v, H') ∧ ReadQ s l gap v H' := by
  refine xfunc_of rfl (by show 3 ≤ 76; omega) ?_
  have a0 : (argsT [.str s, .imm (encPairs l) l.length false, .int .i64 gap] 0 .e).get 0 = some (.str s) := rfl
  have a1 : (argsT [.str s, .imm (encPairs l) l.length false, .int .i64 gap] 0 .e).get 1 = some (.imm (encPairs l) l.length false) := rfl
  have a2 : (argsT [.str s, .imm (encPairs l) l.length false, .int .i64 gap] 0 .e).get 2 = some (.int .i64 gap) := rfl
  generalize argsT [.str s, .imm (encPairs l) l.length false, .int .i64 gap] 0 .e = tm at a0 a1 a2
  have g40 : decide ((s.length : Int) > Int.ofNat 40) = decide (40 < s.length) := by rw [Int.ofNat_eq_natCast, decide_eq_decide]; omega
  have g16 : decide ((l.length : Int) > Int.ofNat 16) = decide (16 < l.length) := by rw [Int.ofNat_eq_natCast, decide_eq_decide]; omega
  unfold L24
  dsimp only
  by_cases h40 : 40 < s.length
  · have c : decide ((s.length : Int) > Int.ofNat 40) = true := by rw [g40, decide_eq_true h40]
    repeat (first | refine W.seq ?_ | refine W.ret ?_ | (apply W.reg; · (simp only [List.length_cons, List.length_nil, Nat.reduceAdd]; rfl)) | refine WO.nil ?_ | (apply WO.op; · first | exact op_mv (by simp only [St.ev, ↓Tr.get_set, ↓reduceIte, Nat.reduceEqDiff, natA, a0, c]; rfl) | exact op_bin (by simp only [St.ev, ↓Tr.get_set, ↓reduceIte, Nat.reduceEqDiff, natA, a0, c]; rfl) (by simp only [St.ev, ↓Tr.get_set, ↓reduceIte, Nat.reduceEqDiff, natA, a0, c]; rfl) (by simp only [binA, intCmpA, strA, natA, a0, c]; rfl) | exact op_slen (by simp only [St.ev, ↓Tr.get_set, ↓reduceIte, Nat.reduceEqDiff, natA, a0, c]; rfl) | exact op_pick (by simp only [St.ev, ↓Tr.get_set, ↓reduceIte, Nat.reduceEqDiff, natA, a0, c]; rfl) (by first | exact .inl ⟨rfl, (by simp only [St.ev, ↓Tr.get_set, ↓reduceIte, Nat.reduceEqDiff, natA, a0, c]; rfl)⟩ | exact .inr ⟨rfl, (by simp only [St.ev, ↓Tr.get_set, ↓reduceIte, Nat.reduceEqDiff, natA, a0, c]; rfl)⟩)) | (apply WO.gno'; (· (simp only [St.ev, ↓Tr.get_set, ↓reduceIte, Nat.reduceEqDiff, natA, a0, c]; rfl)); (· rfl)) | refine pN ?_ | refine pR ?_ | (apply W.condT'; (· (simp only [St.ev, ↓Tr.get_set, ↓reduceIte, Nat.reduceEqDiff, natA, a0, c]; rfl)); (· rfl)) | fail)
    refine ⟨fun id q => (by cases q), _, by simp only [resL, resA, Tr.get_set, get_bump, next_bump, next_set, next_add, AHeap.get_set, reduceIte, Nat.reduceEqDiff] <;> rfl, .inl ?_⟩
    have : readE s l gap = 3 := by unfold readE; rw [if_pos (.inl h40)]
    rw [this]
    exact ⟨by omega, rfl⟩
  · have c : decide ((s.length : Int) > Int.ofNat 40) = false := by rw [g40, decide_eq_false h40]
    by_cases h16 : 16 < l.length
    · have c2 : decide ((l.length : Int) > Int.ofNat 16) = true := by rw [g16, decide_eq_true h16]
      repeat (first | refine W.seq ?_ | refine W.ret ?_ | (apply W.reg; · (simp only [List.length_cons, List.length_nil, Nat.reduceAdd]; rfl)) | refine WO.nil ?_ | (apply WO.op; · first | exact op_mv (by simp only [St.ev, ↓Tr.get_set, ↓reduceIte, Nat.reduceEqDiff, natA, a0, a1, c, c2]; rfl) | exact op_bin (by simp only [St.ev, ↓Tr.get_set, ↓reduceIte, Nat.reduceEqDiff, natA, a0, a1, c, c2]; rfl) (by simp only [St.ev, ↓Tr.get_set, ↓reduceIte, Nat.reduceEqDiff, natA, a0, a1, c, c2]; rfl) (by simp only [binA, intCmpA, strA, natA, a0, a1, c, c2]; rfl) | exact op_slen (by simp only [St.ev, ↓Tr.get_set, ↓reduceIte, Nat.reduceEqDiff, natA, a0, a1, c, c2]; rfl) | exact op_pick (by simp only [St.ev, ↓Tr.get_set, ↓reduceIte, Nat.reduceEqDiff, natA, a0, a1, c, c2]; rfl) (by first | exact .inl ⟨rfl, (by simp only [St.ev, ↓Tr.get_set, ↓reduceIte, Nat.reduceEqDiff, natA, a0, a1, c, c2]; rfl)⟩ | exact .inr ⟨rfl, (by simp only [St.ev, ↓Tr.get_set, ↓reduceIte, Nat.reduceEqDiff, natA, a0, a1, c, c2]; rfl)⟩)) | (apply WO.gop'; (· (simp only [St.ev, ↓Tr.get_set, ↓reduceIte, Nat.reduceEqDiff, natA, a0, a1, c, c2]; rfl)); (· rfl); (· first | exact op_mv (by simp only [St.ev, ↓Tr.get_set, ↓reduceIte, Nat.reduceEqDiff, natA, a0, a1, c, c2]; rfl) | exact op_bin (by simp only [St.ev, ↓Tr.get_set, ↓reduceIte, Nat.reduceEqDiff, natA, a0, a1, c, c2]; rfl) (by simp only [St.ev, ↓Tr.get_set, ↓reduceIte, Nat.reduceEqDiff, natA, a0, a1, c, c2]; rfl) (by simp only [binA, intCmpA, strA, natA, a0, a1, c, c2]; rfl) | (simp only [xval, xop, AR.ofV, St.ev, Tr.get_set, get_bump, next_bump, next_set, next_add, AHeap.get_set, reduceIte, Nat.reduceEqDiff, evL, evParts, fillA, AV.cells, natA, binA, intCmpA, unA, minA, maxA, Nat.add_assoc, Nat.reduceAdd, Nat.add_left_cancel_iff, Nat.add_eq_left, Nat.left_eq_add, loadA, cellsAt, storeA, Option.bind_some, iaddrA, aaddrA, a0, a1, c, c2]; rfl))) | refine pN ?_ | refine pR ?_ | (apply W.condT'; (· (simp only [St.ev, ↓Tr.get_set, ↓reduceIte, Nat.reduceEqDiff, natA, a0, a1, c, c2]; rfl)); (· rfl)) | fail)
      refine ⟨fun id q => (by cases q), _, by simp only [resL, resA, Tr.get_set, get_bump, next_bump, next_set, next_add, AHeap.get_set, reduceIte, Nat.reduceEqDiff] <;> rfl, .inl ?_⟩
      have : readE s l gap = 3 := by unfold readE; rw [if_pos (.inr h16)]
      rw [this]
      exact ⟨by omega, rfl⟩
    · have c2 : decide ((l.length : Int) > Int.ofNat 16) = false := by rw [g16, decide_eq_false h16]
      have hE : readE s l gap = if l.any badP = true then 1 else if gap < 0 ∨ gap > 5 then 1 else if s.all inS = true then 0 else 2 := by
        unfold readE; rw [if_neg (by omega)]
      repeat (first | refine W.seq ?_ | refine W.block ?_ | refine W.skip ?_ | (apply W.reg; · (simp only [List.length_cons, List.length_nil, Nat.reduceAdd]; rfl)) | refine WO.nil ?_ | (apply WO.op; · first | exact op_mv (by simp only [St.ev, ↓Tr.get_set, ↓reduceIte, Nat.reduceEqDiff, natA, a0, a1, a2, c, c2]; rfl) | exact op_bin (by simp only [St.ev, ↓Tr.get_set, ↓reduceIte, Nat.reduceEqDiff, natA, a0, a1, a2, c, c2]; rfl) (by simp only [St.ev, ↓Tr.get_set, ↓reduceIte, Nat.reduceEqDiff, natA, a0, a1, a2, c, c2]; rfl) (by simp only [binA, intCmpA, strA, natA, a0, a1, a2, c, c2]; rfl) | exact op_slen (by simp only [St.ev, ↓Tr.get_set, ↓reduceIte, Nat.reduceEqDiff, natA, a0, a1, a2, c, c2]; rfl) | exact op_pick (by simp only [St.ev, ↓Tr.get_set, ↓reduceIte, Nat.reduceEqDiff, natA, a0, a1, a2, c, c2]; rfl) (by first | exact .inl ⟨rfl, (by simp only [St.ev, ↓Tr.get_set, ↓reduceIte, Nat.reduceEqDiff, natA, a0, a1, a2, c, c2]; rfl)⟩ | exact .inr ⟨rfl, (by simp only [St.ev, ↓Tr.get_set, ↓reduceIte, Nat.reduceEqDiff, natA, a0, a1, a2, c, c2]; rfl)⟩) | (simp only [xval, xop, AR.ofV, St.ev, Tr.get_set, get_bump, next_bump, next_set, next_add, AHeap.get_set, reduceIte, Nat.reduceEqDiff, evL, evParts, fillA, AV.cells, natA, binA, intCmpA, unA, minA, maxA, Nat.add_assoc, Nat.reduceAdd, Nat.add_left_cancel_iff, Nat.add_eq_left, Nat.left_eq_add, loadA, cellsAt, storeA, Option.bind_some, iaddrA, aaddrA, a0, a1, a2, c, c2]; rfl)) | (apply WO.gop'; (· (simp only [St.ev, ↓Tr.get_set, ↓reduceIte, Nat.reduceEqDiff, natA, a0, a1, a2, c, c2]; rfl)); (· rfl); (· first | exact op_mv (by simp only [St.ev, ↓Tr.get_set, ↓reduceIte, Nat.reduceEqDiff, natA, a0, a1, a2, c, c2]; rfl) | exact op_bin (by simp only [St.ev, ↓Tr.get_set, ↓reduceIte, Nat.reduceEqDiff, natA, a0, a1, a2, c, c2]; rfl) (by simp only [St.ev, ↓Tr.get_set, ↓reduceIte, Nat.reduceEqDiff, natA, a0, a1, a2, c, c2]; rfl) (by simp only [binA, intCmpA, strA, natA, a0, a1, a2, c, c2]; rfl) | (simp only [xval, xop, AR.ofV, St.ev, Tr.get_set, get_bump, next_bump, next_set, next_add, AHeap.get_set, reduceIte, Nat.reduceEqDiff, evL, evParts, fillA, AV.cells, natA, binA, intCmpA, unA, minA, maxA, Nat.add_assoc, Nat.reduceAdd, Nat.add_left_cancel_iff, Nat.add_eq_left, Nat.left_eq_add, loadA, cellsAt, storeA, Option.bind_some, iaddrA, aaddrA, a0, a1, a2, c, c2]; rfl))) | refine pN ?_ | (apply W.condF'; (· (simp only [St.ev, ↓Tr.get_set, ↓reduceIte, Nat.reduceEqDiff, natA, a0, a1, a2, c, c2]; rfl)); (· rfl)) | fail)
      refine W.loop (α := Nat) (fun i S => i ≤ l.length ∧ S.tm.get 0 = some (.str s) ∧ S.tm.get 2 = some (.int .i64 gap) ∧ S.tm.get 8 = some (.ptr (H.next + 15) 0) ∧ S.tm.get 25 = some (.imm (encPairs l) l.length false) ∧ S.tm.get 26 = some (.int .i64 (l.length : Int)) ∧ S.tm.get 27 = some (.int .i64 (i : Int)) ∧
        S.H.get (H.next + 15) = some (.cells (ropeA s (rulesOf (l.take i)) gap (.map (H.next + 12)) (.map (H.next + 13))) none) ∧ H.next + 15 < S.H.next ∧ (l.take i).any badP = false ∧ S.H.get (H.next + 12) = some (.map []) ∧ S.H.get (H.next + 13) = some (.map [])) (fun i => l.length - i) 0 ?_ (by omega) ?_
      · refine ⟨Nat.zero_le _, by simp only [Tr.get_set, get_bump, next_bump, next_set, next_add, AHeap.get_set, reduceIte, Nat.reduceEqDiff]; exact a0, by simp only [Tr.get_set, get_bump, next_bump, next_set, next_add, AHeap.get_set, reduceIte, Nat.reduceEqDiff]; exact a2, by simp only [Tr.get_set, get_bump, next_bump, next_set, next_add, AHeap.get_set, reduceIte, Nat.reduceEqDiff], by simp only [Tr.get_set, get_bump, next_bump, next_set, next_add, AHeap.get_set, reduceIte, Nat.reduceEqDiff], by simp only [Tr.get_set, get_bump, next_bump, next_set, next_add, AHeap.get_set, reduceIte, Nat.reduceEqDiff], by simp only [Tr.get_set, get_bump, next_bump, next_set, next_add, AHeap.get_set, reduceIte, Nat.reduceEqDiff] <;> rfl, ?_, ?_, rfl, ?_, ?_⟩
        · simp only [Tr.get_set, get_bump, next_bump, next_set, next_add, AHeap.get_set, reduceIte, Nat.reduceEqDiff, Nat.add_assoc, Nat.reduceAdd, Nat.add_left_cancel_iff, Nat.add_eq_left, Nat.left_eq_add]
          rfl
        · simp only [next_bump, next_set]
          omega
        · simp only [Tr.get_set, get_bump, next_bump, next_set, next_add, AHeap.get_set, reduceIte, Nat.reduceEqDiff, Nat.add_assoc, Nat.reduceAdd, Nat.add_left_cancel_iff, Nat.add_eq_left, Nat.left_eq_add]
        · simp only [Tr.get_set, get_bump, next_bump, next_set, next_add, AHeap.get_set, reduceIte, Nat.reduceEqDiff, Nat.add_assoc, Nat.reduceAdd, Nat.add_left_cancel_iff, Nat.add_eq_left, Nat.left_eq_add]
      · rintro i ⟨tm1, H1⟩ ⟨hi, t0, t2, t8, t25, t26, t27, hR, hRn, hany, hka, hkb⟩
        simp only at t0 t2 t8 t25 t26 t27 hR hRn hka hkb
        by_cases he : i = l.length
        · have ci : decide ((i : Int) < (l.length : Int)) = false := by rw [decide_eq_false_iff_not]; omega
          rw [he, List.take_length] at hany hR
          have hE2 : readE s l gap = if gap < 0 ∨ gap > 5 then 1 else if s.all inS = true then 0 else 2 := by rw [hE, if_neg (by rw [hany]; simp)]
          by_cases hg0 : gap < 0
          · have cg : decide (gap < Int.ofNat 0) = true := decide_eq_true hg0
            repeat (first | refine W.seq ?_ | refine W.block ?_ | refine W.ret ?_ | refine W.exit ?_ | (apply W.reg; · (simp only [List.length_cons, List.length_nil, Nat.reduceAdd]; rfl)) | refine WO.nil ?_ | (apply WO.op; · first | exact op_mv (by simp only [St.ev, ↓Tr.get_set, ↓reduceIte, Nat.reduceEqDiff, natA, t0, t2, t8, t25, t26, t27, ci, cg]; rfl) | exact op_bin (by simp only [St.ev, ↓Tr.get_set, ↓reduceIte, Nat.reduceEqDiff, natA, t0, t2, t8, t25, t26, t27, ci, cg]; rfl) (by simp only [St.ev, ↓Tr.get_set, ↓reduceIte, Nat.reduceEqDiff, natA, t0, t2, t8, t25, t26, t27, ci, cg]; rfl) (by simp only [binA, intCmpA, strA, natA, t0, t2, t8, t25, t26, t27, ci, cg]; rfl) | exact op_pick (by simp only [St.ev, ↓Tr.get_set, ↓reduceIte, Nat.reduceEqDiff, natA, t0, t2, t8, t25, t26, t27, ci, cg]; rfl) (by first | exact .inl ⟨rfl, (by simp only [St.ev, ↓Tr.get_set, ↓reduceIte, Nat.reduceEqDiff, natA, t0, t2, t8, t25, t26, t27, ci, cg]; rfl)⟩ | exact .inr ⟨rfl, (by simp only [St.ev, ↓Tr.get_set, ↓reduceIte, Nat.reduceEqDiff, natA, t0, t2, t8, t25, t26, t27, ci, cg]; rfl)⟩)) | (apply WO.gno'; (· (simp only [St.ev, ↓Tr.get_set, ↓reduceIte, Nat.reduceEqDiff, natA, t0, t2, t8, t25, t26, t27, ci, cg]; rfl)); (· rfl)) | refine pN ?_ | refine pR ?_ | refine pX ?_ | refine bR ?_ | refine bX ?_ | (apply W.condT'; (· (simp only [St.ev, ↓Tr.get_set, ↓reduceIte, Nat.reduceEqDiff, natA, t0, t2, t8, t25, t26, t27, ci, cg]; rfl)); (· rfl)) | (apply W.condF'; (· (simp only [St.ev, ↓Tr.get_set, ↓reduceIte, Nat.reduceEqDiff, natA, t0, t2, t8, t25, t26, t27, ci, cg]; rfl)); (· rfl)) | fail)
            refine ⟨fun id q => (by cases q), _, by simp only [resL, resA, Tr.get_set, get_bump, next_bump, next_set, next_add, AHeap.get_set, reduceIte, Nat.reduceEqDiff] <;> rfl, .inl ?_⟩
            rw [hE2, if_pos (.inl hg0)]
            exact ⟨by omega, rfl⟩
          · have cg : decide (gap < Int.ofNat 0) = false := decide_eq_false hg0
            by_cases hg5 : gap > 5
            · have cg5 : decide (gap > Int.ofNat 5) = true := decide_eq_true hg5
              repeat (first | refine W.seq ?_ | refine W.block ?_ | refine W.ret ?_ | refine W.exit ?_ | (apply W.reg; · (simp only [List.length_cons, List.length_nil, Nat.reduceAdd]; rfl)) | refine WO.nil ?_ | (apply WO.op; · first | exact op_mv (by simp only [St.ev, ↓Tr.get_set, ↓reduceIte, Nat.reduceEqDiff, natA, t0, t2, t8, t25, t26, t27, ci, cg, cg5]; rfl) | exact op_bin (by simp only [St.ev, ↓Tr.get_set, ↓reduceIte, Nat.reduceEqDiff, natA, t0, t2, t8, t25, t26, t27, ci, cg, cg5]; rfl) (by simp only [St.ev, ↓Tr.get_set, ↓reduceIte, Nat.reduceEqDiff, natA, t0, t2, t8, t25, t26, t27, ci, cg, cg5]; rfl) (by simp only [binA, intCmpA, strA, natA, t0, t2, t8, t25, t26, t27, ci, cg, cg5]; rfl) | exact op_pick (by simp only [St.ev, ↓Tr.get_set, ↓reduceIte, Nat.reduceEqDiff, natA, t0, t2, t8, t25, t26, t27, ci, cg, cg5]; rfl) (by first | exact .inl ⟨rfl, (by simp only [St.ev, ↓Tr.get_set, ↓reduceIte, Nat.reduceEqDiff, natA, t0, t2, t8, t25, t26, t27, ci, cg, cg5]; rfl)⟩ | exact .inr ⟨rfl, (by simp only [St.ev, ↓Tr.get_set, ↓reduceIte, Nat.reduceEqDiff, natA, t0, t2, t8, t25, t26, t27, ci, cg, cg5]; rfl)⟩)) | (apply WO.gop'; (· (simp only [St.ev, ↓Tr.get_set, ↓reduceIte, Nat.reduceEqDiff, natA, t0, t2, t8, t25, t26, t27, ci, cg, cg5]; rfl)); (· rfl); (· first | exact op_mv (by simp only [St.ev, ↓Tr.get_set, ↓reduceIte, Nat.reduceEqDiff, natA, t0, t2, t8, t25, t26, t27, ci, cg, cg5]; rfl) | exact op_bin (by simp only [St.ev, ↓Tr.get_set, ↓reduceIte, Nat.reduceEqDiff, natA, t0, t2, t8, t25, t26, t27, ci, cg, cg5]; rfl) (by simp only [St.ev, ↓Tr.get_set, ↓reduceIte, Nat.reduceEqDiff, natA, t0, t2, t8, t25, t26, t27, ci, cg, cg5]; rfl) (by simp only [binA, intCmpA, strA, natA, t0, t2, t8, t25, t26, t27, ci, cg, cg5]; rfl))) | refine pN ?_ | refine pR ?_ | refine pX ?_ | refine bR ?_ | refine bX ?_ | (apply W.condT'; (· (simp only [St.ev, ↓Tr.get_set, ↓reduceIte, Nat.reduceEqDiff, natA, t0, t2, t8, t25, t26, t27, ci, cg, cg5]; rfl)); (· rfl)) | (apply W.condF'; (· (simp only [St.ev, ↓Tr.get_set, ↓reduceIte, Nat.reduceEqDiff, natA, t0, t2, t8, t25, t26, t27, ci, cg, cg5]; rfl)); (· rfl)) | fail)
              refine ⟨fun id q => (by cases q), _, by simp only [resL, resA, Tr.get_set, get_bump, next_bump, next_set, next_add, AHeap.get_set, reduceIte, Nat.reduceEqDiff] <;> rfl, .inl ?_⟩
              rw [hE2, if_pos (.inr hg5)]
              exact ⟨by omega, rfl⟩
            · have cg5 : decide (gap > Int.ofNat 5) = false := decide_eq_false hg5
              rw [if_neg (by omega)] at hE2
              repeat (first | refine W.seq ?_ | refine W.block ?_ | refine W.exit ?_ | (apply W.reg; · (simp only [List.length_cons, List.length_nil, Nat.reduceAdd]; rfl)) | refine WO.nil ?_ | (apply WO.op; · first | exact op_mv (by simp only [St.ev, ↓Tr.get_set, ↓reduceIte, Nat.reduceEqDiff, natA, t0, t2, t8, t25, t26, t27, ci, cg, cg5]; rfl) | exact op_bin (by simp only [St.ev, ↓Tr.get_set, ↓reduceIte, Nat.reduceEqDiff, natA, t0, t2, t8, t25, t26, t27, ci, cg, cg5]; rfl) (by simp only [St.ev, ↓Tr.get_set, ↓reduceIte, Nat.reduceEqDiff, natA, t0, t2, t8, t25, t26, t27, ci, cg, cg5]; rfl) (by simp only [binA, intCmpA, strA, natA, t0, t2, t8, t25, t26, t27, ci, cg, cg5]; rfl) | exact op_pick (by simp only [St.ev, ↓Tr.get_set, ↓reduceIte, Nat.reduceEqDiff, natA, t0, t2, t8, t25, t26, t27, ci, cg, cg5]; rfl) (by first | exact .inl ⟨rfl, (by simp only [St.ev, ↓Tr.get_set, ↓reduceIte, Nat.reduceEqDiff, natA, t0, t2, t8, t25, t26, t27, ci, cg, cg5]; rfl)⟩ | exact .inr ⟨rfl, (by simp only [St.ev, ↓Tr.get_set, ↓reduceIte, Nat.reduceEqDiff, natA, t0, t2, t8, t25, t26, t27, ci, cg, cg5]; rfl)⟩)) | (apply WO.gop'; (· (simp only [St.ev, ↓Tr.get_set, ↓reduceIte, Nat.reduceEqDiff, natA, t0, t2, t8, t25, t26, t27, ci, cg, cg5]; rfl)); (· rfl); (· first | exact op_mv (by simp only [St.ev, ↓Tr.get_set, ↓reduceIte, Nat.reduceEqDiff, natA, t0, t2, t8, t25, t26, t27, ci, cg, cg5]; rfl) | exact op_bin (by simp only [St.ev, ↓Tr.get_set, ↓reduceIte, Nat.reduceEqDiff, natA, t0, t2, t8, t25, t26, t27, ci, cg, cg5]; rfl) (by simp only [St.ev, ↓Tr.get_set, ↓reduceIte, Nat.reduceEqDiff, natA, t0, t2, t8, t25, t26, t27, ci, cg, cg5]; rfl) (by simp only [binA, intCmpA, strA, natA, t0, t2, t8, t25, t26, t27, ci, cg, cg5]; rfl))) | refine pN ?_ | refine pX ?_ | refine bX ?_ | (apply W.condF'; (· (simp only [St.ev, ↓Tr.get_set, ↓reduceIte, Nat.reduceEqDiff, natA, t0, t2, t8, t25, t26, t27, ci, cg, cg5]; rfl)); (· rfl)) | fail)
              obtain ⟨v, H2, h2, ⟨r, rfl, hr⟩, s2⟩ := Trim_ok (H := ((H1.bump 1).bump 7).bump 4) (k := k) s (by omega)
              refine WO.op (op_call (cs := []) (l := [.str s, .str [97, 98, 99, 100]]) (v := .str r) (H1 := H2) (by rfl) (evL2 (by simp only [St.ev, ↓Tr.get_set, ↓reduceIte, Nat.reduceEqDiff]) (by rfl)) h2) ?_
              have hR2 : H2.get (H.next + 15) = some (.cells (ropeA s (rulesOf l) gap (.map (H.next + 12)) (.map (H.next + 13))) none) := by
                rw [s2.2 _ (by simp only [next_bump]; omega)]
                exact hR
              have hka2 : H2.get (H.next + 12) = some (.map []) := by
                rw [s2.2 _ (by simp only [next_bump]; omega)]
                exact hka
              have hkb2 : H2.get (H.next + 13) = some (.map []) := by
                rw [s2.2 _ (by simp only [next_bump]; omega)]
                exact hkb
              have hn2 : H.next + 15 < H2.next := by have := s2.1; simp only [next_bump] at this; omega
              by_cases hall : s.all inS = true
              · have hr0 : r = [] := hr.2 hall
                subst hr0
                have ce : (!(([] : List UInt8) == [])) = false := rfl
                repeat (first | refine W.seq ?_ | refine W.skip ?_ | refine W.ret ?_ | (apply W.reg; · (simp only [List.length_cons, List.length_nil, Nat.reduceAdd]; rfl)) | refine WO.nil ?_ | (apply WO.op; · first | exact op_mv (by simp only [St.ev, ↓Tr.get_set, ↓reduceIte, Nat.reduceEqDiff, natA, t0, t2, t8, ce]; rfl) | exact op_bin (by simp only [St.ev, ↓Tr.get_set, ↓reduceIte, Nat.reduceEqDiff, natA, t0, t2, t8, ce]; rfl) (by simp only [St.ev, ↓Tr.get_set, ↓reduceIte, Nat.reduceEqDiff, natA, t0, t2, t8, ce]; rfl) (by simp only [binA, intCmpA, strA, natA, t0, t2, t8, ce]; rfl)) | refine pN ?_ | refine bN ?_ | (apply W.condF'; (· (simp only [St.ev, ↓Tr.get_set, ↓reduceIte, Nat.reduceEqDiff, natA, t0, t2, t8, ce]; rfl)); (· rfl)) | fail)
                refine ⟨fun id q => (by cases q), _, by simp only [resL, resA, Tr.get_set, get_bump, next_bump, next_set, next_add, AHeap.get_set, reduceIte, Nat.reduceEqDiff] <;> rfl, .inr ⟨by rw [hE2, if_pos hall], H.next + 15, H.next + 12, H.next + 13, rfl, ?_, ?_, hka2, hkb2, by omega, by omega⟩⟩
                · exact hR2
                · simp only [next_bump]; omega
              · have hr0 : ¬ r = [] := fun q => hall (hr.1 q)
                have ce : (!(r == [])) = true := by
                  cases r with
                  | nil => exact absurd rfl hr0
                  | cons b r => rfl
                repeat (first | refine W.seq ?_ | refine W.ret ?_ | (apply W.reg; · (simp only [List.length_cons, List.length_nil, Nat.reduceAdd]; rfl)) | refine WO.nil ?_ | (apply WO.op; · first | exact op_mv (by simp only [St.ev, ↓Tr.get_set, ↓reduceIte, Nat.reduceEqDiff, natA, t0, t2, t8, ce]; rfl) | exact op_bin (by simp only [St.ev, ↓Tr.get_set, ↓reduceIte, Nat.reduceEqDiff, natA, t0, t2, t8, ce]; rfl) (by simp only [St.ev, ↓Tr.get_set, ↓reduceIte, Nat.reduceEqDiff, natA, t0, t2, t8, ce]; rfl) (by simp only [binA, intCmpA, strA, natA, t0, t2, t8, ce]; rfl)) | refine pN ?_ | refine pR ?_ | refine bR ?_ | (apply W.condT'; (· (simp only [St.ev, ↓Tr.get_set, ↓reduceIte, Nat.reduceEqDiff, natA, t0, t2, t8, ce]; rfl)); (· rfl)) | fail)
                refine ⟨fun id q => (by cases q), _, by simp only [resL, resA, Tr.get_set, get_bump, next_bump, next_set, next_add, AHeap.get_set, reduceIte, Nat.reduceEqDiff] <;> rfl, .inl ?_⟩
                rw [hE2, if_neg hall]
                exact ⟨by omega, rfl⟩
        · have hlt : i < l.length := by omega
          have ci : decide ((i : Int) < (l.length : Int)) = true := by rw [decide_eq_true_eq]; omega
          obtain ⟨p, hp⟩ : ∃ p, l[i]? = some p := ⟨_, List.getElem?_eq_getElem hlt⟩
          have hpe := encPairs_at l i p hp
          have hlen2 : 2 ≤ ((encPairs l).drop (i * 2)).length := by
            rw [List.length_drop, encPairs_length]; omega
          have hw : wrapA .i64 ((i : Int) + Int.ofNat 1) = ((i + 1 : Nat) : Int) := by
            show wrapA .i64 ((i : Int) + 1) = _
            rw [wrapI _ (by omega) (by omega)]; omega
          repeat (first | refine W.seq ?_ | refine W.block ?_ | refine W.skip ?_ | (apply W.reg; · (simp only [List.length_cons, List.length_nil, Nat.reduceAdd]; rfl)) | refine WO.nil ?_ | (apply WO.op; · first | exact op_bin (by simp only [St.ev, ↓Tr.get_set, ↓reduceIte, Nat.reduceEqDiff, natA, t0, t2, t8, t25, t26, t27, ci]; rfl) (by simp only [St.ev, ↓Tr.get_set, ↓reduceIte, Nat.reduceEqDiff, natA, t0, t2, t8, t25, t26, t27, ci]; rfl) (by simp only [binA, intCmpA, strA, natA, t0, t2, t8, t25, t26, t27, ci]; rfl)) | refine pN ?_ | (apply W.condT'; (· (simp only [St.ev, ↓Tr.get_set, ↓reduceIte, Nat.reduceEqDiff, natA, t0, t2, t8, t25, t26, t27, ci]; rfl)); (· rfl)) | fail)
          refine WO.op (op_imm (cs := encPairs l) (l := l.length) (fl := false) (j := i) (k := .i64) (by simp only [St.ev, ↓Tr.get_set, ↓reduceIte, Nat.reduceEqDiff, t25]) (by simp only [St.ev, ↓Tr.get_set, ↓reduceIte, Nat.reduceEqDiff, t27]) hlt) ?_
          refine WO.op (op_iload (cs := encPairs l) (o := i * 2) (by simp only [St.ev, ↓Tr.get_set, ↓reduceIte, Nat.reduceEqDiff]) hlen2) ?_
          rw [hpe]
          generalize hPn : (H1.bump 1).next + 1 + 1 = P
          have hP1 : H1.next < P := by rw [← hPn, next_bump]; omega
          have hP2 : P < ((H1.bump 1).bump 4).next := by rw [← hPn]; simp only [next_bump]; omega
          have hR1 : ((H1.bump 1).bump 4).get (H.next + 15) = some (.cells (ropeA s (rulesOf (l.take i)) gap (.map (H.next + 12)) (.map (H.next + 13))) none) := hR
          have hka1 : ((H1.bump 1).bump 4).get (H.next + 12) = some (.map []) := hka
          have hkb1 : ((H1.bump 1).bump 4).get (H.next + 13) = some (.map []) := hkb
          generalize (H1.bump 1).bump 4 = H2 at hP2 hR1 hka1 hkb1
          refine WO.alloc (fun H3 hc3 hg3 hn3 => ?_)
          refine WO.store (i := P) (o := 0) (v := .agg [.int .i64 p.1, .int .i64 p.2]) (by simp only [St.ev, ↓Tr.get_set, ↓reduceIte, Nat.reduceEqDiff]) (by simp only [St.ev, ↓Tr.get_set, ↓reduceIte, Nat.reduceEqDiff]) hc3 rfl rfl (by simp) (fun H4 hc4 hg4 hn4 => ?_)
          have hP4 : H4.get P = some (.cells [.int .i64 p.1, .int .i64 p.2] none) := hc4
          have hR4 : H4.get (H.next + 15) = some (.cells (ropeA s (rulesOf (l.take i)) gap (.map (H.next + 12)) (.map (H.next + 13))) none) := by rw [hg4 _ (by omega), hg3 _ (by omega)]; exact hR1
          have hka4 : H4.get (H.next + 12) = some (.map []) := by rw [hg4 _ (by omega), hg3 _ (by omega)]; exact hka1
          have hkb4 : H4.get (H.next + 13) = some (.map []) := by rw [hg4 _ (by omega), hg3 _ (by omega)]; exact hkb1
          have hn5 : P < H4.next := by omega
          clear hc3 hg3 hc4 hg4
          refine WO.nil (pN (W.seq (W.seq ?_)))
          refine W.rg 14 rfl (fun H5 hg5 hn6 => ?_)
          have hP5 : H5.get P = some (.cells [.int .i64 p.1, .int .i64 p.2] none) := by rw [hg5]; exact hP4
          have hR5 : H5.get (H.next + 15) = some (.cells (ropeA s (rulesOf (l.take i)) gap (.map (H.next + 12)) (.map (H.next + 13))) none) := by rw [hg5]; exact hR4
          have hka5 : H5.get (H.next + 12) = some (.map []) := by rw [hg5]; exact hka4
          have hkb5 : H5.get (H.next + 13) = some (.map []) := by rw [hg5]; exact hkb4
          refine WO.op (op_faddr (i := P) (p := 0) (by simp only [St.ev, ↓Tr.get_set, ↓reduceIte, Nat.reduceEqDiff])) ?_
          refine WO.op (op_loadc (i := P) (o := 0 + 0) (v := .int .i64 p.1) (by simp only [St.ev, ↓Tr.get_set, ↓reduceIte, Nat.reduceEqDiff]) hP5 rfl) ?_
          refine WO.op (op_faddr (i := P) (p := 0) (by simp only [St.ev, ↓Tr.get_set, ↓reduceIte, Nat.reduceEqDiff])) ?_
          refine WO.op (op_loadc (i := P) (o := 0 + 1) (v := .int .i64 p.2) (by simp only [St.ev, ↓Tr.get_set, ↓reduceIte, Nat.reduceEqDiff]) hP5 rfl) ?_
          refine WO.op (op_mn2 (k := .i64) (a := p.1) (b := p.2) (by simp only [St.ev, ↓Tr.get_set, ↓reduceIte, Nat.reduceEqDiff]) (by simp only [St.ev, ↓Tr.get_set, ↓reduceIte, Nat.reduceEqDiff])) ?_
          have hsucc : (l.take (i + 1)).any badP = badP p := by
            rw [List.take_add_one, hp, List.any_append, hany]
            simp
          have hbadE : badP p = true → readE s l gap = 1 := by
            intro hb
            rw [hE, if_pos (List.any_eq_true.2 ⟨p, List.mem_of_getElem? hp, hb⟩)]
          by_cases hmn : (if p.2 < p.1 then p.2 else p.1) < 0
          · have cm : decide ((if p.2 < p.1 then p.2 else p.1) < Int.ofNat 0) = true := decide_eq_true hmn
            have hb : badP p = true := (bad_iff p).2 (.inl hmn)
            refine WO.op (op_bin (a := .int .i64 (if p.2 < p.1 then p.2 else p.1)) (b := .int .i64 (Int.ofNat 0)) (v := .bool true) (by simp only [St.ev, ↓Tr.get_set, ↓reduceIte, Nat.reduceEqDiff]) (by rfl) (by simp only [binA, intCmpA, cm]; rfl)) ?_
            repeat (first | refine W.seq ?_ | refine W.ret ?_ | (apply W.reg; · (simp only [List.length_cons, List.length_nil, Nat.reduceAdd]; rfl)) | refine WO.nil ?_ | (apply WO.op; · first | exact op_mv (by simp only [St.ev, ↓Tr.get_set, ↓reduceIte, Nat.reduceEqDiff, natA]; rfl) | exact op_pick (by simp only [St.ev, ↓Tr.get_set, ↓reduceIte, Nat.reduceEqDiff, natA]; rfl) (by first | exact .inl ⟨rfl, (by simp only [St.ev, ↓Tr.get_set, ↓reduceIte, Nat.reduceEqDiff, natA]; rfl)⟩ | exact .inr ⟨rfl, (by simp only [St.ev, ↓Tr.get_set, ↓reduceIte, Nat.reduceEqDiff, natA]; rfl)⟩)) | (apply WO.gno'; (· (simp only [St.ev, ↓Tr.get_set, ↓reduceIte, Nat.reduceEqDiff, natA]; rfl)); (· rfl)) | refine pN ?_ | refine pR ?_ | refine bR ?_ | (apply W.condT'; (· (simp only [St.ev, ↓Tr.get_set, ↓reduceIte, Nat.reduceEqDiff, natA]; rfl)); (· rfl)) | fail)
            refine ⟨fun id q => (by cases q), _, by simp only [resL, resA, Tr.get_set, get_bump, next_bump, next_set, next_add, AHeap.get_set, reduceIte, Nat.reduceEqDiff] <;> rfl, .inl ?_⟩
            rw [hbadE hb]
            exact ⟨by omega, rfl⟩
          · have cm : decide ((if p.2 < p.1 then p.2 else p.1) < Int.ofNat 0) = false := decide_eq_false hmn
            refine WO.op (op_bin (a := .int .i64 (if p.2 < p.1 then p.2 else p.1)) (b := .int .i64 (Int.ofNat 0)) (v := .bool false) (by simp only [St.ev, ↓Tr.get_set, ↓reduceIte, Nat.reduceEqDiff]) (by rfl) (by simp only [binA, intCmpA, cm]; rfl)) ?_
            refine WO.op (op_mv (v := .bool false) (by simp only [St.ev, ↓Tr.get_set, ↓reduceIte, Nat.reduceEqDiff])) ?_
            refine WO.gop' (by simp only [St.ev, ↓Tr.get_set, ↓reduceIte, Nat.reduceEqDiff]; rfl) (by rfl) (op_faddr (i := P) (p := 0) (by simp only [St.ev, ↓Tr.get_set, ↓reduceIte, Nat.reduceEqDiff])) ?_
            refine WO.gop' (by simp only [St.ev, ↓Tr.get_set, ↓reduceIte, Nat.reduceEqDiff]; rfl) (by rfl) (op_loadc (i := P) (o := 0 + 0) (v := .int .i64 p.1) (by simp only [St.ev, ↓Tr.get_set, ↓reduceIte, Nat.reduceEqDiff]) hP5 rfl) ?_
            refine WO.gop' (by simp only [St.ev, ↓Tr.get_set, ↓reduceIte, Nat.reduceEqDiff]; rfl) (by rfl) (op_faddr (i := P) (p := 0) (by simp only [St.ev, ↓Tr.get_set, ↓reduceIte, Nat.reduceEqDiff])) ?_
            refine WO.gop' (by simp only [St.ev, ↓Tr.get_set, ↓reduceIte, Nat.reduceEqDiff]; rfl) (by rfl) (op_loadc (i := P) (o := 0 + 1) (v := .int .i64 p.2) (by simp only [St.ev, ↓Tr.get_set, ↓reduceIte, Nat.reduceEqDiff]) hP5 rfl) ?_
            refine WO.gop' (by simp only [St.ev, ↓Tr.get_set, ↓reduceIte, Nat.reduceEqDiff]; rfl) (by rfl) (op_mx2 (k := .i64) (a := p.1) (b := p.2) (by simp only [St.ev, ↓Tr.get_set, ↓reduceIte, Nat.reduceEqDiff]) (by simp only [St.ev, ↓Tr.get_set, ↓reduceIte, Nat.reduceEqDiff])) ?_
            by_cases hmx : (if p.2 > p.1 then p.2 else p.1) ≥ 4
            · have cx : decide ((if p.2 > p.1 then p.2 else p.1) ≥ Int.ofNat 4) = true := decide_eq_true hmx
              have hb : badP p = true := (bad_iff p).2 (.inr hmx)
              refine WO.gop' (by simp only [St.ev, ↓Tr.get_set, ↓reduceIte, Nat.reduceEqDiff]; rfl) (by rfl) (op_bin (a := .int .i64 (if p.2 > p.1 then p.2 else p.1)) (b := .int .i64 (Int.ofNat 4)) (v := .bool true) (by simp only [St.ev, ↓Tr.get_set, ↓reduceIte, Nat.reduceEqDiff]) (by rfl) (by simp only [binA, intCmpA, cx]; rfl)) ?_
              repeat (first | refine W.seq ?_ | refine W.ret ?_ | (apply W.reg; · (simp only [List.length_cons, List.length_nil, Nat.reduceAdd]; rfl)) | refine WO.nil ?_ | (apply WO.op; · first | exact op_mv (by simp only [St.ev, ↓Tr.get_set, ↓reduceIte, Nat.reduceEqDiff, natA]; rfl) | exact op_pick (by simp only [St.ev, ↓Tr.get_set, ↓reduceIte, Nat.reduceEqDiff, natA]; rfl) (by first | exact .inl ⟨rfl, (by simp only [St.ev, ↓Tr.get_set, ↓reduceIte, Nat.reduceEqDiff, natA]; rfl)⟩ | exact .inr ⟨rfl, (by simp only [St.ev, ↓Tr.get_set, ↓reduceIte, Nat.reduceEqDiff, natA]; rfl)⟩)) | refine pN ?_ | refine pR ?_ | refine bR ?_ | (apply W.condT'; (· (simp only [St.ev, ↓Tr.get_set, ↓reduceIte, Nat.reduceEqDiff, natA]; rfl)); (· rfl)) | fail)
              refine ⟨fun id q => (by cases q), _, by simp only [resL, resA, Tr.get_set, get_bump, next_bump, next_set, next_add, AHeap.get_set, reduceIte, Nat.reduceEqDiff] <;> rfl, .inl ?_⟩
              rw [hbadE hb]
              exact ⟨by omega, rfl⟩
            · have cx : decide ((if p.2 > p.1 then p.2 else p.1) ≥ Int.ofNat 4) = false := decide_eq_false hmx
              have hb : badP p = false := by
                rw [Bool.eq_false_iff]
                intro q
                rcases (bad_iff p).1 q with q | q
                · exact hmn q
                · exact hmx q
              refine WO.gop' (by simp only [St.ev, ↓Tr.get_set, ↓reduceIte, Nat.reduceEqDiff]; rfl) (by rfl) (op_bin (a := .int .i64 (if p.2 > p.1 then p.2 else p.1)) (b := .int .i64 (Int.ofNat 4)) (v := .bool false) (by simp only [St.ev, ↓Tr.get_set, ↓reduceIte, Nat.reduceEqDiff]) (by rfl) (by simp only [binA, intCmpA, cx]; rfl)) ?_
              refine WO.op (op_pick (w := .bool false) (v := .bool false) (by simp only [St.ev, ↓Tr.get_set, ↓reduceIte, Nat.reduceEqDiff]) (.inr ⟨rfl, (by simp only [St.ev, ↓Tr.get_set, ↓reduceIte, Nat.reduceEqDiff])⟩)) ?_
              refine WO.nil (pN (W.condF (by simp only [St.ev, ↓Tr.get_set, ↓reduceIte, Nat.reduceEqDiff]) (W.skip (pN ?_))))
              -- the letters' numbers
              obtain ⟨⟨x, y⟩, hxy⟩ : ∃ q : Nat × Nat, p = ((q.1 : Int), (q.2 : Int)) := by
                simp only [badP, Bool.or_eq_false_iff, decide_eq_false_iff_not] at hb
                exact ⟨(p.1.toNat, p.2.toNat), by obtain ⟨p1, p2⟩ := p; simp only [Prod.mk.injEq] at hb ⊢; omega⟩
              have hx4 : x < 4 ∧ y < 4 := by
                rw [hxy] at hb
                simp only [badP, Bool.or_eq_false_iff, decide_eq_false_iff_not] at hb
                omega
              rw [hxy] at hP5
              simp only at hP5
              have hRP : H.next + 15 ≠ P := by omega
              refine W.regd 20 rfl ?_
              have hP6 : (H5.bump 20).get P = some (.cells [.int .i64 (x : Int), .int .i64 (y : Int)] none) := hP5
              have hR6 : (H5.bump 20).get (H.next + 15) = some (.cells (ropeA s (rulesOf (l.take i)) gap (.map (H.next + 12)) (.map (H.next + 13))) none) := hR5
              have hn7 : (H5.bump 20).next = H5.next + 20 := rfl
              have hka6 : (H5.bump 20).get (H.next + 12) = some (.map []) := hka5
              have hkb6 : (H5.bump 20).get (H.next + 13) = some (.map []) := hkb5
              generalize H5.bump 20 = H6 at hP6 hR6 hn7 hka6 hkb6
              refine WT.op (op_mv (v := .ptr (H.next + 15) 0) (by simp only [St.ev, ↓Tr.get_set, ↓reduceIte, Nat.reduceEqDiff, t8])) ?_
              refine WT.op (op_faddr (i := P) (p := 0) (by simp only [St.ev, ↓Tr.get_set, ↓reduceIte, Nat.reduceEqDiff])) ?_
              refine WT.op (op_loadc (i := P) (o := 0 + 0) (v := .int .i64 (x : Int)) (by simp only [St.ev, ↓Tr.get_set, ↓reduceIte, Nat.reduceEqDiff]) hP6 rfl) ?_
              refine WT.op (op_faddr (i := P) (p := 0) (by simp only [St.ev, ↓Tr.get_set, ↓reduceIte, Nat.reduceEqDiff])) ?_
              refine WT.op (op_loadc (i := P) (o := 0 + 1) (v := .int .i64 (y : Int)) (by simp only [St.ev, ↓Tr.get_set, ↓reduceIte, Nat.reduceEqDiff]) hP6 rfl) ?_
              refine WT.op (op_mv (v := .ptr (H.next + 15) 0) (by simp only [St.ev, ↓Tr.get_set, ↓reduceIte, Nat.reduceEqDiff, t8])) ?_
              refine WT.op (op_faddr (i := P) (p := 0) (by simp only [St.ev, ↓Tr.get_set, ↓reduceIte, Nat.reduceEqDiff])) ?_
              refine WT.op (op_loadc (i := P) (o := 0 + 1) (v := .int .i64 (y : Int)) (by simp only [St.ev, ↓Tr.get_set, ↓reduceIte, Nat.reduceEqDiff]) hP6 rfl) ?_
              refine WT.op (op_faddr (i := P) (p := 0) (by simp only [St.ev, ↓Tr.get_set, ↓reduceIte, Nat.reduceEqDiff])) ?_
              refine WT.op (op_loadc (i := P) (o := 0 + 0) (v := .int .i64 (x : Int)) (by simp only [St.ev, ↓Tr.get_set, ↓reduceIte, Nat.reduceEqDiff]) hP6 rfl) ?_
              refine WT.op (op_nilc (i := H.next + 15) (p := 0) (by simp only [St.ev, ↓Tr.get_set, ↓reduceIte, Nat.reduceEqDiff])) ?_
              refine WT.op (op_faddr (i := H.next + 15) (p := 0) (by simp only [St.ev, ↓Tr.get_set, ↓reduceIte, Nat.reduceEqDiff])) ?_
              refine WT.op (op_aaddr (i := H.next + 15) (p := 0 + 1) (j := x) (k := .i64) (by simp only [St.ev, ↓Tr.get_set, ↓reduceIte, Nat.reduceEqDiff]) (by simp only [St.ev, ↓Tr.get_set, ↓reduceIte, Nat.reduceEqDiff]) hx4.1) ?_
              refine WT.op (op_aaddr (i := H.next + 15) (p := 0 + 1 + x * 4) (j := y) (k := .i64) (by simp only [St.ev, ↓Tr.get_set, ↓reduceIte, Nat.reduceEqDiff]) (by simp only [St.ev, ↓Tr.get_set, ↓reduceIte, Nat.reduceEqDiff]) hx4.2) ?_
              have hrl := rulesOf_len (l.take i)
              refine WT.store (i := H.next + 15) (o := 0 + 1 + x * 4 + y * 1) (v := .bool true) (by simp only [St.ev, ↓Tr.get_set, ↓reduceIte, Nat.reduceEqDiff]) (by rfl) hR6 rfl rfl (by rw [ropeA_len, hrl]; omega) (fun H7 hc7 hg7 hn8 => ?_)
              have hR7 : H7.get (H.next + 15) = some (.cells (ropeA s ((rulesOf (l.take i)).set (x * 4 + y) true) gap (.map (H.next + 12)) (.map (H.next + 13))) none) := by
                rw [hc7, show 0 + 1 + x * 4 + y * 1 = 1 + (x * 4 + y) by omega]
                simp only [AV.cells]
                rw [ropeA_set (by rw [hrl]; omega)]
              have hP7 : H7.get P = some (.cells [.int .i64 (x : Int), .int .i64 (y : Int)] none) := by rw [hg7 P (fun q => hRP q.symm)]; exact hP6
              refine WT.op (op_nilc (i := H.next + 15) (p := 0) (by simp only [St.ev, ↓Tr.get_set, ↓reduceIte, Nat.reduceEqDiff])) ?_
              refine WT.op (op_faddr (i := H.next + 15) (p := 0) (by simp only [St.ev, ↓Tr.get_set, ↓reduceIte, Nat.reduceEqDiff])) ?_
              refine WT.op (op_aaddr (i := H.next + 15) (p := 0 + 1) (j := y) (k := .i64) (by simp only [St.ev, ↓Tr.get_set, ↓reduceIte, Nat.reduceEqDiff]) (by simp only [St.ev, ↓Tr.get_set, ↓reduceIte, Nat.reduceEqDiff]) hx4.2) ?_
              refine WT.op (op_aaddr (i := H.next + 15) (p := 0 + 1 + y * 4) (j := x) (k := .i64) (by simp only [St.ev, ↓Tr.get_set, ↓reduceIte, Nat.reduceEqDiff]) (by simp only [St.ev, ↓Tr.get_set, ↓reduceIte, Nat.reduceEqDiff]) hx4.1) ?_
              refine WT.store (i := H.next + 15) (o := 0 + 1 + y * 4 + x * 1) (v := .bool true) (by simp only [St.ev, ↓Tr.get_set, ↓reduceIte, Nat.reduceEqDiff]) (by rfl) hR7 rfl rfl (by rw [ropeA_len, List.length_set, hrl]; omega) (fun H8 hc8 hg8 hn9 => ?_)
              have hR8 : H8.get (H.next + 15) = some (.cells (ropeA s (rulesOf (l.take (i + 1))) gap (.map (H.next + 12)) (.map (H.next + 13))) none) := by
                rw [hc8, show 0 + 1 + y * 4 + x * 1 = 1 + (y * 4 + x) by omega]
                simp only [AV.cells]
                rw [ropeA_set (by rw [List.length_set, hrl]; omega)]
                have : rulesOf (l.take (i + 1)) = ((rulesOf (l.take i)).set (x * 4 + y) true).set (y * 4 + x) true := by
                  rw [List.take_add_one, hp, rulesOf, List.foldl_append]
                  simp only [Option.toList_some, List.foldl_cons, List.foldl_nil, hxy, Int.toNat_natCast]
                  rfl
                rw [this]
              have hka8 : H8.get (H.next + 12) = some (.map []) := by rw [hg8 _ (by omega), hg7 _ (by omega)]; exact hka6
              have hkb8 : H8.get (H.next + 13) = some (.map []) := by rw [hg8 _ (by omega), hg7 _ (by omega)]; exact hkb6
              refine WT.nil ⟨?_, rfl, _, rfl, bN (pN ?_)⟩
              · rw [List.all_cons, List.all_cons, List.all_nil, Bool.and_true, Bool.and_eq_true]
                constructor
                · refine looseOk_of (o := ⟨some 52, .load none (.t 51), none⟩) rfl rfl rfl (x := .int .i64 (y : Int)) (xop_loadc (i := P) (o := 0 + 1) (by simp only [St.ev, ↓Tr.get_set, ↓reduceIte, Nat.reduceEqDiff]) hP6 rfl) (fun j hj => ?_) (by simp [AV.beq])
                  simp only [List.map_cons, List.map_nil, List.cons_append, List.nil_append, List.mem_cons, List.not_mem_nil, or_false] at hj
                  rcases hj with rfl | rfl | rfl
                  · exact ⟨_, rfl, xop_loadc (i := P) (o := 0 + 1) (by simp only [St.ev, ↓Tr.get_set, ↓reduceIte, Nat.reduceEqDiff]) hP6 rfl⟩
                  · exact ⟨_, rfl, xop_loadc (i := P) (o := 0 + 1) (by simp only [St.ev, ↓Tr.get_set, ↓reduceIte, Nat.reduceEqDiff]) hP6 rfl⟩
                  · exact ⟨_, rfl, xop_loadc (i := P) (o := 0 + 1) (by simp only [St.ev, ↓Tr.get_set, ↓reduceIte, Nat.reduceEqDiff]) hP7 rfl⟩
                · refine looseOk_of (o := ⟨some 54, .load none (.t 53), none⟩) rfl rfl rfl (x := .int .i64 (x : Int)) (xop_loadc (i := P) (o := 0 + 0) (by simp only [St.ev, ↓Tr.get_set, ↓reduceIte, Nat.reduceEqDiff]) hP6 rfl) (fun j hj => ?_) (by simp [AV.beq])
                  simp only [List.map_cons, List.map_nil, List.cons_append, List.nil_append, List.mem_cons, List.not_mem_nil, or_false] at hj
                  rcases hj with rfl | rfl | rfl
                  · exact ⟨_, rfl, xop_loadc (i := P) (o := 0 + 0) (by simp only [St.ev, ↓Tr.get_set, ↓reduceIte, Nat.reduceEqDiff]) hP6 rfl⟩
                  · exact ⟨_, rfl, xop_loadc (i := P) (o := 0 + 0) (by simp only [St.ev, ↓Tr.get_set, ↓reduceIte, Nat.reduceEqDiff]) hP6 rfl⟩
                  · exact ⟨_, rfl, xop_loadc (i := P) (o := 0 + 0) (by simp only [St.ev, ↓Tr.get_set, ↓reduceIte, Nat.reduceEqDiff]) hP7 rfl⟩
              · repeat (first | (apply W.reg; · (simp only [List.length_cons, List.length_nil, Nat.reduceAdd]; rfl)) | refine WO.nil ?_ | (apply WO.op; · first | exact op_mv (by simp only [St.ev, ↓Tr.get_set, ↓reduceIte, Nat.reduceEqDiff, natA, t27, hw]; rfl) | exact op_bin (by simp only [St.ev, ↓Tr.get_set, ↓reduceIte, Nat.reduceEqDiff, natA, t27, hw]; rfl) (by simp only [St.ev, ↓Tr.get_set, ↓reduceIte, Nat.reduceEqDiff, natA, t27, hw]; rfl) (by simp only [binA, intCmpA, strA, natA, t27, hw]; rfl)) | refine pN ?_ | fail)
                exact ⟨i + 1, ⟨by omega, by simp only [Tr.get_set, get_bump, next_bump, next_set, next_add, AHeap.get_set, reduceIte, Nat.reduceEqDiff]; exact t0, by simp only [Tr.get_set, get_bump, next_bump, next_set, next_add, AHeap.get_set, reduceIte, Nat.reduceEqDiff]; exact t2, by simp only [Tr.get_set, get_bump, next_bump, next_set, next_add, AHeap.get_set, reduceIte, Nat.reduceEqDiff]; exact t8, by simp only [Tr.get_set, get_bump, next_bump, next_set, next_add, AHeap.get_set, reduceIte, Nat.reduceEqDiff]; exact t25, by simp only [Tr.get_set, get_bump, next_bump, next_set, next_add, AHeap.get_set, reduceIte, Nat.reduceEqDiff]; exact t26, by simp only [Tr.get_set, get_bump, next_bump, next_set, next_add, AHeap.get_set, reduceIte, Nat.reduceEqDiff], hR8, by show H.next + 15 < H8.next + 2; omega, by rw [hsucc, hb], hka8, hkb8⟩, by omega⟩
def IsV (s : List UInt8) (l : List (Int × Int)) (gap : Int) (f : List UInt8) : Bool × Int := if readE s l gap = 0 then (isF s (rulesOf l) gap f, 0) else (false, readE s l gap)
theorem Is_top (s : List UInt8) (l : List (Int × Int)) (gap : Int) (f : List UInt8) (hf : f.length ≤ 1000) : ∃ v H', xcallK K0 F 2000 43 12 [.str s, .imm (encPairs l) l.length false, .int .i64 gap, .str f] ⟨.e, 0⟩ = some (v, H') ∧ v = .tup [.bool (IsV s l gap f).1, .int .i64 (IsV s l gap f).2] := by
  rw [show 43 = 42 + 1 from rfl, xcallK_F (by omega) (show F 12 = some L12 from rfl)]
  refine xfunc_of rfl (by show 4 ≤ 25; omega) ?_
  have a0 : (argsT [.str s, .imm (encPairs l) l.length false, .int .i64 gap, .str f] 0 .e).get 0 = some (.str s) := rfl
  have a1 : (argsT [.str s, .imm (encPairs l) l.length false, .int .i64 gap, .str f] 0 .e).get 1 = some (.imm (encPairs l) l.length false) := rfl
  have a2 : (argsT [.str s, .imm (encPairs l) l.length false, .int .i64 gap, .str f] 0 .e).get 2 = some (.int .i64 gap) := rfl
  have a3 : (argsT [.str s, .imm (encPairs l) l.length false, .int .i64 gap, .str f] 0 .e).get 3 = some (.str f) := rfl
  generalize argsT [.str s, .imm (encPairs l) l.length false, .int .i64 gap, .str f] 0 .e = tm at a0 a1 a2 a3
  generalize (⟨.e, 0⟩ : AHeap) = H
  unfold L12
  dsimp only
  repeat (first | refine W.seq ?_ | (apply W.reg; · (simp only [List.length_cons, List.length_nil, Nat.reduceAdd]; rfl)) | refine WO.nil ?_ | (apply WO.op; · first | exact op_mv (by simp only [St.ev, ↓Tr.get_set, ↓reduceIte, Nat.reduceEqDiff, natA, a0, a1, a2, a3]; rfl)) | refine pN ?_ | fail)
  obtain ⟨v, H1, h1, hq⟩ := read_ok (k := 38) (H := (H.bump 2).bump 9) (s := s) (l := l) (gap := gap)
  refine WO.op (op_call (cs := []) (l := [.str s, .imm (encPairs l) l.length false, .int .i64 gap]) (v := v) (H1 := H1) (by rfl) (evL3 (by simp only [St.ev, ↓Tr.get_set, ↓reduceIte, Nat.reduceEqDiff]) (by simp only [St.ev, ↓Tr.get_set, ↓reduceIte, Nat.reduceEqDiff]) (by simp only [St.ev, ↓Tr.get_set, ↓reduceIte, Nat.reduceEqDiff])) (by rw [show 42 = 41 + 1 from rfl, xcallK_F (by omega) (show F 24 = some L24 from rfl)]; exact h1)) ?_
  rcases hq with ⟨hE, rfl⟩ | ⟨hE, R, kn, fn, rfl, hR, hRn, _, _, _, _⟩
  · have hI : IsV s l gap f = (false, readE s l gap) := by unfold IsV; rw [if_neg hE]
    rw [hI]
    have c : (!(readE s l gap == Int.ofNat 0)) = true := by
      rw [Bool.not_eq_true', beq_eq_false_iff_ne]; exact hE
    have c' : (readE s l gap != Int.ofNat 0) = true := c
    repeat (first | refine W.seq ?_ | refine W.ret ?_ | (apply W.reg; · (simp only [List.length_cons, List.length_nil, Nat.reduceAdd]; rfl)) | refine WO.nil ?_ | (apply WO.op; · first | exact op_mv (by simp only [St.ev, ↓Tr.get_set, ↓reduceIte, Nat.reduceEqDiff, natA, c, c']; rfl) | exact op_bin (by simp only [St.ev, ↓Tr.get_set, ↓reduceIte, Nat.reduceEqDiff, natA, c, c']; rfl) (by simp only [St.ev, ↓Tr.get_set, ↓reduceIte, Nat.reduceEqDiff, natA, c, c']; rfl) (by simp only [binA, intCmpA, strA, natA, c, c']; rfl) | exact op_ext (by simp only [St.ev, ↓Tr.get_set, ↓reduceIte, Nat.reduceEqDiff, natA, c, c']; rfl) (by rfl)) | refine pN ?_ | refine pR ?_ | (apply W.condT'; (· (simp only [St.ev, ↓Tr.get_set, ↓reduceIte, Nat.reduceEqDiff, natA, c, c']; rfl)); (· rfl)) | fail)
    exact ⟨fun id q => (by cases q), _, by simp only [resL, resA, Tr.get_set, get_bump, next_bump, next_set, next_add, AHeap.get_set, reduceIte, Nat.reduceEqDiff] <;> rfl, rfl⟩
  · have hI : IsV s l gap f = (isF s (rulesOf l) gap f, 0) := by unfold IsV; rw [if_pos hE]
    rw [hI]
    have c' : ((0 : Int) != Int.ofNat 0) = false := rfl
    repeat (first | refine W.seq ?_ | refine W.skip ?_ | (apply W.reg; · (simp only [List.length_cons, List.length_nil, Nat.reduceAdd]; rfl)) | refine WO.nil ?_ | (apply WO.op; · first | exact op_mv (by simp only [St.ev, ↓Tr.get_set, ↓reduceIte, Nat.reduceEqDiff, natA, c', a3]; rfl) | exact op_bin (by simp only [St.ev, ↓Tr.get_set, ↓reduceIte, Nat.reduceEqDiff, natA, c', a3]; rfl) (by simp only [St.ev, ↓Tr.get_set, ↓reduceIte, Nat.reduceEqDiff, natA, c', a3]; rfl) (by simp only [binA, intCmpA, strA, natA, c', a3]; rfl) | exact op_ext (by simp only [St.ev, ↓Tr.get_set, ↓reduceIte, Nat.reduceEqDiff, natA, c', a3]; rfl) (by rfl)) | refine pN ?_ | (apply W.condF'; (· (simp only [St.ev, ↓Tr.get_set, ↓reduceIte, Nat.reduceEqDiff, natA, c', a3]; rfl)); (· rfl)) | fail)
    have hs40 : s.length ≤ 40 ∧ s.all inS = true := by
      unfold readE at hE
      split at hE
      · omega
      · split at hE
        · omega
        · split at hE
          · omega
          · split at hE
            · rename_i h; exact ⟨by omega, h⟩
            · omega
    obtain ⟨u, H2, h2, rfl⟩ := is_ok (H := (H1.bump 2).bump 5) (R := R) (s := s) (f := f) (rl := rulesOf l) (gap := gap) (ka := .map kn) (fa := .map fn) hR (by simp only [next_bump]; omega) (rulesOf_len l) hs40.2 (by omega) hf
    refine WO.op (op_call (cs := []) (l := [.ptr R 0, .str f]) (H1 := H2) (by rfl) (evL2 (by simp only [St.ev, ↓Tr.get_set, ↓reduceIte, Nat.reduceEqDiff]) (by simp only [St.ev, ↓Tr.get_set, ↓reduceIte, Nat.reduceEqDiff])) (by rw [show 42 = 41 + 1 from rfl, xcallK_F (by omega) (show F 25 = some L25 from rfl)]; exact h2)) ?_
    repeat (first | refine W.ret ?_ | refine WO.nil ?_ | (apply WO.op; · first | exact op_mv (by simp only [St.ev, ↓Tr.get_set, ↓reduceIte, Nat.reduceEqDiff, natA]; rfl)) | refine pN ?_ | fail)
    exact ⟨fun id q => (by cases q), _, by simp only [resL, resA, Tr.get_set, get_bump, next_bump, next_set, next_add, AHeap.get_set, reduceIte, Nat.reduceEqDiff] <;> rfl, rfl⟩
end Go.Proofs.YtfcgofffalmdfaaDoor.PA
namespace Go.Eng
mutual
theorem AV.beq_refl : ∀ v : AV, AV.beq v v = true
  | .bool a => by simp [AV.beq]
  | .int k a => by simp [AV.beq]
  | .str a => by simp [AV.beq]
  | .ptr a b => by simp [AV.beq]
  | .nilp => by simp [AV.beq]
  | .nils => by simp [AV.beq]
  | .nilm => by simp [AV.beq]
  | .nilf => by simp [AV.beq]
  | .nili => by simp [AV.beq]
  | .sl a b c d => by simp [AV.beq]
  | .map a => by simp [AV.beq]
  | .fn f l => by simp [AV.beq, AV.beqL_refl l]
  | .ifc t x => by simp [AV.beq, AV.beq_refl x]
  | .agg l => by simp [AV.beq, AV.beqL_refl l]
  | .tup l => by simp [AV.beq, AV.beqL_refl l]
  | .imm l a b => by simp [AV.beq, AV.beqL_refl l]
  | .iptr l a => by simp [AV.beq, AV.beqL_refl l]
  | .glob a b => by simp [AV.beq]
theorem AV.beqL_refl : ∀ l : List AV, AV.beqL l l = true
  | [] => by simp [AV.beqL]
  | x :: l => by simp [AV.beqL, AV.beq_refl x, AV.beqL_refl l]
end
def WC (cf : CF) (ops : List XOper) (n : Nat) (tm : Tr AV) (H : AHeap) (Q : St → Prop) : Prop :=
  ∃ tr, xtrace cf ops n ⟨tm, H⟩ = some tr ∧ (∀ t ∈ tr, t.H = H) ∧ ∃ s', tr.getLast? = some s' ∧ Q s'
section
variable {cf : CF} {n : Nat} {tm : Tr AV} {H : AHeap} {Q : St → Prop}
theorem WC.nil (h : Q ⟨tm, H⟩) : WC cf [] n tm H Q := ⟨_, rfl, by simp, _, rfl, h⟩
theorem WC.step {o : XOper} {r : List XOper} {tm1 : Tr AV} (h : xstep cf ⟨tm, H⟩ n o = some ⟨tm1, H⟩) (k : WC cf r (n + 1) tm1 H Q) : WC cf (o :: r) n tm H Q := by
  obtain ⟨tr, h1, h2, s', h3, h4⟩ := k
  refine ⟨⟨tm, H⟩ :: tr, by simp only [xtrace, h, h1, Option.map_some], fun t ht => ?_, s', by rw [List.getLast?_cons, h3]; rfl, h4⟩
  rcases List.mem_cons.1 ht with rfl | ht
  · rfl
  · exact h2 t ht
theorem WC.op {d : Nat} {op : XOp} {r : List XOper} {v : AV} (h : xval cf (St.ev tm) H n op = some (v, H)) (k : WC cf r (n + 1) (tm.set d (some v)) H Q) : WC cf (⟨some d, op, none⟩ :: r) n tm H Q :=
  WC.step (by simp only [xstep, wantedA, h, putT]) k
theorem WC.gop' {d : Nat} {op : XOp} {r : List XOper} {v u : AV} {g : Nat} {b : Bool} (hg : tm.get g = some u) (hu : u = .bool b) (h : xval cf (St.ev tm) H n op = some (v, H)) (k : WC cf r (n + 1) (tm.set d (some v)) H Q) : WC cf (⟨some d, op, some (g, b)⟩ :: r) n tm H Q :=
  WC.step (by subst hu; simp only [xstep, wantedA, hg, beq_self_eq_true, h, putT]) k
theorem WC.gno' {d : Nat} {op : XOp} {r : List XOper} {u : AV} {g : Nat} {b : Bool} (hg : tm.get g = some u) (hu : u = .bool (!b)) (k : WC cf r (n + 1) (tm.set d (some undefA)) H Q) : WC cf (⟨some d, op, some (g, b)⟩ :: r) n tm H Q :=
  WC.step (by subst hu; cases b <;> simp [xstep, wantedA, hg, putT]) k
theorem WC.named {ops : List XOper} (h : ∀ tX, tX = tm → WC cf ops n tX H Q) : WC cf ops n tm H Q := h tm rfl
theorem xtrace_len : ∀ (ops : List XOper) (n : Nat) (s : St) (tr : List St), xtrace cf ops n s = some tr → tr.length = ops.length + 1
  | [], _, _, tr, h => by cases h; rfl
  | o :: r, n, s, tr, h => by
    simp only [xtrace] at h
    split at h
    · rename_i s1 h1
      obtain ⟨tr1, h2, rfl⟩ := Option.map_eq_some_iff.1 h
      simp [xtrace_len r _ _ _ h2]
    · cases h
theorem xtrace_at : ∀ (ops : List XOper) (n : Nat) (s : St) (tr : List St), xtrace cf ops n s = some tr → ∀ i o, ops[i]? = some o → ∃ t t', tr[i]? = some t ∧ xstep cf t (n + i) o = some t'
  | [], _, _, tr, h, i, o, hi => by simp at hi
  | o :: r, n, s, tr, h, i, o', hi => by
    simp only [xtrace] at h
    split at h
    · rename_i s1 h1
      obtain ⟨tr1, h2, rfl⟩ := Option.map_eq_some_iff.1 h
      cases i with
      | zero => simp at hi; subst hi; exact ⟨s, s1, rfl, h1⟩
      | succ i =>
        obtain ⟨t, t', q1, q2⟩ := xtrace_at r _ _ _ h2 i o' (by simpa using hi)
        exact ⟨t, t', by simpa using q1, by rw [show n + (i + 1) = n + 1 + i by omega]; exact q2⟩
    · cases h
def looseB (ops : List XOper) (l : Nat × List Nat × List Nat) : Bool :=
  l.2.2.isEmpty && (l.1 :: (l.2.1 ++ l.2.1.map (· + 1))).all (fun i => Nat.ble i ops.length) && (match ops[l.1]? with | some ⟨_, .load _ _, _⟩ => true | _ => false)
theorem W.regC {fuel : Nat} {ops : List XOper} {lo : List (Nat × List Nat × List Nat)} {Q : XE → St → Prop} (k : Nat) (hk : ops.length = k) (hlo : lo.all (looseB ops) = true) (h : ∀ H1 : AHeap, (∀ j, H1.get j = H.get j) → H1.next = H.next + k → WC cf ops H.next tm H1 (Q .normal)) : W cf fuel (.regd ops lo []) ⟨tm, H⟩ Q := by
  refine W.regd k hk ?_
  obtain ⟨tr, h1, h2, s', h3, h4⟩ := h (H.bump k) (fun j => get_bump _ _ _) rfl
  refine ⟨tr, h1, ?_, by simp [freshOk], s', h3, h4⟩
  rw [List.all_eq_true] at hlo ⊢
  intro l hl
  have hb := hlo l hl
  unfold looseB at hb
  rw [Bool.and_eq_true, Bool.and_eq_true] at hb
  obtain ⟨⟨b1, b2⟩, b3⟩ := hb
  have b1' : l.2.2 = [] := by simpa using b1
  have hlen := xtrace_len _ _ _ _ h1
  have hin : ∀ i ∈ (l.1 :: (l.2.1 ++ l.2.1.map (· + 1))), ∃ si, tr[i]? = some si ∧ si.H = H.bump k := by
    intro i hi
    rw [List.all_eq_true] at b2
    have := b2 i hi
    have hi' : i < tr.length := by rw [hlen]; have := Nat.le_of_ble_eq_true this; omega
    exact ⟨tr[i], List.getElem?_eq_getElem hi', h2 _ (List.getElem_mem hi')⟩
  split at b3
  · rename_i d m x g ho
    obtain ⟨t, t', q1, q2⟩ := xtrace_at _ _ _ _ h1 _ _ ho
    have ht : t.H = H.bump k := h2 t (List.mem_of_getElem? q1)
    unfold looseOk
    rw [ho, q1]
    dsimp only
    unfold xstep at q2
    generalize wantedA t.tm { dst := d, op := XOp.load m x, guard := g } = wd at q2 ⊢
    cases wd with
    | none => cases q2
    | some wb =>
      cases wb with
      | false => rfl
      | true =>
        dsimp only at q2 ⊢
        have hv : ∃ y, ∀ n, xop (St.ev t.tm) t.H n (XOp.load m x) = .v y := by
          cases hx : (St.ev t.tm x).bind (loadA t.H m) with
          | none => simp only [xval, xop, hx, AR.ofV] at q2; cases q2
          | some y => exact ⟨y, fun n => by simp only [xop, hx, AR.ofV]⟩
        obtain ⟨y, hy⟩ := hv
        rw [hy 0]
        dsimp only
        rw [List.all_eq_true]
        intro i hi
        obtain ⟨si, s1, s2⟩ := hin i hi
        rw [s1]
        dsimp only
        rw [b1', List.filter_nil]
        simp only [AHeap.less]
        rw [s2, ← ht, hy 0]
        exact AV.beq_refl y
  · cases b3
end
theorem op_ia {cf : CF} {z n : Nat} {a b c : AV} {H : AHeap} {ev : XO → Option AV} {x y : XO} (hx : ev x = some a) (hy : ev y = some b) (h : iaddrA z a b = some c) : xval cf ev H n (.iaddr z x y) = some (c, H) := by
  simp only [xval, xop, hx, hy, h] <;> rfl
def lenN : AV → Option Nat
  | .nils => some 0
  | .sl _ _ l _ => some l
  | .imm _ l _ => some l
  | _ => none
theorem Row.lenN {z l : Nat} {H : AHeap} {v : AV} {cs : List AV} (h : Row z H v l cs) : lenN v = some l := by
  rcases h with ⟨_, ⟨rfl, rfl⟩ | ⟨i, full, rfl, _⟩⟩ <;> rfl
theorem op_lenL {cf : CF} {n l : Nat} {a : AV} {H : AHeap} {ev : XO → Option AV} {x : XO} (hx : ev x = some a) (h : Go.Eng.lenN a = some l) : xval cf ev H n (.len x) = some (.int .i64 (l : Int), H) := by
  unfold Go.Eng.lenN at h
  split at h
  all_goals first | (cases h; simp only [xval, xop, hx] <;> rfl) | cases h
end Go.Eng
namespace Go.Eng
abbrev KL0 := List (Nat × AV)
def look : KL0 → Nat → Option AV
  | [], _ => none
  | (e, v) :: r, d => match Nat.beq d e with
    | true => some v
    | false => look r d
def evK (l : KL0) : XO → Option AV
  | .t d => look l d
  | .k v => some v
def Kw (tm : Tr AV) (l : KL0) : Prop := ∀ d v, look l d = some v → tm.get d = some v
theorem Kw.nil (tm : Tr AV) : Kw tm [] := fun d v h => by cases h
theorem Kw.set {tm : Tr AV} {l : KL0} (h : Kw tm l) (d : Nat) (v : AV) : Kw (tm.set d (some v)) ((d, v) :: l) := by
  intro e u he
  unfold look at he
  split at he
  · rename_i q
    have : e = d := by simpa using q
    subst this
    cases he
    exact Tr.get_set_self _ _ _
  · rename_i q
    have : e ≠ d := by
      intro w
      subst w
      simp at q
    rw [Tr.get_set_ne _ _ this]
    exact h e u he
theorem Kw.ev {tm : Tr AV} {l : KL0} (h : Kw tm l) {x : XO} {v : AV} (hx : evK l x = some v) : St.ev tm x = some v := by
  cases x with
  | t d => exact h d v hx
  | k u => exact hx
def Sub (l' l : KL0) : Prop := ∀ d v, look l d = some v → look l' d = some v
theorem Sub.nil (l : KL0) : Sub l [] := fun d v h => by cases h
theorem Sub.cons {l l' : KL0} {d : Nat} {v : AV} (h : look l' d = some v) (k : Sub l' l) : Sub l' ((d, v) :: l) := by
  intro e u he
  unfold look at he
  split at he
  · rename_i q
    have : e = d := by simpa using q
    subst this
    cases he
    exact h
  · exact k e u he
theorem Sub.refl (l : KL0) : Sub l l := fun _ _ h => h
theorem Kw.sub {tm : Tr AV} {l l' : KL0} (h : Kw tm l') (s : Sub l' l) : Kw tm l := fun d v q => h d v (s d v q)
def allSm (l : KL0) (xs : List XO) : Bool := xs.all fun x => (evK l x).isSome
theorem xval_kw {cf : CF} {tm : Tr AV} {l : KL0} (h : Kw tm l) {H : AHeap} {n : Nat} {y : XOp} (ha : allSm l y.opnds = true) : xval cf (St.ev tm) H n y = xval cf (evK l) H n y := by
  refine xval_congr fun x hx => ?_
  have := List.all_eq_true.1 ha x hx
  cases q : evK l x with
  | none => rw [q] at this; cases this
  | some v => exact h.ev q
def XV (cf : CF) (l : KL0) (H : AHeap) (n : Nat) (y : XOp) : Option (AV × AHeap) := xval cf (evK l) H n y
theorem loose_calm {cf : CF} {ops : List XOper} {lo : List (Nat × List Nat × List Nat)} {tm : Tr AV} {H : AHeap} {n b : Nat} {tr : List St} (h1 : xtrace cf ops n ⟨tm, H⟩ = some tr) (h2 : ∀ t ∈ tr, t.H = H) (hlo : lo.all (looseB ops) = true) : lo.all (looseOk ops tr b []) = true := by
  rw [List.all_eq_true] at hlo ⊢
  intro l hl
  have hb := hlo l hl
  unfold looseB at hb
  rw [Bool.and_eq_true, Bool.and_eq_true] at hb
  obtain ⟨⟨b1, b2⟩, b3⟩ := hb
  have b1' : l.2.2 = [] := by simpa using b1
  have hlen := xtrace_len _ _ _ _ h1
  have hin : ∀ i ∈ (l.1 :: (l.2.1 ++ l.2.1.map (· + 1))), ∃ si, tr[i]? = some si ∧ si.H = H := by
    intro i hi
    rw [List.all_eq_true] at b2
    have := b2 i hi
    have hi' : i < tr.length := by rw [hlen]; have := Nat.le_of_ble_eq_true this; omega
    exact ⟨tr[i], List.getElem?_eq_getElem hi', h2 _ (List.getElem_mem hi')⟩
  split at b3
  · rename_i d m x g ho
    obtain ⟨t, t', q1, q2⟩ := xtrace_at _ _ _ _ h1 _ _ ho
    have ht : t.H = H := h2 t (List.mem_of_getElem? q1)
    unfold looseOk
    rw [ho, q1]
    dsimp only
    unfold xstep at q2
    generalize wantedA t.tm { dst := d, op := XOp.load m x, guard := g } = wd at q2 ⊢
    cases wd with
    | none => cases q2
    | some wb =>
      cases wb with
      | false => rfl
      | true =>
        dsimp only at q2 ⊢
        have hv : ∃ y, ∀ n, xop (St.ev t.tm) t.H n (XOp.load m x) = .v y := by
          cases hx : (St.ev t.tm x).bind (loadA t.H m) with
          | none => simp only [xval, xop, hx, AR.ofV] at q2; cases q2
          | some y => exact ⟨y, fun n => by simp only [xop, hx, AR.ofV]⟩
        obtain ⟨y, hy⟩ := hv
        rw [hy 0]
        dsimp only
        rw [List.all_eq_true]
        intro i hi
        obtain ⟨si, s1, s2⟩ := hin i hi
        rw [s1]
        dsimp only
        rw [b1', List.filter_nil]
        simp only [AHeap.less]
        rw [s2, ← ht, hy 0]
        exact AV.beq_refl y
  · cases b3
def WK (cf : CF) (fuel : Nat) (c : XCode) (l : KL0) (H : AHeap) (Q : XE → KL0 → AHeap → Prop) : Prop :=
  ∀ tm, Kw tm l → W cf fuel c ⟨tm, H⟩ fun e s' => ∃ l', Kw s'.tm l' ∧ Q e l' s'.H
def WKO (cf : CF) (ops : List XOper) (n : Nat) (l : KL0) (H : AHeap) (Q : KL0 → AHeap → Prop) : Prop :=
  ∀ tm, Kw tm l → WO cf ops n ⟨tm, H⟩ fun s' => ∃ l', Kw s'.tm l' ∧ Q l' s'.H
def WKC (cf : CF) (ops : List XOper) (n : Nat) (l : KL0) (H : AHeap) (Q : KL0 → Prop) : Prop :=
  ∀ tm, Kw tm l → WC cf ops n tm H fun s' => s'.H = H ∧ ∃ l', Kw s'.tm l' ∧ Q l'
def calmB (o : XOper) : Bool := match o.op with
  | .call .. => true
  | y => match y.cls with
    | .p | .r => true
    | _ => false
section
variable {cf : CF} {fuel n : Nat} {l : KL0} {H : AHeap} {Q : XE → KL0 → AHeap → Prop} {R : KL0 → AHeap → Prop} {S : KL0 → Prop}
theorem WK.mono {c : XCode} {Q' : XE → KL0 → AHeap → Prop} (h : WK cf fuel c l H Q) (hq : ∀ e l' H', Q e l' H' → Q' e l' H') : WK cf fuel c l H Q' :=
  fun tm ht => (h tm ht).mono fun e s' ⟨l', h1, h2⟩ => ⟨l', h1, hq _ _ _ h2⟩
theorem WK.sub {c : XCode} {l' : KL0} (s : Sub l l') (h : WK cf fuel c l' H Q) : WK cf fuel c l H Q := fun tm ht => h tm (ht.sub s)
theorem WK.skip (h : Q .normal l H) : WK cf fuel .skip l H Q := fun tm ht => W.skip ⟨l, ht, h⟩
theorem WK.ret (h : Q .ret l H) : WK cf fuel .ret l H Q := fun tm ht => W.ret ⟨l, ht, h⟩
theorem WK.exit {id : Nat} (h : Q (.exit id) l H) : WK cf fuel (.exit id) l H Q := fun tm ht => W.exit ⟨l, ht, h⟩
theorem WK.seq {a b : XCode} (h : WK cf fuel a l H fun e l' H' => (e = .normal → WK cf fuel b l' H' Q) ∧ (e ≠ .normal → Q e l' H')) : WK cf fuel (.seq a b) l H Q :=
  fun tm ht => W.seq ((h tm ht).mono fun e s' ⟨l', h1, h2, h3⟩ => ⟨fun q => h2 q s'.tm h1, fun q => ⟨l', h1, h3 q⟩⟩)
theorem WK.block {id : Nat} {c : XCode} (h : WK cf fuel c l H fun e l' H' => (e = .exit id → Q .normal l' H') ∧ (e ≠ .exit id → Q e l' H')) : WK cf fuel (.block id c) l H Q :=
  fun tm ht => W.block ((h tm ht).mono fun e s' ⟨l', h1, h2, h3⟩ => ⟨fun q => ⟨l', h1, h2 q⟩, fun q => ⟨l', h1, h3 q⟩⟩)
theorem WK.condT {c : XO} {a b : XCode} {v : Bool} (hc : evK l c = some (.bool v)) (hv : v = true) (h : WK cf fuel a l H Q) : WK cf fuel (.cond c a b) l H Q :=
  fun tm ht => by subst hv; exact W.condT (ht.ev hc) (h tm ht)
theorem WK.condF {c : XO} {a b : XCode} {v : Bool} (hc : evK l c = some (.bool v)) (hv : v = false) (h : WK cf fuel b l H Q) : WK cf fuel (.cond c a b) l H Q :=
  fun tm ht => by subst hv; exact W.condF (ht.ev hc) (h tm ht)
theorem WK.condD {c : XO} {a b : XCode} {p : Prop} {_ : Decidable p} (hc : evK l c = some (.bool (decide p))) (h1 : p → WK cf fuel a l H Q) (h2 : ¬ p → WK cf fuel b l H Q) : WK cf fuel (.cond c a b) l H Q := by
  by_cases q : p
  · exact WK.condT hc (decide_eq_true q) (h1 q)
  · exact WK.condF hc (decide_eq_false q) (h2 q)
theorem WK.condB {c : XO} {a b : XCode} {v : Bool} (hc : evK l c = some (.bool v)) (h1 : v = true → WK cf fuel a l H Q) (h2 : v = false → WK cf fuel b l H Q) : WK cf fuel (.cond c a b) l H Q := by
  cases q : v with
  | true => exact WK.condT hc q (h1 q)
  | false => exact WK.condF hc q (h2 q)
theorem WK.condN {c : XO} {a b : XCode} {v : Bool} (hc : evK l c = some (.bool (!v))) (h1 : v = false → WK cf fuel a l H Q) (h2 : v = true → WK cf fuel b l H Q) : WK cf fuel (.cond c a b) l H Q := by
  cases q : v with
  | true => exact WK.condF hc (by rw [q]; rfl) (h2 q)
  | false => exact WK.condT hc (by rw [q]; rfl) (h1 q)
theorem WK.loop {α : Type} {c : XCode} (L : α → KL0) (P : α → AHeap → Prop) (μ : α → Nat) (i : α) (hl : Sub l (L i)) (hP : P i H) (hm : μ i < fuel)
    (h : ∀ i H, P i H → WK cf fuel c (L i) H fun e l' H' => (e = .normal → ∃ j, Sub l' (L j) ∧ P j H' ∧ μ j < μ i) ∧ (e ≠ .normal → Q e l' H')) : WK cf fuel (.loop c) l H Q := by
  intro tm ht
  refine W.loop (fun i s => Kw s.tm (L i) ∧ P i s.H) μ i ⟨ht.sub hl, hP⟩ hm (fun i s ⟨h1, h2⟩ => ?_)
  obtain ⟨tm1, H1⟩ := s
  refine (h i H1 h2 tm1 h1).mono fun e s' ⟨l', q1, q2, q3⟩ => ⟨fun he => ?_, fun he => ⟨l', q1, q3 he⟩⟩
  obtain ⟨j, r1, r2, r3⟩ := q2 he
  exact ⟨j, ⟨q1.sub r1, r2⟩, r3⟩
theorem WK.cut {α : Type} {a b : XCode} (L : α → KL0) (P : α → AHeap → Prop) (h : WK cf fuel a l H fun e l' H' => (e = .normal → ∃ x, Sub l' (L x) ∧ P x H') ∧ (e ≠ .normal → Q e l' H')) (k : ∀ x H', P x H' → WK cf fuel b (L x) H' Q) : WK cf fuel (.seq a b) l H Q :=
  WK.seq (h.mono fun e l' H' ⟨h1, h2⟩ => ⟨fun he => by
    obtain ⟨x, q1, q2⟩ := h1 he
    exact (k x H' q2).sub q1, h2⟩)
def Stop (p : Prop) : Prop := p
theorem WK.reg {ops : List XOper} {k : Nat} (hk : ops.length = k) (h : WKO cf ops H.next l (H.bump k) fun l' H' => Q .normal l' H') : WK cf fuel (.reg ops) l H Q :=
  fun tm ht => W.reg k hk (h tm ht)
theorem WK.regC {ops : List XOper} {lo : List (Nat × List Nat × List Nat)} {k : Nat} (_ : ops.all calmB = true) (hk : ops.length = k) (hlo : lo.all (looseB ops) = true) (h : WKC cf ops H.next l (H.bump k) fun l' => Q .normal l' (H.bump k)) : WK cf fuel (.regd ops lo []) l H Q := by
  intro tm ht
  refine W.regd k hk ?_
  have h1 := h tm ht
  unfold WC at h1
  obtain ⟨tr, q1, q1', s', q2, q3, l', q4, q5⟩ := h1
  unfold WT
  refine ⟨tr, q1, ?_, by simp [freshOk], s', q2, l', q4, by rw [q3]; exact q5⟩
  exact loose_calm q1 q1' hlo
theorem WK.regd0 {ops : List XOper} {k : Nat} (hk : ops.length = k) (h : WKO cf ops H.next l (H.bump k) fun l' H' => Q .normal l' H') : WK cf fuel (.regd ops [] []) l H Q :=
  fun tm ht => W.regd0 k hk (h tm ht)
theorem WKO.nil (h : R l H) : WKO cf [] n l H R := fun tm ht => WO.nil ⟨l, ht, h⟩
theorem WKO.op {d : Nat} {op : XOp} {r : List XOper} {v : AV} {H1 : AHeap} (h : XV cf l H n op = some (v, H1)) (ha : allSm l op.opnds = true) (k : WKO cf r (n + 1) ((d, v) :: l) H1 R) : WKO cf (⟨some d, op, none⟩ :: r) n l H R :=
  fun tm ht => WO.op ((xval_kw ht ha).trans h) (k _ (ht.set d v))
theorem WKO.opn {op : XOp} {r : List XOper} {v : AV} {H1 : AHeap} (h : XV cf l H n op = some (v, H1)) (ha : allSm l op.opnds = true) (k : WKO cf r (n + 1) l H1 R) : WKO cf (⟨none, op, none⟩ :: r) n l H R :=
  fun tm ht => WO.opn ((xval_kw ht ha).trans h) (k _ ht)
theorem WKO.callV {d g : Nat} {x : XO} {xs : List XO} {cs avs : List AV} {P : AV → AHeap → Prop} {r : List XOper} (hx : evK l x = some (.fn g cs)) (hl : evL (evK l) xs = some avs) (ha : allSm l (x :: xs) = true) (h : ∃ v H', cf g (avs ++ cs) H = some (v, H') ∧ P v H')
    (k : ∀ v H', P v H' → WKO cf r (n + 1) ((d, v) :: l) H' R) : WKO cf (⟨some d, .call x xs, none⟩ :: r) n l H R := by
  obtain ⟨v, H', h1, h2⟩ := h
  exact WKO.op (H1 := H') (op_call hx hl h1) ha (k v H' h2)
theorem WKO.gop {d g : Nat} {b c : Bool} {op : XOp} {r : List XOper} {v : AV} {H1 : AHeap} (hg : look l g = some (.bool c)) (hc : c = b) (h : XV cf l H n op = some (v, H1)) (ha : allSm l op.opnds = true) (k : WKO cf r (n + 1) ((d, v) :: l) H1 R) : WKO cf (⟨some d, op, some (g, b)⟩ :: r) n l H R :=
  fun tm ht => WO.gop' (ht _ _ hg) (by rw [hc]) ((xval_kw ht ha).trans h) (k _ (ht.set d v))
theorem WKO.gcallV {d f g : Nat} {b c : Bool} {x : XO} {xs : List XO} {cs avs : List AV} {P : AV → AHeap → Prop} {r : List XOper} (hg : look l g = some (.bool c)) (hc : c = b) (hx : evK l x = some (.fn f cs)) (hl : evL (evK l) xs = some avs) (ha : allSm l (x :: xs) = true) (h : ∃ v H', cf f (avs ++ cs) H = some (v, H') ∧ P v H')
    (k : ∀ v H', P v H' → WKO cf r (n + 1) ((d, v) :: l) H' R) : WKO cf (⟨some d, .call x xs, some (g, b)⟩ :: r) n l H R := by
  obtain ⟨v, H', h1, h2⟩ := h
  exact WKO.gop (H1 := H') hg hc (op_call hx hl h1) ha (k v H' h2)
theorem WKO.gnoT {d g : Nat} {c : Bool} {op : XOp} {r : List XOper} (hg : look l g = some (.bool c)) (hc : c = false) (k : WKO cf r (n + 1) ((d, undefA) :: l) H R) : WKO cf (⟨some d, op, some (g, true)⟩ :: r) n l H R :=
  fun tm ht => WO.gno' (ht _ _ hg) (by rw [hc]; rfl) (k _ (ht.set d undefA))
theorem WKO.gnoF {d g : Nat} {c : Bool} {op : XOp} {r : List XOper} (hg : look l g = some (.bool c)) (hc : c = true) (k : WKO cf r (n + 1) ((d, undefA) :: l) H R) : WKO cf (⟨some d, op, some (g, false)⟩ :: r) n l H R :=
  fun tm ht => WO.gno' (ht _ _ hg) (by rw [hc]; rfl) (k _ (ht.set d undefA))
theorem WKO.gsp {d g : Nat} {b : Bool} {op : XOp} {p : Prop} {_ : Decidable p} {r : List XOper} (hg : look l g = some (.bool (decide p))) (h1 : p → WKO cf (⟨some d, op, some (g, b)⟩ :: r) n l H R) (h2 : ¬ p → WKO cf (⟨some d, op, some (g, b)⟩ :: r) n l H R) : WKO cf (⟨some d, op, some (g, b)⟩ :: r) n l H R := by
  by_cases q : p
  · exact h1 q
  · exact h2 q
theorem WKO.gnu {d g : Nat} {b : Bool} {op : XOp} {r : List XOper} (hg : look l g = some undefA) (k : WKO cf r (n + 1) ((d, undefA) :: l) H R) : WKO cf (⟨some d, op, some (g, b)⟩ :: r) n l H R := by
  intro tm ht
  have h := k _ (ht.set d undefA)
  unfold WO at h ⊢
  obtain ⟨s', h1, h2⟩ := h
  refine ⟨s', ?_, h2⟩
  have : xstep cf ⟨tm, H⟩ n ⟨some d, op, some (g, b)⟩ = some ⟨tm.set d (some undefA), H⟩ := by
    simp only [xstep, wantedA, ht _ _ hg, undefA, putT]
  simp only [xops, this]
  exact h1
theorem WKC.nil (h : S l) : WKC cf [] n l H S := fun tm ht => WC.nil ⟨rfl, l, ht, h⟩
theorem WKC.op {d : Nat} {op : XOp} {r : List XOper} {v : AV} (h : XV cf l H n op = some (v, H)) (ha : allSm l op.opnds = true) (k : WKC cf r (n + 1) ((d, v) :: l) H S) : WKC cf (⟨some d, op, none⟩ :: r) n l H S :=
  fun tm ht => WC.op ((xval_kw ht ha).trans h) (k _ (ht.set d v))
theorem WKC.gop {d g : Nat} {b c : Bool} {op : XOp} {r : List XOper} {v : AV} (hg : look l g = some (.bool c)) (hc : c = b) (h : XV cf l H n op = some (v, H)) (ha : allSm l op.opnds = true) (k : WKC cf r (n + 1) ((d, v) :: l) H S) : WKC cf (⟨some d, op, some (g, b)⟩ :: r) n l H S :=
  fun tm ht => WC.gop' (ht _ _ hg) (by rw [hc]) ((xval_kw ht ha).trans h) (k _ (ht.set d v))
theorem WKC.gnoT {d g : Nat} {c : Bool} {op : XOp} {r : List XOper} (hg : look l g = some (.bool c)) (hc : c = false) (k : WKC cf r (n + 1) ((d, undefA) :: l) H S) : WKC cf (⟨some d, op, some (g, true)⟩ :: r) n l H S :=
  fun tm ht => WC.gno' (ht _ _ hg) (by rw [hc]; rfl) (k _ (ht.set d undefA))
theorem WKC.gnoF {d g : Nat} {c : Bool} {op : XOp} {r : List XOper} (hg : look l g = some (.bool c)) (hc : c = true) (k : WKC cf r (n + 1) ((d, undefA) :: l) H S) : WKC cf (⟨some d, op, some (g, false)⟩ :: r) n l H S :=
  fun tm ht => WC.gno' (ht _ _ hg) (by rw [hc]; rfl) (k _ (ht.set d undefA))
theorem WKC.gnu {d g : Nat} {b : Bool} {op : XOp} {r : List XOper} (hg : look l g = some undefA) (k : WKC cf r (n + 1) ((d, undefA) :: l) H S) : WKC cf (⟨some d, op, some (g, b)⟩ :: r) n l H S :=
  fun tm ht => WC.step (tm1 := tm.set d (some undefA)) (by simp only [xstep, wantedA, ht _ _ hg, undefA, putT]) (k _ (ht.set d undefA))
theorem WKC.gsp {d g : Nat} {b : Bool} {op : XOp} {p : Prop} {_ : Decidable p} {r : List XOper} (hg : look l g = some (.bool (decide p))) (h1 : p → WKC cf (⟨some d, op, some (g, b)⟩ :: r) n l H S) (h2 : ¬ p → WKC cf (⟨some d, op, some (g, b)⟩ :: r) n l H S) : WKC cf (⟨some d, op, some (g, b)⟩ :: r) n l H S := by
  by_cases q : p
  · exact h1 q
  · exact h2 q
theorem notT {c : Bool} (h : c = false) : (!c) = true := by rw [h]; rfl
theorem notF {c : Bool} (h : c = true) : (!c) = false := by rw [h]; rfl
theorem known {p G : Prop} (_ : p) (g : G) : p → G := fun _ => g
def argsL : List AV → Nat → KL0
  | [], _ => []
  | x :: r, n => (n, x) :: argsL r (n + 1)
theorem argsT_lt : ∀ (avs : List AV) (n d : Nat) (t : Tr AV), d < n → (argsT avs n t).get d = t.get d
  | [], _, _, _, _ => rfl
  | x :: r, n, d, t, h => by
    unfold argsT
    rw [argsT_lt r (n + 1) d _ (by omega), Tr.get_set_ne _ _ (by omega)]
theorem args_kw : ∀ (avs : List AV) (n : Nat) (t : Tr AV), Kw (argsT avs n t) (argsL avs n)
  | [], _, _ => Kw.nil _
  | x :: r, n, t => by
    intro d v h
    unfold argsL at h
    unfold look at h
    unfold argsT
    split at h
    · rename_i q
      have : d = n := by simpa using q
      subst this
      rw [argsT_lt _ _ _ _ (by omega), Tr.get_set_self]
      exact h
    · exact args_kw r (n + 1) _ d v h
def resK1 (l : KL0) (H : AHeap) : XRes → Option AV
  | .t n => look l n
  | .c a n => (look l a).bind (loadA H n)
def resK (l : KL0) (H : AHeap) : List XRes → Option (List AV)
  | [] => some []
  | r :: rs => (resK1 l H r).bind fun x => (resK l H rs).bind fun xs => some (x :: xs)
theorem resK_L {tm : Tr AV} (ht : Kw tm l) : ∀ {rs : List XRes} {xs : List AV}, resK l H rs = some xs → resL ⟨tm, H⟩ rs = some xs
  | [], xs, h => h
  | r :: rs, xs, h => by
    unfold resK at h
    simp only [Option.bind_eq_some_iff] at h
    obtain ⟨x, h1, ys, h2, h3⟩ := h
    have h4 : resA ⟨tm, H⟩ r = some x := by
      cases r with
      | t n => exact ht _ _ h1
      | c a n =>
        simp only [resK1, Option.bind_eq_some_iff] at h1
        obtain ⟨y, q1, q2⟩ := h1
        simp only [resA, ht _ _ q1, Option.bind_some, q2]
    simp only [resL, h4, resK_L ht h2, bind, Option.bind_some]
    exact h3
theorem xfunc_ofK {fn : XFunc} {args : List AV} (hn : args.length = fn.np) (ht : args.length ≤ fn.nt) {Q : AV → AHeap → Prop}
    (h : WK cf fuel fn.code (argsL args 0) H fun e l' H' => (∀ id, e ≠ .exit id) ∧ ∃ r, resK l' H' fn.res = some r ∧ Q (wrapL r) H') : ∃ v H', xfunc cf fuel fn args H = some (v, H') ∧ Q v H' :=
  xfunc_of hn ht ((h _ (args_kw args 0 .e)).mono fun e s' ⟨l', h1, h2, r, h3, h4⟩ => ⟨h2, r, resK_L h1 h3, h4⟩)
end
def nA (n : Nat) : AV := .int .i64 (n : Int)
section
variable {cf : CF} {n a b : Nat} {H : AHeap} {l : KL0} {x y : XO}
theorem k_addN (hx : evK l x = some (nA a)) (hy : evK l y = some (nA b)) (h : a + b < 9223372036854775808) : XV cf l H n (.bin .add x y) = some (nA (a + b), H) :=
  op_bin hx hy (by
    show some (AV.int .i64 (wrapA .i64 ((a : Int) + (b : Int)))) = _
    rw [wrapI _ (by omega) (by omega)]
    rfl)
theorem k_subN (hx : evK l x = some (nA a)) (hy : evK l y = some (nA b)) (h : b ≤ a) (h' : a < 9223372036854775808) : XV cf l H n (.bin .sub x y) = some (nA (a - b), H) :=
  op_bin hx hy (by
    show some (AV.int .i64 (wrapA .i64 ((a : Int) - (b : Int)))) = _
    rw [wrapI _ (by omega) (by omega), show (a : Int) - (b : Int) = ((a - b : Nat) : Int) by omega]
    rfl)
theorem k_mulN (hx : evK l x = some (nA a)) (hy : evK l y = some (nA b)) (h : a * b < 9223372036854775808) : XV cf l H n (.bin .mul x y) = some (nA (a * b), H) :=
  op_bin hx hy (by
    show some (AV.int .i64 (wrapA .i64 ((a : Int) * (b : Int)))) = _
    rw [← Int.natCast_mul, wrapI _ (by omega) (by omega)]
    rfl)
theorem k_quoN (hx : evK l x = some (nA a)) (hy : evK l y = some (nA b)) (h : 0 < b) (h' : a < 9223372036854775808) : XV cf l H n (.bin .quo x y) = some (nA (a / b), H) :=
  op_bin hx hy (by
    show (if (b : Int) = 0 then none else some (AV.int .i64 (wrapA .i64 ((a : Int).tdiv (b : Int))))) = _
    have e : (a : Int).tdiv (b : Int) = ((a / b : Nat) : Int) := (Int.ofNat_tdiv a b).symm
    have := Nat.div_le_self a b
    rw [if_neg (by omega), e, wrapI _ (Int.le_trans (by decide) (Int.natCast_nonneg _)) (by omega)]
    rfl)
theorem k_remN (hx : evK l x = some (nA a)) (hy : evK l y = some (nA b)) (h : 0 < b) : XV cf l H n (.bin .rem x y) = some (nA (a % b), H) :=
  op_bin hx hy (by
    show (if (b : Int) = 0 then none else some (AV.int .i64 ((a : Int).tmod (b : Int)))) = _
    rw [if_neg (by omega), ← Int.ofNat_tmod]
    rfl)
theorem k_lssN (hx : evK l x = some (nA a)) (hy : evK l y = some (nA b)) : XV cf l H n (.bin .lss x y) = some (.bool (decide (a < b)), H) :=
  op_bin hx hy (by show some (AV.bool (decide ((a : Int) < (b : Int)))) = _; simp)
theorem k_leqN (hx : evK l x = some (nA a)) (hy : evK l y = some (nA b)) : XV cf l H n (.bin .leq x y) = some (.bool (decide (a ≤ b)), H) :=
  op_bin hx hy (by show some (AV.bool (decide ((a : Int) ≤ (b : Int)))) = _; simp)
theorem k_gtrN (hx : evK l x = some (nA a)) (hy : evK l y = some (nA b)) : XV cf l H n (.bin .gtr x y) = some (.bool (decide (a > b)), H) :=
  op_bin hx hy (by show some (AV.bool (decide ((a : Int) > (b : Int)))) = _; simp)
theorem k_geqN (hx : evK l x = some (nA a)) (hy : evK l y = some (nA b)) : XV cf l H n (.bin .geq x y) = some (.bool (decide (a ≥ b)), H) :=
  op_bin hx hy (by show some (AV.bool (decide ((a : Int) ≥ (b : Int)))) = _; simp)
theorem k_eqlN (hx : evK l x = some (nA a)) (hy : evK l y = some (nA b)) : XV cf l H n (.bin .eql x y) = some (.bool (decide (a = b)), H) :=
  op_bin hx hy (by
    show some (AV.bool ((a : Int) == (b : Int))) = _
    congr 2
    rw [Bool.eq_iff_iff]
    simp
    omega)
theorem k_neqN (hx : evK l x = some (nA a)) (hy : evK l y = some (nA b)) : XV cf l H n (.bin .neq x y) = some (.bool (decide (a ≠ b)), H) :=
  op_bin hx hy (by
    show some (AV.bool ((a : Int) != (b : Int))) = _
    congr 2
    rw [Bool.eq_iff_iff]
    simp
    omega)
theorem k_notD {p : Prop} {_ : Decidable p} (hx : evK l x = some (.bool (decide p))) : XV cf l H n (.un .not x) = some (.bool (decide (¬ p)), H) :=
  op_un hx (by
    show some (AV.bool (!decide p)) = _
    simp)
theorem k_pickT {y z : XO} {c : Bool} {v : AV} (hx : evK l x = some (.bool c)) (hc : c = true) (h : evK l y = some v) : XV cf l H n (.pick x y z) = some (v, H) := op_pick hx (.inl ⟨by rw [hc], h⟩)
theorem k_pickF {y z : XO} {c : Bool} {v : AV} (hx : evK l x = some (.bool c)) (hc : c = false) (h : evK l z = some v) : XV cf l H n (.pick x y z) = some (v, H) := op_pick hx (.inr ⟨by rw [hc], h⟩)
theorem k_mv {v : AV} (hx : evK l x = some v) : XV cf l H n (.mv x) = some (v, H) := op_mv hx
theorem k_bin {u v w : AV} {o : BinOp} (hx : evK l x = some u) (hy : evK l y = some v) (h : binA o u v = some w) : XV cf l H n (.bin o x y) = some (w, H) := op_bin hx hy h
theorem k_un {u v : AV} {o : UnOp} (hx : evK l x = some u) (h : unA o u = some v) : XV cf l H n (.un o x) = some (v, H) := op_un hx h
theorem k_ext {i : Nat} {r : List AV} {v : AV} (hx : evK l x = some (.tup r)) (h : r[i]? = some v) : XV cf l H n (.ext x i) = some (v, H) := op_ext hx h
theorem k_lenL {u : AV} {m : Nat} (hx : evK l x = some u) (h : lenN u = some m) : XV cf l H n (.len x) = some (nA m, H) := op_lenL hx h
theorem k_call {g : Nat} {H1 : AHeap} {v : AV} {xs : List XO} {cs r : List AV} (hx : evK l x = some (.fn g cs)) (hl : evL (evK l) xs = some r) (h : cf g (r ++ cs) H = some (v, H1)) : XV cf l H n (.call x xs) = some (v, H1) := op_call hx hl h
theorem k_faddr {o i p : Nat} (hx : evK l x = some (.ptr i p)) : XV cf l H n (.faddr o x) = some (.ptr i (p + o), H) := op_faddr hx
theorem k_nilc {i p : Nat} (hx : evK l x = some (.ptr i p)) : XV cf l H n (.nilc x) = some (.ptr i p, H) := op_nilc hx
theorem k_load {m : Option Nat} {u v : AV} (hx : evK l x = some u) (h : loadA H m u = some v) : XV cf l H n (.load m x) = some (v, H) := op_load hx h
theorem k_eqn {neg : Bool} {k : NK} {u v : AV} {b c : Bool} (hx : evK l x = some u) (hy : evK l y = some v) (h : eqnA k u v = some b) (hc : (b != neg) = c) : XV cf l H n (.eqn neg k x y) = some (.bool c, H) := by
  show xval cf (evK l) H n _ = _
  simp only [xval, xop, hx, hy, h, hc]
theorem k_build {z : List AV} {ps : List (Nat × Nat × XO)} {v : AV} (h : ((evParts (evK l) ps).bind fun q => (fillA z q).map .agg) = some v) : XV cf l H n (.build z ps) = some (v, H) := by
  show xval cf (evK l) H n _ = _
  simp only [xval, xop, h, AR.ofV]
theorem k_any {y : XOp} {r : AV × AHeap} (h : xval cf (evK l) H n y = some r) : XV cf l H n y = some r := h
theorem k_iaN {z i o len c : Nat} (hx : evK l x = some (.sl i o len c)) (hy : evK l y = some (nA a)) (h : a < len) : XV cf l H n (.iaddr z x y) = some (.ptr i (o + a * z), H) :=
  op_ia hx hy (by
    show (if idxOk (a : Int) len then some (AV.ptr i (o + (a : Int).toNat * z)) else none) = _
    rw [idxOk_lt h]
    simp)
theorem k_iaM {z len : Nat} {cs : List AV} {f : Bool} (hx : evK l x = some (.imm cs len f)) (hy : evK l y = some (nA a)) (h : a < len) : XV cf l H n (.iaddr z x y) = some (.iptr cs (a * z), H) :=
  op_ia hx hy (by
    show (if idxOk (a : Int) len then some (AV.iptr cs ((a : Int).toNat * z)) else none) = _
    rw [idxOk_lt h]
    simp)
end
theorem dcd {p : Prop} (h : p := by first | with_reducible rfl | with_reducible assumption | exact (rfl : (!true) = false) | exact (rfl : (!false) = true) | exact notT (by assumption) | exact notF (by assumption) | exact decide_eq_true (by assumption) | exact decide_eq_false (by assumption) | exact decide_eq_true (by omega) | exact decide_eq_false (by omega)) : p := h
theorem nxx {p : Prop} (h : p := by first | omega | (simp only [next_bump] at *; omega)) : p := h
theorem lnn {p : Prop} (h : p := by simp only [List.length_cons, List.length_nil, Nat.reduceAdd]; rfl) : p := h
theorem mmb {p : Prop} (h : p := by first | exact .head _ | exact .tail _ (.head _) | exact .tail _ (.tail _ (.head _)) | exact .tail _ (.tail _ (.tail _ (.head _))) | exact .tail _ (.tail _ (.tail _ (.tail _ (.head _))))) : p := h
theorem opA {p : Prop} (h : p := by first | exact k_mv rfl | exact k_addN rfl rfl (by omega) | exact k_subN rfl rfl (by omega) (by omega) | exact k_lssN rfl rfl | exact k_leqN rfl rfl | exact k_gtrN rfl rfl | exact k_geqN rfl rfl | exact k_eqlN rfl rfl | exact k_neqN rfl rfl | exact k_notD rfl | exact k_pickT rfl dcd rfl | exact k_pickF rfl dcd rfl | exact k_ext rfl rfl | exact k_lenL rfl rfl | exact k_quoN rfl rfl (by omega) (by omega) | exact k_remN rfl rfl (by omega) | exact k_mulN rfl rfl (by omega) | exact k_un rfl rfl | exact k_build rfl | exact k_eqn rfl rfl rfl rfl | exact k_bin rfl rfl rfl) : p := h
attribute [irreducible] XV Stop WK WKO WKC
end Go.Eng
namespace Go.Eng
theorem insAll_mem {α : Type} {x : α} : ∀ {l r : List α}, r ∈ insAll x l → r.Perm (x :: l)
  | [], r, h => by simp only [insAll, List.mem_singleton] at h; rw [h]
  | y :: l, r, h => by
    simp only [insAll, List.mem_cons, List.mem_map] at h
    rcases h with rfl | ⟨q, hq, rfl⟩
    · exact .refl _
    · exact ((insAll_mem hq).cons y).trans (.swap x y l)
theorem permsL_mem {α : Type} : ∀ {l r : List α}, r ∈ permsL l → r.Perm l
  | [], r, h => by simp only [permsL, List.mem_singleton] at h; rw [h]
  | x :: l, r, h => by
    simp only [permsL, List.mem_flatMap] at h
    obtain ⟨q, hq, hr⟩ := h
    exact (insAll_mem hr).trans ((permsL_mem hq).cons x)
theorem objEq_none {o : Option AObj} (h : objEq none o = true) : o = none := by
  cases o with
  | none => rfl
  | some x => cases x <;> simp [objEq] at h
theorem objEq_none' {o : Option AObj} (h : objEq o none = true) : o = none := by
  cases o with
  | none => rfl
  | some x => cases x <;> simp [objEq] at h
theorem noneB_of {α : Type} : ∀ {t : Tr α}, (∀ k, t.get k = none) → t.noneB = true
  | .e, _ => rfl
  | .n l v r, h => by
    have h0 : v = none := by simpa [Tr.get] using h 0
    have hl : ∀ k, l.get k = none := fun k => by
      have := h (2 * k + 1)
      simp only [Tr.get] at this
      rwa [if_pos (by simp), show 2 * k / 2 = k by omega] at this
    have hr : ∀ k, r.get k = none := fun k => by
      have := h (2 * k + 1 + 1)
      simp only [Tr.get] at this
      rwa [if_neg (by simp), show (2 * k + 1) / 2 = k by omega] at this
    simp [Tr.noneB, noneB_of hl, noneB_of hr, h0]
theorem trEq_of : ∀ {t t' : Tr AObj}, (∀ k, objEq (t.get k) (t'.get k) = true) → trEq t t' = true
  | .e, t', h => by
    cases t' <;> exact noneB_of fun k => objEq_none (by have := h k; rwa [Tr.get_e] at this)
  | .n l v r, .e, h => noneB_of (t := .n l v r) fun k => objEq_none' (by have := h k; rwa [Tr.get_e] at this)
  | .n l v r, .n l' v' r', h => by
    have h0 : objEq v v' = true := by simpa [Tr.get] using h 0
    have hl : trEq l l' = true := trEq_of fun k => by
      have := h (2 * k + 1)
      simp only [Tr.get] at this
      rwa [if_pos (by simp), if_pos (by simp), show 2 * k / 2 = k by omega] at this
    have hr : trEq r r' = true := trEq_of fun k => by
      have := h (2 * k + 1 + 1)
      simp only [Tr.get] at this
      rwa [if_neg (by simp), if_neg (by simp), show (2 * k + 1) / 2 = k by omega] at this
    simp [trEq, h0, hl, hr]
theorem tmMeet_get : ∀ {t t' : Tr AV} {d : Nat} {v : AV}, t.get d = some v → t'.get d = some v → (tmMeet t t').get d = some v
  | .e, _, d, v, h, _ => by simp [Tr.get] at h
  | .n _ _ _, .e, d, v, _, h => by simp [Tr.get] at h
  | .n l x r, .n l' x' r', 0, v, h, h' => by
    simp only [Tr.get] at h h'
    simp only [tmMeet, Tr.get, h, h', AV.beq_refl, if_true]
  | .n l x r, .n l' x' r', d + 1, v, h, h' => by
    simp only [Tr.get] at h h'
    simp only [tmMeet, Tr.get]
    split
    · rename_i q
      rw [if_pos q] at h h'
      exact tmMeet_get h h'
    · rename_i q
      rw [if_neg q] at h h'
      exact tmMeet_get h h'
theorem meetR_ex : ∀ (l : List (Option (XE × St))) (s : St) (P : St → Prop), P s → (∀ q ∈ l, ∃ s', q = some (.normal, s') ∧ P s') → (∀ s s', P s → P s' → trEq s.H.m s'.H.m = true) →
    ∀ s0 : St, s0.H.m = s.H.m → s.H.next ≤ s0.H.next → (∀ d v, (∀ t, P t → t.tm.get d = some v) → s0.tm.get d = some v) →
    ∃ s1, meetR .normal s0 l = some (.normal, s1) ∧ s1.H.m = s.H.m ∧ s.H.next ≤ s1.H.next ∧ ∀ d v, (∀ t, P t → t.tm.get d = some v) → s1.tm.get d = some v
  | [], s, P, hs, _, _, s0, h1, h2, h3 => ⟨s0, rfl, h1, h2, h3⟩
  | q :: l, s, P, hs, hl, ht, s0, h1, h2, h3 => by
    obtain ⟨s', rfl, hs'⟩ := hl q (by simp)
    obtain ⟨s1, q1, q2, q3, q4⟩ := meetR_ex l s P hs (fun q hq => hl q (by simp [hq])) ht ⟨tmMeet s0.tm s'.tm, ⟨s0.H.m, Nat.max s0.H.next s'.H.next⟩⟩ h1 (Nat.le_trans h2 (Nat.le_max_left _ _)) (fun d v hd => tmMeet_get (h3 d v hd) (hd s' hs'))
    refine ⟨s1, ?_, q2, q3, q4⟩
    have e : (XE.beq .normal .normal && trEq s0.H.m s'.H.m) = true := by rw [h1, ht s s' hs hs']; rfl
    rw [meetR, if_pos e]
    exact q1
theorem meetAll_ex {l : List (Option (XE × St))} {P : St → Prop} (hne : l ≠ []) (hl : ∀ q ∈ l, ∃ s', q = some (.normal, s') ∧ P s') (ht : ∀ s s', P s → P s' → trEq s.H.m s'.H.m = true) :
    ∃ s s1, P s ∧ meetAll l = some (.normal, s1) ∧ s1.H.m = s.H.m ∧ s.H.next ≤ s1.H.next ∧ ∀ d v, (∀ t, P t → t.tm.get d = some v) → s1.tm.get d = some v := by
  cases l with
  | nil => exact absurd rfl hne
  | cons q l =>
    obtain ⟨s, rfl, hs⟩ := hl q (by simp)
    obtain ⟨s1, h⟩ := meetR_ex l s P hs (fun q hq => hl q (by simp [hq])) ht s rfl (Nat.le_refl _) (fun d v hd => hd s hs)
    exact ⟨s, s1, hs, h⟩
def notIn (a b : Nat) (l : KL0) : Bool := l.all fun p => !(Nat.beq p.1 a) && !(Nat.beq p.1 b)
theorem look_ne {l : KL0} {a b d : Nat} {v : AV} (h : notIn a b l = true) (hd : look l d = some v) : d ≠ a ∧ d ≠ b := by
  induction l with
  | nil => cases hd
  | cons p l ih =>
    obtain ⟨e, u⟩ := p
    simp only [notIn, List.all_cons, Bool.and_eq_true, Bool.not_eq_true'] at h
    unfold look at hd
    split at hd
    · rename_i q
      have : d = e := by simpa using q
      subst this
      obtain ⟨⟨h1, h2⟩, _⟩ := h
      exact ⟨fun w => by subst w; simp at h1, fun w => by subst w; simp at h2⟩
    · exact ih (by unfold notIn; exact h.2) hd
theorem Kw.drop {tm : Tr AV} {l : KL0} {a b : Nat} (h : Kw tm l) (hn : notIn a b l = true) : Kw ((tm.set a none).set b none) l := fun d v hd => by
  obtain ⟨h1, h2⟩ := look_ne hn hd
  rw [Tr.get_set_ne _ _ h2, Tr.get_set_ne _ _ h1]
  exact h d v hd
section
variable {cf : CF} {fuel : Nat}
theorem mrun_ex {i it t tl nx mo out : Nat} {rnd : AV × AV → St → Option (XE × St)} {es : List (AV × AV)} (L : List (AV × AV) → KL0) (I : List (AV × AV) → AHeap → Prop)
    (hlk : ∀ done H, I done H → isLock tl (H.get i) = true) (hit : ∀ done, look (L done) it = some (.ptr t 0)) (hnm : ∀ done, notIn nx mo (L done) = true)
    (hstep : ∀ done e todo, (done ++ e :: todo).Perm es → ∀ s, Kw s.tm (L done) → I done s.H → ∃ s', rnd e s = some (.normal, s') ∧ Kw s'.tm (L (done ++ [e])) ∧ I (done ++ [e]) s'.H) :
    ∀ (todo done : List (AV × AV)) (s : St), (done ++ todo).Perm es → Kw s.tm (L done) → I done s.H →
      ∃ s', mrun (fun s => isLock tl (s.H.get i) && isIt t (s.tm.get it)) (fun s => ⟨(s.tm.set nx none).set mo none, s.H⟩) rnd out todo s = some (.normal, s') ∧ Kw s'.tm (L (done ++ todo)) ∧ I (done ++ todo) s'.H
  | [], done, s, hp, hk, hI => by
    have hok : (isLock tl (s.H.get i) && isIt t (s.tm.get it)) = true := by rw [hlk done _ hI, hk _ _ (hit done)]; simp [isIt]
    refine ⟨⟨(s.tm.set nx none).set mo none, s.H⟩, by simp only [mrun, hok, if_true], ?_, by simpa using hI⟩
    rw [List.append_nil]
    exact hk.drop (hnm done)
  | e :: todo, done, s, hp, hk, hI => by
    have hok : (isLock tl (s.H.get i) && isIt t (s.tm.get it)) = true := by rw [hlk done _ hI, hk _ _ (hit done)]; simp [isIt]
    obtain ⟨s1, h1, h2, h3⟩ := hstep done e todo hp s hk hI
    obtain ⟨s', q1, q2, q3⟩ := mrun_ex L I hlk hit hnm hstep todo (done ++ [e]) s1 (by simpa using hp) h2 h3
    refine ⟨s', ?_, by simpa using q2, by simpa using q3⟩
    simp only [mrun, hok, if_true, h1]
    exact q1
theorem mrounds_ex {i it t tl nx mo out : Nat} {rnd : AV × AV → St → Option (XE × St)} {es : List (AV × AV)} {s : St} (L : List (AV × AV) → KL0) (I : List (AV × AV) → AHeap → Prop) (Lf : KL0)
    (hlk : ∀ done H, I done H → isLock tl (H.get i) = true) (hit : ∀ done, look (L done) it = some (.ptr t 0)) (hnm : ∀ done, notIn nx mo (L done) = true)
    (hstep : ∀ done e todo, (done ++ e :: todo).Perm es → ∀ s, Kw s.tm (L done) → I done s.H → ∃ s', rnd e s = some (.normal, s') ∧ Kw s'.tm (L (done ++ [e])) ∧ I (done ++ [e]) s'.H)
    (h0 : Kw s.tm (L [])) (hI0 : I [] s.H) (hmeet : ∀ r r' H H', r.Perm es → r'.Perm es → I r H → I r' H' → ∀ k, objEq (H.get k) (H'.get k) = true) (hf : ∀ r, r.Perm es → Sub (L r) Lf) :
    ∃ r H1 s1, r.Perm es ∧ I r H1 ∧ mrounds i it t tl nx mo out rnd es s = some (.normal, s1) ∧ s1.H.m = H1.m ∧ H1.next ≤ s1.H.next ∧ Kw s1.tm Lf := by
  have hall : ∀ q ∈ (permsL es).map (fun r => mrun (fun s => isLock tl (s.H.get i) && isIt t (s.tm.get it)) (fun s => ⟨(s.tm.set nx none).set mo none, s.H⟩) rnd out r s), ∃ s', q = some (.normal, s') ∧ ∃ r, r.Perm es ∧ Kw s'.tm (L r) ∧ I r s'.H := by
    intro q hq
    obtain ⟨r, hr, rfl⟩ := List.mem_map.1 hq
    obtain ⟨s', h1, h2, h3⟩ := mrun_ex (out := out) L I hlk hit hnm hstep r [] s (by simpa using permsL_mem hr) h0 hI0
    exact ⟨s', h1, r, permsL_mem hr, by simpa using h2, by simpa using h3⟩
  obtain ⟨s0, s1, ⟨r, p1, p2, p3⟩, q1, q2, q3, q4⟩ := meetAll_ex (P := fun s' => ∃ r, r.Perm es ∧ Kw s'.tm (L r) ∧ I r s'.H) (by
    intro w
    have := List.map_eq_nil_iff.1 w
    have hm := perms_mem (List.Perm.refl es)
    rw [this] at hm
    cases hm) hall (fun s s' ⟨r, a1, _, a3⟩ ⟨r', b1, _, b3⟩ => trEq_of (hmeet r r' _ _ a1 b1 a3 b3))
  exact ⟨r, s0.H, s1, p1, p3, q1, q2, q3, fun d v hd => q4 d v fun t ⟨r, a1, a2, _⟩ => a2 d v (hf r a1 d v hd)⟩
theorem WKO.use {ops : List XOper} {n : Nat} {l : KL0} {H : AHeap} {R : KL0 → AHeap → Prop} (h : WKO cf ops n l H R) {tm : Tr AV} (ht : Kw tm l) : ∃ s', xops cf ops n ⟨tm, H⟩ = some s' ∧ ∃ l', Kw s'.tm l' ∧ R l' s'.H := by
  unfold WKO at h
  have := h tm ht
  unfold WO at this
  exact this
theorem WK.use {c : XCode} {l : KL0} {H : AHeap} {Q : XE → KL0 → AHeap → Prop} (h : WK cf fuel c l H Q) {tm : Tr AV} (ht : Kw tm l) : ∃ e s', xcode cf fuel c ⟨tm, H⟩ = some (e, s') ∧ ∃ l', Kw s'.tm l' ∧ Q e l' s'.H := by
  unfold WK at h
  have := h tm ht
  unfold W at this
  exact this
def rndF (cf : CF) (fuel : Nat) (nx mo pr nb : Nat) (rest : List XOper) (code : XCode) (e : AV × AV) (s : St) : Option (XE × St) :=
  match xops cf rest (s.H.next + 1) (Go.Eng.bump ⟨((s.tm.set nx none).set mo none).set pr (some (.tup [e.1, e.2])), s.H⟩ (rest.length + 1)) with
  | none => none
  | some s2 => match xcode cf fuel code s2 with
    | some (.exit i, s3) => if i = nb then some (.normal, s3) else some (.exit i, s3)
    | r => r
theorem rnd_ex {nx mo pr nb k : Nat} {rest : List XOper} {code : XCode} {e : AV × AV} {s : St} {L : KL0} {Q : KL0 → AHeap → Prop} (hk : Kw s.tm L) (hnm : notIn nx mo L = true) (hlen : rest.length + 1 = k)
    (h : WKO cf rest (s.H.next + 1) ((pr, .tup [e.1, e.2]) :: L) (s.H.bump k) fun l3 H3 => WK cf fuel code l3 H3 fun x l4 H4 => (x = .normal ∨ x = .exit nb) ∧ Q l4 H4) :
    ∃ s', rndF cf fuel nx mo pr nb rest code e s = some (.normal, s') ∧ ∃ l4, Kw s'.tm l4 ∧ Q l4 s'.H := by
  subst hlen
  obtain ⟨s2, q1, l3, q2, q3⟩ := h.use ((hk.drop hnm).set pr _)
  obtain ⟨x, s3, r1, l4, r2, r3, r4⟩ := q3.use q2
  refine ⟨s3, ?_, l4, r2, r4⟩
  have q1' : xops cf rest (s.H.next + 1) (Go.Eng.bump ⟨((s.tm.set nx none).set mo none).set pr (some (.tup [e.1, e.2])), s.H⟩ (rest.length + 1)) = some s2 := q1
  have r1' : xcode cf fuel code s2 = some (x, s3) := r1
  unfold rndF
  simp only [q1', r1']
  rcases r3 with rfl | rfl <;> simp
theorem WK.mrange {pre rest : List XOper} {it : Nat} {m : XO} {out nx mo nb pr k k' : Nat} {code : XCode} {l : KL0} {H : AHeap} {Q : XE → KL0 → AHeap → Prop} (hlen : pre.length + 1 = k) (hlen' : rest.length + 1 = k')
    (h : WKO cf pre H.next l (H.bump k) fun l1 H1 => ∃ (i : Nat) (es : List (AV × AV)) (L : List (AV × AV) → KL0) (I : List (AV × AV) → AHeap → Prop) (Lf : KL0), evK l1 m = some (.map i) ∧ H1.get i = some (.map es) ∧
      Sub ((it, .ptr H1.next 0) :: l1) (L []) ∧ I [] ⟨H1.m.set i (some (.lmap es H1.next)), H1.next + 1⟩ ∧
      (∀ done H2, I done H2 → H2.get i = some (.lmap es H1.next)) ∧ (∀ done, look (L done) it = some (.ptr H1.next 0)) ∧ (∀ done, notIn nx mo (L done) = true) ∧
      (∀ done e todo, (done ++ e :: todo).Perm es → ∀ H2, I done H2 → WKO cf rest (H2.next + 1) ((pr, .tup [e.1, e.2]) :: L done) (H2.bump k') fun l3 H3 => WK cf fuel code l3 H3 fun x l4 H4 => (x = .normal ∨ x = .exit nb) ∧ Sub l4 (L (done ++ [e])) ∧ I (done ++ [e]) H4) ∧
      (∀ r r' H2 H3, r.Perm es → r'.Perm es → I r H2 → I r' H3 → ∀ j, objEq (H2.get j) (H3.get j) = true) ∧ (∀ r, r.Perm es → Sub (L r) Lf) ∧
      (∀ r H2 H3, r.Perm es → I r H2 → (∀ j, H3.get j = if j = i then some (.map es) else H2.get j) → H2.next ≤ H3.next → Q .normal Lf H3)) :
    WK cf fuel (.mrange pre it m out nx mo nb pr rest code) l H Q := by
  subst hlen
  unfold WK
  intro tm ht
  obtain ⟨s1, q1, l1, q2, i, es, L, I, Lf, hm, hi, hs0, hI0, hlk, hit, hnm, hstep, hmeet, hf, hQ⟩ := h.use ht
  obtain ⟨r, H1, s2, p1, p2, p3, p4, p5, p6⟩ := mrounds_ex (out := out) (i := i) (t := s1.H.next) (tl := s1.H.next) (rnd := rndF cf fuel nx mo pr nb rest code) (s := ⟨s1.tm.set it (some (.ptr s1.H.next 0)), ⟨s1.H.m.set i (some (.lmap es s1.H.next)), s1.H.next + 1⟩⟩) L I Lf
    (fun done H2 q => by rw [hlk done H2 q]; simp [isLock]) hit hnm (fun done e todo hp s hk hI => by
      obtain ⟨s', a1, l4, a2, a3, a4⟩ := rnd_ex hk (hnm done) hlen' (hstep done e todo hp s.H hI)
      exact ⟨s', a1, a2.sub a3, a4⟩) ((q2.set it _).sub hs0) hI0 hmeet hf
  have hget : s2.H.get i = some (.lmap es s1.H.next) := by
    unfold AHeap.get
    rw [p4]
    exact hlk r H1 p2
  unfold W
  refine ⟨.normal, ⟨s2.tm, s2.H.set i (some (.map es))⟩, ?_, Lf, p6, hQ r H1 _ p1 p2 (fun j => ?_) p5⟩
  · have q1' : xops cf pre H.next (Go.Eng.bump ⟨tm, H⟩ (pre.length + 1)) = some s1 := q1
    have p3' : mrounds i it s1.H.next s1.H.next nx mo out (fun (e : AV × AV) (s : St) =>
        match xops cf rest (s.H.next + 1) (Go.Eng.bump ⟨((s.tm.set nx none).set mo none).set pr (some (.tup [e.1, e.2])), s.H⟩ (rest.length + 1)) with
        | none => none
        | some s2 => match xcode cf fuel code s2 with
          | some (.exit i, s3) => if i = nb then some (.normal, s3) else some (.exit i, s3)
          | r => r) es ⟨s1.tm.set it (some (.ptr s1.H.next 0)), ⟨s1.H.m.set i (some (.lmap es s1.H.next)), s1.H.next + 1⟩⟩ = some (.normal, s2) := p3
    simp only [xcode, q1', q2.ev hm, hi]
    refine (congrArg (fun z => z.bind (unlockA i s1.H.next)) p3').trans ?_
    show unlockA i s1.H.next (.normal, s2) = _
    simp only [unlockA, hget, if_true]
  · rw [AHeap.get_set]
    split
    · rfl
    · unfold AHeap.get
      rw [p4]
end
end Go.Eng
namespace Go.Eng
structure HF (H0 : AHeap) (mod : List Nat) (T : Nat) (fs : List (Nat × AObj)) (H : AHeap) : Prop where
  obj : ∀ p ∈ fs, H.get p.1 = some p.2
  lt : ∀ p ∈ fs, p.1 < T
  nd : (fs.map (·.1)).Nodup
  base : H0.next ≤ T
  le : T ≤ H.next
  fr : ∀ k, k < H0.next → k ∉ mod → H.get k = H0.get k
section
variable {cf : CF} {n : Nat} {H0 H H' : AHeap} {mod : List Nat} {T : Nat} {fs : List (Nat × AObj)} {l : KL0} {x y : XO} {r : List XOper} {R : KL0 → AHeap → Prop}
theorem HF.up (h : HF H0 mod T fs H) (hm : H'.m = H.m) (hn : H.next ≤ H'.next) : HF H0 mod T fs H' := by
  have hg : ∀ k, H'.get k = H.get k := fun k => by unfold AHeap.get; rw [hm]
  exact ⟨fun p hp => (hg _).trans (h.obj p hp), h.lt, h.nd, h.base, Nat.le_trans h.le hn, fun k h1 h2 => (hg k).trans (h.fr k h1 h2)⟩
theorem HF.sub {gs : List (Nat × AObj)} {T' : Nat} (h : HF H0 mod T fs H) (hs : gs.Sublist fs) (hT : T ≤ T') (hn : T' ≤ H.next) : HF H0 mod T' gs H :=
  ⟨fun p hp => h.obj p (hs.subset hp), fun p hp => Nat.lt_of_lt_of_le (h.lt p (hs.subset hp)) hT, h.nd.sublist (hs.map _), Nat.le_trans h.base hT, hn, h.fr⟩
theorem HF.call {mod' : List Nat} (h : HF H0 mod T fs H) (hf : ∀ k, k < H.next → k ∉ mod' → H'.get k = H.get k) (hn : H.next ≤ H'.next) (hm : ∀ k, k ∈ mod' → k ∈ mod ∨ H0.next ≤ k) (hd : ∀ p ∈ fs, p.1 ∉ mod') : HF H0 mod T fs H' :=
  ⟨fun p hp => (hf _ (Nat.lt_of_lt_of_le (h.lt p hp) h.le) (hd p hp)).trans (h.obj p hp), h.lt, h.nd, h.base, Nat.le_trans h.le hn, fun k h1 h2 => (hf k (Nat.lt_of_lt_of_le h1 (Nat.le_trans h.base h.le)) (fun w => by
    rcases hm k w with w | w
    · exact h2 w
    · omega)).trans (h.fr k h1 h2)⟩
theorem HF.add {i : Nat} {o : AObj} (h : HF H0 mod T fs H) (hg : H.get i = some o) (hi : i < T) (hn : i ∉ fs.map (·.1)) : HF H0 mod T ((i, o) :: fs) H where
  obj := fun p hp => by
    rcases List.mem_cons.1 hp with rfl | hp
    · exact hg
    · exact h.obj p hp
  lt := fun p hp => by
    rcases List.mem_cons.1 hp with rfl | hp
    · exact hi
    · exact h.lt p hp
  nd := by rw [List.map_cons, List.nodup_cons]; exact ⟨hn, h.nd⟩
  base := h.base
  le := h.le
  fr := h.fr
theorem HF.new {o : AObj} {H1 : AHeap} (h : HF H0 mod T fs H) (hT : T ≤ n) (hn : n < H1.next) (h1 : H1.get n = some o) (h2 : ∀ k, k ≠ n → H1.get k = H.get k) : HF H0 mod (n + 1) ((n, o) :: fs) H1 where
  obj := fun p hp => by
    rcases List.mem_cons.1 hp with rfl | hp
    · exact h1
    · rw [h2 _ (by have := h.lt p hp; omega)]; exact h.obj p hp
  lt := fun p hp => by
    rcases List.mem_cons.1 hp with rfl | hp
    · exact Nat.lt_succ_self _
    · have := h.lt p hp; omega
  nd := by
    rw [List.map_cons, List.nodup_cons]
    refine ⟨fun w => ?_, h.nd⟩
    obtain ⟨p, hp, e⟩ := List.mem_map.1 w
    have := h.lt p hp
    simp only at e
    omega
  base := by have := h.base; omega
  le := hn
  fr := fun k hk hm => (h2 k (by have := h.base; omega)).trans (h.fr k hk hm)
theorem HF.put {gs : List (Nat × AObj)} {i : Nat} {o o' : AObj} {H1 : AHeap} (h : HF H0 mod T (gs ++ (i, o) :: fs) H) (hi : i ∈ mod ∨ H0.next ≤ i) (hn : H1.next = H.next) (h1 : H1.get i = some o') (h2 : ∀ k, k ≠ i → H1.get k = H.get k) : HF H0 mod T (gs ++ (i, o') :: fs) H1 where
  obj := fun p hp => by
    have hnd := h.nd
    rw [List.map_append, List.map_cons, List.nodup_append] at hnd
    obtain ⟨_, nd2, nd3⟩ := hnd
    rw [List.nodup_cons] at nd2
    rcases List.mem_append.1 hp with hp | hp
    · rw [h2 _ (fun e => nd3 _ (List.mem_map.2 ⟨p, hp, rfl⟩) _ (List.mem_cons_self ..) e)]
      exact h.obj p (List.mem_append.2 (.inl hp))
    · rcases List.mem_cons.1 hp with rfl | hp
      · exact h1
      · rw [h2 _ (fun e => nd2.1 (List.mem_map.2 ⟨p, hp, e⟩))]
        exact h.obj p (List.mem_append.2 (.inr (List.mem_cons_of_mem _ hp)))
  lt := fun p hp => by
    rcases List.mem_append.1 hp with hp | hp
    · exact h.lt p (List.mem_append.2 (.inl hp))
    · rcases List.mem_cons.1 hp with rfl | hp
      · exact h.lt (i, o) (List.mem_append.2 (.inr (List.mem_cons_self ..)))
      · exact h.lt p (List.mem_append.2 (.inr (List.mem_cons_of_mem _ hp)))
  nd := by
    have := h.nd
    rwa [List.map_append, List.map_cons] at this ⊢
  base := h.base
  le := by rw [hn]; exact h.le
  fr := fun k hk hm => (h2 k (fun e => by
    subst e
    rcases hi with hi | hi
    · exact hm hi
    · omega)).trans (h.fr k hk hm)
theorem k_ldO {i p : Nat} {c : List AV} {opn : Option Nat} {v : AV} (hx : evK l x = some (.ptr i p)) (hF : HF H0 mod T fs H) (hm : H'.m = H.m) (ho : (i, .cells c opn) ∈ fs) (hc : c[p]? = some v) : XV cf l H' n (.load none x) = some (v, H') :=
  k_any (op_loadc hx (by unfold AHeap.get; rw [hm]; exact hF.obj _ ho) hc)
theorem k_ldA {i m : Nat} {c : List AV} {opn : Option Nat} (hx : evK l x = some (.ptr i 0)) (hF : HF H0 mod T fs H) (hm : H'.m = H.m) (ho : (i, .cells c opn) ∈ fs) (hc : c.length = m) : XV cf l H' n (.load (some m) x) = some (.agg c, H') := by
  have hg : H'.get i = some (.cells c opn) := by unfold AHeap.get; rw [hm]; exact hF.obj _ ho
  have := op_loadn (cf := cf) (m := n) (n := m) (i := i) (o := 0) (ev := evK l) (x := x) hx hg (by omega)
  rw [List.drop_zero, List.take_of_length_le (by omega)] at this
  exact k_any this
theorem WKO.newO {d : Nat} {op : XOp} {v : AV} {o : AObj} (hop : xval cf (evK l) H' n op = some (v, H'.set n (some o))) (ha : allSm l op.opnds = true) (hF : HF H0 mod T fs H) (hm : H'.m = H.m) (hn : H.next ≤ H'.next) (hT : T ≤ n) (hlt : n < H'.next)
    (k : ∀ H1, HF H0 mod (n + 1) ((n, o) :: fs) H1 → H1.next = H'.next → WKO cf r (n + 1) ((d, v) :: l) H1 R) : WKO cf (⟨some d, op, none⟩ :: r) n l H' R :=
  WKO.op (k_any hop) ha (k (H'.set n (some o)) ((hF.up hm hn).new hT (by rw [next_set]; exact hlt) (by rw [AHeap.get_set, if_pos rfl]) (fun k hk => by rw [AHeap.get_set, if_neg hk])) rfl)
theorem WKO.boxO {d : Nat} {v : AV} (hx : evK l x = some v) (hF : HF H0 mod T fs H) (hm : H'.m = H.m) (hn : H.next ≤ H'.next) (hT : T ≤ n) (hlt : n < H'.next)
    (k : ∀ H1, HF H0 mod (n + 1) ((n, .cells v.cells none) :: fs) H1 → H1.next = H'.next → WKO cf r (n + 1) ((d, .ptr n 0) :: l) H1 R) : WKO cf (⟨some d, .box x, none⟩ :: r) n l H' R :=
  WKO.newO (op := .box x) (by simp only [xval, xop, hx]) (by simp [allSm, XOp.opnds, hx]) hF hm hn hT hlt k
theorem WKO.alO {d : Nat} {z : List AV} (hF : HF H0 mod T fs H) (hm : H'.m = H.m) (hn : H.next ≤ H'.next) (hT : T ≤ n) (hlt : n < H'.next)
    (k : ∀ H1, HF H0 mod (n + 1) ((n, .cells z none) :: fs) H1 → H1.next = H'.next → WKO cf r (n + 1) ((d, .ptr n 0) :: l) H1 R) : WKO cf (⟨some d, .alloc z, none⟩ :: r) n l H' R :=
  WKO.newO (op := .alloc z) (by simp only [xval, xop]) rfl hF hm hn hT hlt k
theorem WKO.bsO {d m : Nat} {z new : List AV} {ps : List (Nat × Nat × XO)} (hps : (evParts (evK l) ps).bind (fillA (List.replicate m z).flatten) = some new) (ha : allSm l (XOp.bslice z ps m).opnds = true) (hF : HF H0 mod T fs H) (hm : H'.m = H.m) (hn : H.next ≤ H'.next) (hT : T ≤ n) (hlt : n < H'.next)
    (k : ∀ H1, HF H0 mod (n + 1) ((n, .cells new none) :: fs) H1 → H1.next = H'.next → WKO cf r (n + 1) ((d, .sl n 0 m m) :: l) H1 R) : WKO cf (⟨some d, .bslice z ps m, none⟩ :: r) n l H' R :=
  WKO.newO (op := .bslice z ps m) (by simp only [xval, xop, hps]) ha hF hm hn hT hlt k
theorem WKO.stG {gs : List (Nat × AObj)} {i p m : Nat} {c : List AV} {opn : Option Nat} {v : AV} {a x : XO} (ha : evK l a = some (.ptr i p)) (hx : evK l x = some v) (hF : HF H0 mod T (gs ++ (i, .cells c opn) :: fs) H) (hm : H'.m = H.m) (hn : H.next ≤ H'.next) (hi : i ∈ mod ∨ H0.next ≤ i) (hl : v.cells.length = m) (h1 : v.cells.all AV.oneCell = true) (hf : p + m ≤ c.length)
    (k : ∀ H1, HF H0 mod T (gs ++ (i, .cells (overA c p v.cells) opn) :: fs) H1 → H1.next = H'.next → WKO cf r (n + 1) l H1 R) : WKO cf (⟨none, .store m a x, none⟩ :: r) n l H' R := by
  have hF' := hF.up hm hn
  unfold WKO at k ⊢
  intro tm ht
  exact WO.store (ht.ev ha) (ht.ev hx) (hF'.obj (i, _) (List.mem_append.2 (.inr (List.mem_cons_self ..)))) hl h1 hf (fun H1 q1 q2 q3 => k H1 (hF'.put hi q3 q1 q2) q3 tm ht)
theorem WKO.stO0 {i p m : Nat} {c : List AV} {opn : Option Nat} {v : AV} {a x : XO} (ha : evK l a = some (.ptr i p)) (hx : evK l x = some v) (hF : HF H0 mod T ((i, .cells c opn) :: fs) H) (hm : H'.m = H.m) (hn : H.next ≤ H'.next) (hi : i ∈ mod ∨ H0.next ≤ i) (hl : v.cells.length = m) (h1 : v.cells.all AV.oneCell = true) (hf : p + m ≤ c.length)
    (k : ∀ H1, HF H0 mod T ((i, .cells (overA c p v.cells) opn) :: fs) H1 → H1.next = H'.next → WKO cf r (n + 1) l H1 R) : WKO cf (⟨none, .store m a x, none⟩ :: r) n l H' R :=
  WKO.stG (gs := []) ha hx hF hm hn hi hl h1 hf k
theorem WKO.stW0 {i m : Nat} {c vs : List AV} {opn : Option Nat} {v : AV} {a x : XO} (ha : evK l a = some (.ptr i 0)) (hx : evK l x = some v) (hF : HF H0 mod T ((i, .cells c opn) :: fs) H) (hm : H'.m = H.m) (hn : H.next ≤ H'.next) (hi : i ∈ mod ∨ H0.next ≤ i) (hv : v.cells = vs) (hl : vs.length = m) (h1 : vs.all AV.oneCell = true) (hf : c.length = m)
    (k : ∀ H1, HF H0 mod T ((i, .cells vs opn) :: fs) H1 → H1.next = H'.next → WKO cf r (n + 1) l H1 R) : WKO cf (⟨none, .store m a x, none⟩ :: r) n l H' R :=
  WKO.stO0 ha hx hF hm hn hi (by rw [hv]; exact hl) (by rw [hv]; exact h1) (by omega) (fun H1 q => k H1 (by
    have e : overA c 0 v.cells = vs := by
      rw [hv]
      simp only [overA, List.take_zero, List.nil_append, Nat.zero_add]
      rw [List.drop_eq_nil_of_le (by omega), List.append_nil]
    rwa [e] at q))
end
end Go.Eng
namespace Go.Eng
def RowE (z : Nat) (H : AHeap) (v : AV) (l : Nat) (cs : List AV) : Prop :=
  Row z H v l cs ∨ (l = 0 ∧ cs = [] ∧ ∃ i, v = .sl i 0 0 0 ∧ i < H.next ∧ H.get i = some (.cells [] none))
theorem RowE.frame {z : Nat} {H H' : AHeap} {v : AV} {l : Nat} {cs : List AV} (h : RowE z H v l cs) (hn : H.next ≤ H'.next) (hg : ∀ i, v.own = some i → H'.get i = H.get i) : RowE z H' v l cs := by
  rcases h with h | ⟨rfl, rfl, i, rfl, h1, h2⟩
  · exact .inl (h.frame hn hg)
  · exact .inr ⟨rfl, rfl, i, rfl, by omega, (hg i rfl).trans h2⟩
theorem RowE.len {z : Nat} {H : AHeap} {v : AV} {l : Nat} {cs : List AV} (h : RowE z H v l cs) : lenA v = some l := by
  rcases h with h | ⟨rfl, rfl, i, rfl, _⟩
  · exact h.len
  · rfl
theorem RowE.own_lt {z : Nat} {H : AHeap} {v : AV} {l : Nat} {cs : List AV} (h : RowE z H v l cs) {i : Nat} (hi : v.own = some i) : i < H.next := by
  rcases h with h | ⟨rfl, rfl, j, rfl, h1, _⟩
  · exact h.own_lt hi
  · cases hi; exact h1
theorem RowE.csl {z : Nat} {H : AHeap} {v : AV} {l : Nat} {cs : List AV} (h : RowE z H v l cs) : cs.length = l * z := by
  rcases h with h | ⟨rfl, rfl, _⟩
  · exact h.1
  · simp
theorem RowE.src {z : Nat} {H : AHeap} {v : AV} {l : Nat} {cs : List AV} (h : RowE z H v l cs) : srcA H z l v = some cs := by
  rcases h with ⟨h0, ⟨rfl, rfl⟩ | ⟨i, full, rfl, h1, h2, h3, h4⟩⟩ | ⟨rfl, rfl, i, rfl, h1, h2⟩
  · have : cs = [] := List.eq_nil_of_length_eq_zero (by omega)
    subst this
    rfl
  · simp only [srcA, h1]
    rw [if_pos (by omega), List.drop_zero, h2]
  · simp only [srcA, h2]
    rw [if_pos (by simp)]
    simp
theorem RowE.nstr {z : Nat} {H : AHeap} {v : AV} {l : Nat} {cs : List AV} (h : RowE z H v l cs) : ∀ s, v ≠ .str s := by
  rcases h with ⟨_, ⟨rfl, rfl⟩ | ⟨i, full, rfl, _⟩⟩ | ⟨rfl, rfl, i, rfl, _⟩ <;> intro s q <;> cases q
theorem RowE.app {z bytes : Nat} {H : AHeap} {v y : AV} {l n : Nat} {cs new : List AV} (h : RowE z H v l cs) (hz : 0 < z) (hl : l + n ≤ 2 ^ 30) (hn : 0 < n) (hb : bytes ≤ 2 ^ 16) (hy : lenA y = some n) (hs : srcA H z n y = some new) (hnl : new.length = n * z) (ho : new.all AV.oneCell = true) :
    ∃ v' H', appA H z bytes v y = .eff v' H' ∧ Row z H' v' (l + n) (cs ++ new) ∧ H.next ≤ H'.next ∧ (∀ j, j < H.next → v.own ≠ some j → H'.get j = H.get j) ∧ (∀ i, v'.own = some i → v.own = some i ∨ H.next ≤ i) := by
  rcases h with h | ⟨rfl, rfl, i, rfl, h1, h2⟩
  · exact h.app hz hl hn hb hy hs hnl ho
  · refine ⟨.sl H.next 0 (0 + n) openCap, H.add (.cells new (some z)), ?_, ⟨by simp [hnl], .inr ⟨H.next, new, rfl, ?_, ?_, ?_, ?_⟩⟩, by simp only [next_add]; omega, fun j hj _ => ?_, fun j hj => ?_⟩
    · unfold appA
      rw [hy]
      simp only [hs, ho, Bool.not_true, Bool.false_eq_true, false_or]
      rw [if_neg (by omega)]
      simp only [h2]
      rw [if_neg (by omega), if_neg (by omega), if_neg (by simp), if_pos (by unfold openAt; omega), if_neg (by omega)]
      simp
    · rw [AHeap.get_add, if_pos rfl]
    · simp only [List.nil_append]
      rw [Nat.zero_add, List.take_of_length_le (by omega)]
    · rw [Nat.zero_add]; omega
    · simp only [next_add]; omega
    · rw [AHeap.get_add, if_neg (by omega)]
    · cases hj
      exact .inr (Nat.le_refl _)
theorem WO.append1E {cf : CF} {d1 d2 z bytes n l : Nat} {x : XO} {zs : List AV} {ps : List (Nat × Nat × XO)} {r : List XOper} {tm : Tr AV} {H : AHeap} {Q : St → Prop} {v : AV} {cs new : List AV}
    (hR : RowE z H v l cs) (hx : St.ev (tm.set d1 (some (.sl n 0 1 1))) x = some v) (hps : (evParts (St.ev tm) ps).bind (fillA (List.replicate 1 zs).flatten) = some new) (hz : 0 < z) (hl : l + 1 ≤ 2 ^ 30) (hb : bytes ≤ 2 ^ 16) (hnl : new.length = z) (ho : new.all AV.oneCell = true)
    (hn : n < H.next) (hf : v.own ≠ some n)
    (k : ∀ v' H1, Row z H1 v' (l + 1) (cs ++ new) → H.next ≤ H1.next → (∀ j, j < H.next → j ≠ n → v.own ≠ some j → H1.get j = H.get j) → (∀ i, v'.own = some i → v.own = some i ∨ H.next ≤ i) →
      WO cf r (n + 1 + 1) ⟨(tm.set d1 (some (.sl n 0 1 1))).set d2 (some v'), H1⟩ Q) :
    WO cf (⟨some d1, .bslice zs ps 1, none⟩ :: ⟨some d2, .app z bytes x (.t d1), none⟩ :: r) n ⟨tm, H⟩ Q := by
  have hR1 : RowE z (H.set n (some (.cells new none))) v l cs := hR.frame (Nat.le_refl _) (fun i hi => by rw [AHeap.get_set, if_neg (by intro e; rw [e] at hi; exact hf hi)])
  have hsrc : srcA (H.set n (some (.cells new none))) z 1 (.sl n 0 1 1) = some new := by
    simp only [srcA, AHeap.get_set, if_true, hnl, Nat.one_mul, Nat.zero_add, Nat.le_refl, List.drop_zero]
    rw [List.take_of_length_le (by omega)]
  obtain ⟨v', H1, h1, h2, h3, h4, h5⟩ := hR1.app (bytes := bytes) hz hl (by omega) hb (y := .sl n 0 1 1) rfl hsrc (by omega) ho
  refine WO.op (v := .sl n 0 1 1) (H1 := H.set n (some (.cells new none))) ?_ (WO.op (v := v') (H1 := H1) ?_ (k v' H1 h2 h3 (fun j hj hjn hjo => ?_) h5))
  · simp only [xval, xop, hps]
  · simp only [xval, xop, hx, ev_t, Tr.get_set_self, h1]
  · rw [h4 j hj hjo, AHeap.get_set, if_neg hjn]
theorem WO.appE {cf : CF} {d z bytes n m l : Nat} {x y : XO} {r : List XOper} {tm : Tr AV} {H : AHeap} {Q : St → Prop} {v : AV} {cs new : List AV} (hR : RowE z H v l cs) (hx : St.ev tm x = some v) (hy : St.ev tm y = some (.sl m 0 1 1)) (hm : H.get m = some (.cells new none))
    (hz : 0 < z) (hl : l + 1 ≤ 2 ^ 30) (hb : bytes ≤ 2 ^ 16) (hnl : new.length = z) (ho : new.all AV.oneCell = true)
    (k : ∀ v' H1, Row z H1 v' (l + 1) (cs ++ new) → H.next ≤ H1.next → (∀ j, j < H.next → v.own ≠ some j → H1.get j = H.get j) → (∀ i, v'.own = some i → v.own = some i ∨ H.next ≤ i) → WO cf r (n + 1) ⟨tm.set d (some v'), H1⟩ Q) :
    WO cf (⟨some d, .app z bytes x y, none⟩ :: r) n ⟨tm, H⟩ Q := by
  have hsrc : srcA H z 1 (.sl m 0 1 1) = some new := by
    simp only [srcA, hm, hnl, Nat.one_mul, Nat.zero_add, Nat.le_refl, List.drop_zero, if_true]
    rw [List.take_of_length_le (by omega)]
  obtain ⟨v', H1, h1, h2, h3, h4, h5⟩ := hR.app (bytes := bytes) hz hl (by omega) hb (y := .sl m 0 1 1) rfl hsrc (by omega) ho
  exact WO.op (v := v') (H1 := H1) (by simp only [xval, xop, hx, hy, h1]) (k v' H1 h2 h3 h4 h5)
theorem WO.named {cf : CF} {ops : List XOper} {n : Nat} {tm : Tr AV} {H : AHeap} {Q : St → Prop} (h : ∀ HX, HX = H → WO cf ops n ⟨tm, HX⟩ Q) : WO cf ops n ⟨tm, H⟩ Q := h H rfl
theorem W.named {cf : CF} {fuel : Nat} {c : XCode} {tm : Tr AV} {H : AHeap} {Q : XE → St → Prop} (h : ∀ HX, HX = H → W cf fuel c ⟨tm, HX⟩ Q) : W cf fuel c ⟨tm, H⟩ Q := h H rfl
end Go.Eng
namespace Go.Eng
def Clean (H : AHeap) : Prop := ∀ j, H.next ≤ j → H.get j = none
def CleanTo (H H' : AHeap) : Prop := (Clean H → Clean H') ∧ H.next ≤ H'.next
theorem CleanTo.refl (H : AHeap) : CleanTo H H := ⟨id, Nat.le_refl _⟩
theorem CleanTo.trans {a b c : AHeap} (h : CleanTo a b) (k : CleanTo b c) : CleanTo a c := ⟨fun q => k.1 (h.1 q), Nat.le_trans h.2 k.2⟩
section
end
end Go.Eng
namespace Go.Eng
theorem fresh_of {ops : List XOper} {tr : List St} {base : Nat} {nn : List Nat} (h : ∀ k ∈ nn, ∃ o sk, ops[k]? = some o ∧ tr[k]? = some sk ∧ o.guard = none ∧ ∀ i, i ≤ k → ∃ si, tr[i]? = some si ∧ si.H.get (base + k) = none) : freshOk ops tr base nn = true := by
  unfold freshOk
  rw [List.all_eq_true]
  intro k hk
  obtain ⟨o, sk, h1, h2, h3, h4⟩ := h k hk
  rw [h1, h2]
  simp only
  rw [List.all_eq_true]
  intro i _
  rw [Bool.or_eq_true]
  by_cases hi : k < i
  · left
    have hw : wantedA sk.tm o = some true := by unfold wantedA; rw [h3]
    rw [hw]
    simpa using hi
  · right
    obtain ⟨si, q1, q2⟩ := h4 i (by omega)
    rw [q1]
    simp only
    rw [q2]
    rfl
inductive TrP : List St → List (KL0 × AHeap) → Prop
  | nil : TrP [] []
  | cons {tm : Tr AV} {H : AHeap} {l : KL0} {tr : List St} {ps : List (KL0 × AHeap)} (h : Kw tm l) (t : TrP tr ps) : TrP (⟨tm, H⟩ :: tr) ((l, H) :: ps)
theorem TrP.at {tr : List St} {ps : List (KL0 × AHeap)} (h : TrP tr ps) {i : Nat} {p : KL0 × AHeap} (hp : ps[i]? = some p) : ∃ tm, tr[i]? = some ⟨tm, p.2⟩ ∧ Kw tm p.1 := by
  induction h generalizing i with
  | nil => cases hp
  | cons h t ih =>
    cases i with
    | zero => cases hp; exact ⟨_, rfl, h⟩
    | succ i => exact ih hp
theorem TrP.last {tr : List St} {ps : List (KL0 × AHeap)} (h : TrP tr ps) {p : KL0 × AHeap} (hp : ps.getLast? = some p) : ∃ tm, tr.getLast? = some ⟨tm, p.2⟩ ∧ Kw tm p.1 := by
  induction h with
  | nil => cases hp
  | cons h t ih =>
    cases t with
    | nil => cases hp; exact ⟨_, rfl, h⟩
    | cons h' t' =>
      rw [List.getLast?_cons_cons] at hp ⊢
      exact ih hp
theorem TrP.len {tr : List St} {ps : List (KL0 × AHeap)} (h : TrP tr ps) : tr.length = ps.length := by
  induction h with
  | nil => rfl
  | cons h t ih => simp [ih]
def WKT (cf : CF) (ops : List XOper) (n : Nat) (l : KL0) (H : AHeap) (Q : List (KL0 × AHeap) → Prop) : Prop :=
  ∀ tm, Kw tm l → ∃ tr ps, xtrace cf ops n ⟨tm, H⟩ = some tr ∧ TrP tr ps ∧ Q ps
section
variable {cf : CF} {fuel n : Nat} {l : KL0} {H : AHeap} {Q : List (KL0 × AHeap) → Prop}
theorem WKT.nil (h : Q [(l, H)]) : WKT cf [] n l H Q := fun tm ht => ⟨_, _, rfl, .cons ht .nil, h⟩
theorem WKT.op {d : Nat} {op : XOp} {r : List XOper} {v : AV} {H1 : AHeap} (h : XV cf l H n op = some (v, H1)) (ha : allSm l op.opnds = true) (k : WKT cf r (n + 1) ((d, v) :: l) H1 fun ps => Q ((l, H) :: ps)) : WKT cf (⟨some d, op, none⟩ :: r) n l H Q := fun tm ht => by
  obtain ⟨tr, ps, h1, h2, h3⟩ := k _ (ht.set d v)
  unfold XV at h
  exact ⟨_, _, by simp only [xtrace, xstep, wantedA, (xval_kw ht ha).trans h, putT, h1, Option.map_some], .cons ht h2, h3⟩
theorem WKT.opn {op : XOp} {r : List XOper} {v : AV} {H1 : AHeap} (h : XV cf l H n op = some (v, H1)) (ha : allSm l op.opnds = true) (k : WKT cf r (n + 1) l H1 fun ps => Q ((l, H) :: ps)) : WKT cf (⟨none, op, none⟩ :: r) n l H Q := fun tm ht => by
  obtain ⟨tr, ps, h1, h2, h3⟩ := k _ ht
  unfold XV at h
  exact ⟨_, _, by simp only [xtrace, xstep, wantedA, (xval_kw ht ha).trans h, putT, h1, Option.map_some], .cons ht h2, h3⟩
theorem WKT.callV {d g : Nat} {x : XO} {xs : List XO} {cs av : List AV} {P : AV → AHeap → Prop} {r : List XOper} (hx : evK l x = some (.fn g cs)) (hl : evL (evK l) xs = some av) (ha : allSm l (x :: xs) = true) (h : ∃ v H', cf g (av ++ cs) H = some (v, H') ∧ P v H')
    (k : ∀ v H', P v H' → WKT cf r (n + 1) ((d, v) :: l) H' fun ps => Q ((l, H) :: ps)) : WKT cf (⟨some d, .call x xs, none⟩ :: r) n l H Q := by
  obtain ⟨v, H', h1, h2⟩ := h
  exact WKT.op (H1 := H') (k_any (op_call hx hl h1)) ha (k v H' h2)
def LooseP (ops : List XOper) (ps : List (KL0 × AHeap)) (base : Nat) (nn : List Nat) (q : Nat × List Nat × List Nat) : Prop :=
  ∃ d op l H v, ops[q.1]? = some ⟨d, op, none⟩ ∧ ps[q.1]? = some (l, H) ∧ allSm l op.opnds = true ∧ xop (evK l) H 0 op = .v v ∧
    ∀ j ∈ q.1 :: (q.2.1 ++ q.2.1.map (· + 1)), ∃ p, ps[j]? = some p ∧ xop (evK l) ((p.2.less base q.2.2).less base (nn.filter fun k => Nat.ble j k)) 0 op = .v v
def FreshP (ops : List XOper) (ps : List (KL0 × AHeap)) (base : Nat) (k : Nat) : Prop :=
  ∃ o, ops[k]? = some o ∧ o.guard = none ∧ ∀ i, i ≤ k → ∃ p, ps[i]? = some p ∧ p.2.get (base + k) = none
theorem WK.regT {ops : List XOper} {lo : List (Nat × List Nat × List Nat)} {nn : List Nat} {k : Nat} {R : XE → KL0 → AHeap → Prop} (hk : ops.length = k)
    (h : WKT cf ops H.next l (H.bump k) fun ps => (∀ q ∈ lo, LooseP ops ps H.next nn q) ∧ (∀ j ∈ nn, FreshP ops ps H.next j) ∧ ∃ p, ps.getLast? = some p ∧ R .normal p.1 p.2) : WK cf fuel (.regd ops lo nn) l H R := by
  unfold WK
  intro tm ht
  obtain ⟨tr, ps, h1, h2, h3, h4, p, h5, h6⟩ := h tm ht
  obtain ⟨tm', g1, g2⟩ := h2.last h5
  refine W.regd k hk ⟨tr, h1, ?_, ?_, _, g1, p.1, g2, h6⟩
  · rw [List.all_eq_true]
    intro q hq
    obtain ⟨d, op, l1, H1, v, q1, q2, q3, q4, q5⟩ := h3 q hq
    obtain ⟨t1, r1, r2⟩ := h2.at q2
    have hev : ∀ (H' : AHeap), xop (St.ev t1) H' 0 op = xop (evK l1) H' 0 op := fun H' => xop_congr fun x hx => by
      have := List.all_eq_true.1 q3 x hx
      cases e : evK l1 x with
      | none => rw [e] at this; cases this
      | some u => exact r2.ev e
    unfold looseOk
    rw [q1, r1]
    simp only [wantedA]
    rw [hev, q4]
    simp only
    rw [List.all_eq_true]
    intro j hj
    obtain ⟨pj, s1, s2⟩ := q5 j hj
    obtain ⟨tj, s3, _⟩ := h2.at s1
    rw [s3]
    simp only
    rw [hev, s2]
    exact AV.beq_refl v
  · refine fresh_of fun j hj => ?_
    obtain ⟨o, q1, q2, q3⟩ := h4 j hj
    obtain ⟨pj, s1, _⟩ := q3 j (Nat.le_refl _)
    obtain ⟨tj, s3, _⟩ := h2.at s1
    refine ⟨o, _, q1, s3, q2, fun i hi => ?_⟩
    obtain ⟨pi, u1, u2⟩ := q3 i hi
    obtain ⟨ti, u3, _⟩ := h2.at u1
    exact ⟨_, u3, u2⟩
theorem WKO.append1E {d1 d2 z bytes m : Nat} {x : XO} {zs : List AV} {ps : List (Nat × Nat × XO)} {r : List XOper} {R : KL0 → AHeap → Prop} {v : AV} {cs new : List AV}
    (hR : RowE z H v m cs) (hx : evK ((d1, .sl n 0 1 1) :: l) x = some v) (hps : (evParts (evK l) ps).bind (fillA (List.replicate 1 zs).flatten) = some new) (ha : allSm l (XOp.bslice zs ps 1).opnds = true) (hz : 0 < z) (hl : m + 1 ≤ 2 ^ 30) (hb : bytes ≤ 2 ^ 16) (hnl : new.length = z) (ho : new.all AV.oneCell = true)
    (hn : n < H.next) (hf : v.own ≠ some n)
    (k : ∀ v' H1, Row z H1 v' (m + 1) (cs ++ new) → H.next ≤ H1.next → (∀ j, j < H.next → j ≠ n → v.own ≠ some j → H1.get j = H.get j) → (∀ i, v'.own = some i → v.own = some i ∨ H.next ≤ i) →
      WKO cf r (n + 1 + 1) ((d2, v') :: (d1, .sl n 0 1 1) :: l) H1 R) :
    WKO cf (⟨some d1, .bslice zs ps 1, none⟩ :: ⟨some d2, .app z bytes x (.t d1), none⟩ :: r) n l H R := by
  have hR1 : RowE z (H.set n (some (.cells new none))) v m cs := hR.frame (Nat.le_refl _) (fun i hi => by rw [AHeap.get_set, if_neg (by intro e; rw [e] at hi; exact hf hi)])
  have hsrc : srcA (H.set n (some (.cells new none))) z 1 (.sl n 0 1 1) = some new := by
    simp only [srcA, AHeap.get_set, if_true, hnl, Nat.one_mul, Nat.zero_add, Nat.le_refl, List.drop_zero]
    rw [List.take_of_length_le (by omega)]
  obtain ⟨v', H1, h1, h2, h3, h4, h5⟩ := hR1.app (bytes := bytes) hz hl (by omega) hb (y := .sl n 0 1 1) rfl hsrc (by omega) ho
  have e1 : evK ((d1, AV.sl n 0 1 1) :: l) (.t d1) = some (.sl n 0 1 1) := by simp only [evK, look]; simp
  refine WKO.op (v := .sl n 0 1 1) (H1 := H.set n (some (.cells new none))) (k_any ?_) ha (WKO.op (v := v') (H1 := H1) (k_any ?_) ?_ (k v' H1 h2 h3 (fun j hj hjn hjo => ?_) h5))
  · simp only [xval, xop, hps]
  · simp only [xval, xop, hx, e1, h1]
  · simp [allSm, XOp.opnds, hx, e1]
  · rw [h4 j hj hjo, AHeap.get_set, if_neg hjn]
end
def Clp (z : Nat) (H : AHeap) (X : AV) (m : Nat) (cs : List AV) : Prop :=
  m < 1048576 ∧ ((X = .nils ∧ m = 0 ∧ cs = []) ∨ ∃ i full opn, X = .sl i 0 m m ∧ H.get i = some (.cells full opn) ∧ full.take (m * z) = cs ∧ m * z ≤ full.length)
theorem Clp.frame {z m : Nat} {H H' : AHeap} {X : AV} {cs : List AV} (h : Clp z H X m cs) (hg : ∀ i, X.own = some i → H'.get i = H.get i) : Clp z H' X m cs := by
  obtain ⟨h0, h⟩ := h
  refine ⟨h0, ?_⟩
  rcases h with h | ⟨i, full, opn, rfl, h1, h2, h3⟩
  · exact .inl h
  · exact .inr ⟨i, full, opn, rfl, (hg i rfl).trans h1, h2, h3⟩
theorem Clp.app {z bytes m j : Nat} {H : AHeap} {X : AV} {cs new : List AV} (h : Clp z H X m cs) (hb : bytes ≤ 2 ^ 16) (hj : H.get j = some (.cells new none)) (hnl : new.length = z) (ho : new.all AV.oneCell = true) : appA H z bytes X (.sl j 0 1 1) = .eff (.sl H.next 0 (m + 1) openCap) (H.add (.cells (cs ++ new) (some z))) := by
  have hsrc : srcA H z 1 (.sl j 0 1 1) = some new := by
    simp only [srcA, hj, hnl, Nat.one_mul, Nat.zero_add, Nat.le_refl, List.drop_zero, if_true]
    rw [List.take_of_length_le (by omega)]
  obtain ⟨h0, ⟨rfl, rfl, rfl⟩ | ⟨i, full, opn, rfl, h1, h2, h3⟩⟩ := h
  · simp only [appA, lenA, hsrc, ho]
    rw [if_neg (by simp; omega), if_neg (by omega), if_neg (by omega)]
    rfl
  · simp only [appA, lenA, hsrc, ho, h1]
    rw [if_neg (by simp; omega), if_neg (by omega), if_neg (by omega), if_neg (by omega), if_pos (by unfold openAt; omega), if_neg (by omega), List.drop_zero, h2]
end Go.Eng
namespace Go.Eng
theorem RowE.app0 {z bytes : Nat} {H : AHeap} {v y : AV} {l n : Nat} {cs new : List AV} (h : RowE z H v l cs) (hz : 0 < z) (hl : l + n ≤ 2 ^ 30) (hb : bytes ≤ 2 ^ 16) (hy : lenA y = some n) (hs : srcA H z n y = some new) (hnl : new.length = n * z) (ho : new.all AV.oneCell = true) :
    ∃ v' H', appA H z bytes v y = .eff v' H' ∧ RowE z H' v' (l + n) (cs ++ new) ∧ H.next ≤ H'.next ∧ (∀ j, j < H.next → v.own ≠ some j → H'.get j = H.get j) ∧ (∀ i, v'.own = some i → v.own = some i ∨ H.next ≤ i) := by
  rcases Nat.eq_zero_or_pos n with hn | hn
  · subst hn
    have hnew : new = [] := List.eq_nil_of_length_eq_zero (by omega)
    subst hnew
    refine ⟨v, H, ?_, by simpa using h, Nat.le_refl _, fun _ _ _ => rfl, fun i hi => .inl hi⟩
    unfold appA
    rw [hy]
    simp only [hs]
    rcases h with ⟨_, ⟨rfl, rfl⟩ | ⟨i, full, rfl, h1, _⟩⟩ | ⟨rfl, rfl, i, rfl, h1, h2⟩
    · simp only [List.all_nil, Bool.not_true, Bool.false_eq_true, false_or]
      rw [if_neg (by omega), if_pos trivial]
    · simp only [List.all_nil, Bool.not_true, Bool.false_eq_true, false_or, h1]
      rw [if_neg (by omega), if_neg (by omega), if_pos trivial]
    · simp only [List.all_nil, Bool.not_true, Bool.false_eq_true, false_or, h2]
      rw [if_neg (by omega), if_neg (by omega), if_pos trivial]
  · obtain ⟨v', H', h1, h2, h3, h4, h5⟩ := h.app hz hl hn hb hy hs hnl ho
    exact ⟨v', H', h1, .inl h2, h3, h4, h5⟩
end Go.Eng
namespace Go.Proofs.YtfcgofffalmdfaaDoor.PA
open Go Go.Eng
def comps (out : List (Nat × Nat)) : List Nat := (out.map fun p => [p.1, p.2]).flatten
theorem comps_app (out : List (Nat × Nat)) (p : Nat × Nat) : comps (out ++ [p]) = comps out ++ [p.1, p.2] := by simp [comps]
theorem mem_comps {out : List (Nat × Nat)} {x : Nat} : x ∈ comps out ↔ ∃ p ∈ out, x = p.1 ∨ x = p.2 := by
  simp only [comps, List.mem_flatten, List.mem_map]
  constructor
  · rintro ⟨l, ⟨p, hp, rfl⟩, hx⟩
    exact ⟨p, hp, by simpa using hx⟩
  · rintro ⟨p, hp, hx⟩
    exact ⟨_, ⟨p, hp, rfl⟩, by simpa using hx⟩
structure SInv (i : Nat) (op : List Nat) (out : List (Nat × Nat)) : Prop where
  opl : ∀ a ∈ op, a < i
  outl : ∀ x ∈ comps out, x < i
  nd : (op ++ comps out).Nodup
  lt : ∀ p ∈ out, p.1 < p.2
theorem SInv.start : SInv 0 [] [] := ⟨fun a h => (by cases h), fun a h => (by cases h), (by simp [comps]), fun a h => (by cases h)⟩
theorem SInv.push {i : Nat} {op : List Nat} {out : List (Nat × Nat)} (h : SInv i op out) : SInv (i + 1) (op ++ [i]) out := by
  refine ⟨fun a ha => ?_, fun x hx => Nat.lt_succ_of_lt (h.outl x hx), ?_, h.lt⟩
  · rcases List.mem_append.1 ha with q | q
    · have := h.opl a q; omega
    · simp only [List.mem_singleton] at q; omega
  · rw [List.append_assoc]
    show (op ++ (i :: comps out)).Nodup
    rw [List.perm_middle.nodup_iff, List.nodup_cons]
    refine ⟨fun q => ?_, h.nd⟩
    rcases List.mem_append.1 q with q | q
    · have := h.opl i q; omega
    · have := h.outl i q; omega
theorem SInv.point {i : Nat} {op : List Nat} {out : List (Nat × Nat)} (h : SInv i op out) : SInv (i + 1) op out :=
  ⟨fun a ha => Nat.lt_succ_of_lt (h.opl a ha), fun x hx => Nat.lt_succ_of_lt (h.outl x hx), h.nd, h.lt⟩
theorem last_split {op : List Nat} {a : Nat} (ha : op.getLast? = some a) : op.dropLast ++ [a] = op := by
  have hne : op ≠ [] := fun e => by rw [e] at ha; cases ha
  rw [List.getLast?_eq_some_getLast hne] at ha
  cases ha
  exact List.dropLast_concat_getLast hne
theorem SInv.pop {i a : Nat} {op : List Nat} {out : List (Nat × Nat)} (h : SInv i op out) (ha : op.getLast? = some a) : SInv (i + 1) op.dropLast (out ++ [(a, i)]) := by
  have hop := last_split ha
  have hai : a < i := h.opl a (by rw [← hop]; simp)
  refine ⟨fun x hx => Nat.lt_succ_of_lt (h.opl x (List.dropLast_subset op hx)), fun x hx => ?_, ?_, fun p hp => ?_⟩
  · rw [comps_app] at hx
    rcases List.mem_append.1 hx with q | q
    · have := h.outl x q; omega
    · simp only [List.mem_cons, List.not_mem_nil, or_false] at q; omega
  · rw [comps_app]
    have hp : (op.dropLast ++ (comps out ++ [a, i])).Perm (i :: (op ++ comps out)) := by
      have e1 : (op.dropLast ++ (comps out ++ [a, i])).Perm (op.dropLast ++ ([a, i] ++ comps out)) := List.Perm.append_left _ List.perm_append_comm
      have e2 : op.dropLast ++ ([a, i] ++ comps out) = (op.dropLast ++ [a]) ++ (i :: comps out) := by simp
      rw [e2, hop] at e1
      exact e1.trans List.perm_middle
    rw [hp.nodup_iff, List.nodup_cons]
    refine ⟨fun q => ?_, h.nd⟩
    rcases List.mem_append.1 q with q | q
    · have := h.opl i q; omega
    · have := h.outl i q; omega
  · rcases List.mem_append.1 hp with q | q
    · exact h.lt p q
    · simp only [List.mem_singleton] at q; subst q; exact hai
def MP (out : List (Nat × Nat)) (m : List Int) : Prop := ∀ k, k < m.length → (∃ j, (k, j) ∈ out ∧ m[k]? = some (j : Int)) ∨ (∃ a, (a, k) ∈ out ∧ m[k]? = some (a : Int)) ∨ (k ∉ comps out ∧ m[k]? = some (-1))
theorem MP.grow {i : Nat} {op : List Nat} {out : List (Nat × Nat)} {m : List Int} (I : SInv i op out) (hl : m.length = i) (h : MP out m) : MP out (m ++ [-1]) := by
  intro k hk
  simp only [List.length_append, List.length_cons, List.length_nil] at hk
  by_cases e : k = i
  · refine .inr (.inr ⟨fun q => by have := I.outl k q; omega, ?_⟩)
    rw [List.getElem?_append_right (by omega)]
    simp [hl, e]
  · rcases h k (by omega) with ⟨j, q1, q2⟩ | ⟨j, q1, q2⟩ | ⟨q1, q2⟩
    · exact .inl ⟨j, q1, by rw [List.getElem?_append_left (by omega)]; exact q2⟩
    · exact .inr (.inl ⟨j, q1, by rw [List.getElem?_append_left (by omega)]; exact q2⟩)
    · exact .inr (.inr ⟨q1, by rw [List.getElem?_append_left (by omega)]; exact q2⟩)
theorem MP.pair {i a : Nat} {op : List Nat} {out : List (Nat × Nat)} {m : List Int} (I : SInv i op out) (ha : a < i) (hl : m.length = i) (h : MP out m) : MP (out ++ [(a, i)]) (((m ++ [-1]).set a (i : Int)).set i (a : Int)) := by
  intro k hk
  simp only [List.length_set, List.length_append, List.length_cons, List.length_nil] at hk
  by_cases e : k = i
  · subst e
    exact .inr (.inl ⟨a, by simp, by rw [List.getElem?_set_self (by simp; omega)]⟩)
  · by_cases e2 : k = a
    · subst e2
      exact .inl ⟨i, by simp, by rw [List.getElem?_set_ne (by omega), List.getElem?_set_self (by simp; omega)]⟩
    · have hm : (((m ++ [-1]).set a (i : Int)).set i (a : Int))[k]? = m[k]? := by
        rw [List.getElem?_set_ne (by omega), List.getElem?_set_ne (by omega), List.getElem?_append_left (by omega)]
      rw [hm]
      rcases h k (by omega) with ⟨j, q1, q2⟩ | ⟨j, q1, q2⟩ | ⟨q1, q2⟩
      · exact .inl ⟨j, List.mem_append_left _ q1, q2⟩
      · exact .inr (.inl ⟨j, List.mem_append_left _ q1, q2⟩)
      · refine .inr (.inr ⟨fun q => ?_, q2⟩)
        rw [comps_app] at q
        rcases List.mem_append.1 q with q | q
        · exact q1 q
        · simp only [List.mem_cons, List.not_mem_nil, or_false] at q; omega
def hit (x y : Nat) (p : Int × Int) : Bool := (p.1 == (x : Int) && p.2 == (y : Int)) || (p.1 == (y : Int) && p.2 == (x : Int))
theorem rules_hit : ∀ (l : List (Int × Int)) (rl : List Bool) (x y : Nat), rl.length = 16 → x < 4 → y < 4 → l.any badP = false →
    (l.foldl (fun rl p => (rl.set (p.1.toNat * 4 + p.2.toNat) true).set (p.2.toNat * 4 + p.1.toNat) true) rl).getD (x * 4 + y) false = (rl.getD (x * 4 + y) false || l.any (hit x y))
  | [], rl, x, y, h, hx, hy, hb => by simp
  | p :: l, rl, x, y, h, hx, hy, hb => by
    simp only [List.any_cons, Bool.or_eq_false_iff] at hb
    rw [List.foldl_cons, rules_hit l _ x y (by simp [h]) hx hy hb.2, List.any_cons, ← Bool.or_assoc]
    congr 1
    obtain ⟨p1, p2⟩ := p
    have hb1 := hb.1
    simp only [badP, Bool.or_eq_false_iff, decide_eq_false_iff_not] at hb1
    obtain ⟨a, rfl⟩ : ∃ a : Nat, p1 = a := ⟨p1.toNat, by omega⟩
    obtain ⟨b, rfl⟩ : ∃ b : Nat, p2 = b := ⟨p2.toNat, by omega⟩
    simp only [Int.toNat_natCast, List.getD_eq_getElem?_getD]
    have hlt : x * 4 + y < rl.length := by omega
    by_cases e1 : b * 4 + a = x * 4 + y
    · have e : b = x ∧ a = y := by omega
      rw [e1, List.getElem?_set_self (by simp; omega)]
      obtain ⟨rfl, rfl⟩ := e
      simp [hit]
    · rw [List.getElem?_set_ne e1]
      by_cases e2 : a * 4 + b = x * 4 + y
      · have e : a = x ∧ b = y := by omega
        rw [e2, List.getElem?_set_self hlt]
        obtain ⟨rfl, rfl⟩ := e
        simp [hit]
      · rw [List.getElem?_set_ne e2]
        have : hit x y ((a : Int), (b : Int)) = false := by
          simp only [hit, Bool.or_eq_false_iff, Bool.and_eq_false_iff, beq_eq_false_iff_ne]
          constructor <;> omega
        rw [this, Bool.or_false]
theorem frontE {z : Nat} {H : AHeap} {v : AV} {l m : Nat} {cs : List AV} (h : RowE z H v l cs) (hm : m ≤ l) (ev : XO → Option AV) (x : XO) (k : IntKind) (hx : ev x = some (.int k (m : Int))) :
    ∃ v', cutA ev z v none (some x) none = some v' ∧ RowE z H v' m (cs.take (m * z)) ∧ v'.own = v.own := by
  by_cases h0 : 0 < l
  · rcases h with h | ⟨q, _⟩
    · obtain ⟨v', h1, h2, h3⟩ := h.front hm h0 ev x k hx
      exact ⟨v', h1, .inl h2, h3⟩
    · omega
  · have hm0 : m = 0 := by omega
    have hl0 : l = 0 := by omega
    subst hm0
    subst hl0
    have hcs : cs = [] := List.eq_nil_of_length_eq_zero (by have := h.csl; omega)
    subst hcs
    refine ⟨v, ?_, by simpa using h, rfl⟩
    rcases h with ⟨_, ⟨rfl, _⟩ | ⟨i, full, rfl, _⟩⟩ | ⟨_, _, i, rfl, _⟩
    · unfold cutA
      simp only [bounds, obnd, hiBnd, hx, Option.bind_some, bndA_nat (Nat.le_refl 0)]
    · unfold cutA
      simp only
      rw [if_neg (by decide)]
      simp only [bounds, obnd, hiBnd, hx, Option.bind_some, bndA_nat (Nat.le_refl 0)]
      rw [Nat.sub_zero, if_pos (by decide)]
      simp
    · unfold cutA
      simp only
      rw [if_pos (by decide), if_pos (by omega)]
      simp only [bounds, obnd, hiBnd, hx, Option.bind_some, bndA_nat (Nat.le_refl 0)]
      simp
end Go.Proofs.YtfcgofffalmdfaaDoor.PA
namespace Go.Proofs.YtfcgofffalmdfaaDoor.PA
def B32 : Nat := 4294967296
def valL : List Nat → Nat
  | [] => 0
  | x :: r => x + B32 * valL r
def digL (l : List Nat) : Prop := ∀ x ∈ l, x < B32
def trimL (l : List Nat) : List Nat := (l.reverse.dropWhile (· == 0)).reverse
def limbs (n : Nat) : List Nat := if h : n = 0 then [] else (n % B32) :: limbs (n / B32)
termination_by n
decreasing_by exact Nat.div_lt_self (Nat.pos_of_ne_zero h) (by decide)
theorem valL_app (a b : List Nat) : valL (a ++ b) = valL a + B32 ^ a.length * valL b := by
  induction a with
  | nil => simp [valL]
  | cons x r ih => simp only [List.cons_append, valL, ih, List.length_cons, Nat.pow_succ]; rw [Nat.mul_add, Nat.add_assoc, ← Nat.mul_assoc, Nat.mul_comm B32 (B32 ^ r.length)]
theorem limbs_zero : limbs 0 = [] := by rw [limbs]; simp
theorem limbs_pos {n : Nat} (h : n ≠ 0) : limbs n = (n % B32) :: limbs (n / B32) := by rw [limbs]; simp [h]
theorem valL_limbs (n : Nat) : valL (limbs n) = n := by
  induction n using Nat.strongRecOn with
  | ind n ih =>
    by_cases h : n = 0
    · subst h; simp [limbs_zero, valL]
    · rw [limbs_pos h, valL, ih _ (Nat.div_lt_self (Nat.pos_of_ne_zero h) (by decide))]
      exact Nat.mod_add_div n B32
theorem digL_limbs (n : Nat) : digL (limbs n) := by
  induction n using Nat.strongRecOn with
  | ind n ih =>
    by_cases h : n = 0
    · subst h; rw [limbs_zero]; intro x hx; simp at hx
    · rw [limbs_pos h]
      intro x hx
      rcases List.mem_cons.1 hx with rfl | hx
      · exact Nat.mod_lt _ (by decide)
      · exact ih _ (Nat.div_lt_self (Nat.pos_of_ne_zero h) (by decide)) x hx
theorem trimL_nil : trimL [] = [] := rfl
theorem trimL_snoc (l : List Nat) (x : Nat) : trimL (l ++ [x]) = if x = 0 then trimL l else l ++ [x] := by
  unfold trimL
  by_cases h : x = 0 <;> simp [h]
theorem trimL_eq : ∀ {l : List Nat}, digL l → trimL l = limbs (valL l) := by
  have key : ∀ (l : List Nat), digL l → (l = [] ∨ ∃ i x, l = i ++ [x] ∧ x ≠ 0) → l = limbs (valL l) := by
    intro l
    induction l with
    | nil => intro _ _; simp [valL, limbs_zero]
    | cons x r ih =>
      intro hd hl
      have hx := hd x (by simp)
      have hr : digL r := fun y hy => hd y (by simp [hy])
      have hl' : r = [] ∨ ∃ i y, r = i ++ [y] ∧ y ≠ 0 := by
        rcases hl with h | ⟨i, y, h, hy⟩
        · cases h
        · cases i with
          | nil => simp at h; exact .inl h.2
          | cons a i => simp at h; exact .inr ⟨i, y, h.2, hy⟩
      have e := ih hr hl'
      have hne : valL (x :: r) ≠ 0 := by
        rcases hl' with rfl | ⟨i, y, rfl, hy⟩
        · rcases hl with h | ⟨i, y, h, hy⟩
          · cases h
          · cases i with
            | nil => simp at h; subst h; simpa [valL] using hy
            | cons a i => simp at h
        · intro h0
          have : valL (i ++ [y]) = 0 := by
            simp only [valL] at h0 ⊢
            have h1 : B32 * valL (i ++ [y]) = 0 := by omega
            rcases Nat.mul_eq_zero.1 h1 with h | h
            · exact absurd h (by decide)
            · exact h
          rw [valL_app] at this
          have h2 : B32 ^ i.length * valL [y] = 0 := by omega
          rcases Nat.mul_eq_zero.1 h2 with h | h
          · exact absurd h (Nat.pos_iff_ne_zero.1 (Nat.pow_pos (by decide)))
          · simp [valL] at h; exact hy h
      rw [limbs_pos hne, valL, Nat.add_mul_mod_self_left, Nat.mod_eq_of_lt hx, Nat.add_mul_div_left _ _ (by decide), Nat.div_eq_of_lt hx, Nat.zero_add, ← e]
  intro l
  have gen : ∀ (n : Nat) (l : List Nat), l.length = n → digL l → trimL l = limbs (valL l) := by
    intro n
    induction n with
    | zero => intro l hl _; obtain rfl := List.eq_nil_of_length_eq_zero hl; simp [trimL_nil, valL, limbs_zero]
    | succ n ih =>
      intro l hl hd
      rcases List.eq_nil_or_concat l with rfl | ⟨i, x, rfl⟩
      · simp at hl
      · rw [List.concat_eq_append] at *
        rw [trimL_snoc]
        by_cases h : x = 0
        · subst h
          rw [if_pos rfl, ih i (by simpa using hl) fun y hy => hd y (by simp [hy]), valL_app]
          simp [valL]
        · rw [if_neg h]
          exact key _ hd (.inr ⟨i, x, rfl, h⟩)
  exact gen l.length l rfl
def addL : List Nat → List Nat → Nat → List Nat
  | [], _, c => [c]
  | x :: r, [], c => ((x + c) % B32) :: addL r [] ((x + c) / B32)
  | x :: r, y :: q, c => ((x + y + c) % B32) :: addL r q ((x + y + c) / B32)
theorem addL_val : ∀ (a b : List Nat) (c : Nat), b.length ≤ a.length → valL (addL a b c) = valL a + valL b + c
  | [], b, c, h => by
    obtain rfl := List.eq_nil_of_length_eq_zero (Nat.le_zero.1 h)
    simp [addL, valL]
  | x :: r, [], c, _ => by
    simp only [addL, valL, addL_val r [] _ (Nat.zero_le _), Nat.mul_add, Nat.mul_zero, Nat.add_zero]
    have := Nat.mod_add_div (x + c) B32
    omega
  | x :: r, y :: q, c, h => by
    simp only [addL, valL, addL_val r q _ (by simpa using h), Nat.mul_add]
    have := Nat.mod_add_div (x + y + c) B32
    omega
theorem addL_dig : ∀ (a b : List Nat) (c : Nat), digL a → digL b → c ≤ 1 → digL (addL a b c)
  | [], _, c, _, _, hc => by
    intro x hx
    simp only [addL, List.mem_singleton] at hx
    subst hx
    exact Nat.lt_of_le_of_lt hc (by decide)
  | x :: r, [], c, ha, hb, hc => by
    intro z hz
    simp only [addL, List.mem_cons] at hz
    rcases hz with rfl | hz
    · exact Nat.mod_lt _ (by decide)
    · refine addL_dig r [] _ (fun y hy => ha y (by simp [hy])) hb ?_ z hz
      have := ha x (by simp)
      exact Nat.lt_succ_iff.1 ((Nat.div_lt_iff_lt_mul (by decide)).2 (by omega))
  | x :: r, y :: q, c, ha, hb, hc => by
    intro z hz
    simp only [addL, List.mem_cons] at hz
    rcases hz with rfl | hz
    · exact Nat.mod_lt _ (by decide)
    · refine addL_dig r q _ (fun y hy => ha y (by simp [hy])) (fun y hy => hb y (by simp [hy])) ?_ z hz
      have h1 := ha x (by simp)
      have h2 := hb y (by simp)
      exact Nat.lt_succ_iff.1 ((Nat.div_lt_iff_lt_mul (by decide)).2 (by omega))
theorem addL_len : ∀ (a b : List Nat) (c : Nat), (addL a b c).length = a.length + 1
  | [], _, _ => rfl
  | _ :: r, [], _ => by simp [addL, addL_len r []]
  | _ :: r, _ :: q, _ => by simp [addL, addL_len r q]
def mulRow (x : Nat) : List Nat → List Nat → Nat → List Nat
  | [], [], _ => []
  | [], _ :: r, c => c :: r
  | _ :: _, [], _ => []
  | y :: q, o :: r, c => ((x * y + o + c) % B32) :: mulRow x q r ((x * y + o + c) / B32)
theorem mulRow_val (x : Nat) : ∀ (b out : List Nat) (c : Nat), out[b.length]? = some 0 → valL (mulRow x b out c) = valL out + x * valL b + c
  | [], [], c, h => by simp at h
  | [], o :: r, c, h => by
    simp at h
    subst h
    simp only [mulRow, valL]
    omega
  | y :: q, [], c, h => by simp at h
  | y :: q, o :: r, c, h => by
    have h' : r[q.length]? = some 0 := by simpa using h
    simp only [mulRow, valL, mulRow_val x q r _ h', Nat.mul_add]
    have h1 := Nat.mod_add_div (x * y + o + c) B32
    have h2 : B32 * (x * valL q) = x * (B32 * valL q) := by rw [← Nat.mul_assoc, ← Nat.mul_assoc, Nat.mul_comm B32 x]
    omega
theorem mulRow_len (x : Nat) : ∀ (b out : List Nat) (c : Nat), b.length < out.length → (mulRow x b out c).length = out.length
  | [], [], c, h => by simp at h
  | [], o :: r, c, h => by simp [mulRow]
  | y :: q, [], c, h => by simp at h
  | y :: q, o :: r, c, h => by simp [mulRow, mulRow_len x q r _ (by simpa using h)]
theorem mulRow_far (x : Nat) : ∀ (b out : List Nat) (c k : Nat), b.length < k → (mulRow x b out c)[k]? = if b.length < out.length then out[k]? else (mulRow x b out c)[k]?
  | [], [], c, k, h => by simp [mulRow]
  | [], o :: r, c, k, h => by
    cases k with
    | zero => simp at h
    | succ k => simp [mulRow]
  | y :: q, [], c, k, h => by simp
  | y :: q, o :: r, c, k, h => by
    cases k with
    | zero => simp at h
    | succ k =>
      have e := mulRow_far x q r ((x * y + o + c) / B32) k (by simpa using h)
      by_cases hl : q.length < r.length
      · rw [if_pos hl] at e
        simp [mulRow, e, hl]
      · simp [hl]
theorem mulRow_dig {x : Nat} (hx : x < B32) : ∀ (b out : List Nat) (c : Nat), digL b → digL out → c < B32 → digL (mulRow x b out c)
  | [], [], c, _, _, _ => by intro z hz; simp [mulRow] at hz
  | [], o :: r, c, _, ho, hc => by
    intro z hz
    simp only [mulRow, List.mem_cons] at hz
    rcases hz with rfl | hz
    · exact hc
    · exact ho z (by simp [hz])
  | y :: q, [], c, _, _, _ => by intro z hz; simp [mulRow] at hz
  | y :: q, o :: r, c, hb, ho, hc => by
    intro z hz
    simp only [mulRow, List.mem_cons] at hz
    rcases hz with rfl | hz
    · exact Nat.mod_lt _ (by decide)
    · refine mulRow_dig hx q r _ (fun y hy => hb y (by simp [hy])) (fun y hy => ho y (by simp [hy])) ?_ z hz
      have h1 := hb y (by simp)
      have h2 := ho o (by simp)
      refine (Nat.div_lt_iff_lt_mul (by decide)).2 ?_
      have h3 : x * y ≤ (B32 - 1) * (B32 - 1) := Nat.mul_le_mul (by omega) (by omega)
      have h4 : (B32 - 1) * (B32 - 1) + (B32 - 1) + (B32 - 1) < B32 * B32 := by decide
      omega
def mulL : List Nat → List Nat → List Nat → List Nat
  | [], _, out => out
  | x :: xs, b, out => match mulRow x b out 0 with
    | [] => []
    | o :: r => o :: mulL xs b r
theorem mulL_ok : ∀ (a b out : List Nat), digL a → digL b → digL out → out.length = a.length + b.length → (∀ k, b.length ≤ k → k < out.length → out[k]? = some 0) →
    valL (mulL a b out) = valL out + valL a * valL b ∧ digL (mulL a b out) ∧ (mulL a b out).length = out.length
  | [], b, out, _, _, ho, _, _ => by simp [mulL, valL]; exact ho
  | x :: xs, b, out, ha, hb, ho, hl, hz => by
    have hx := ha x (by simp)
    have hlt : b.length < out.length := by rw [hl, List.length_cons]; omega
    have e1 := mulRow_val x b out 0 (hz _ (Nat.le_refl _) hlt)
    have e2 := mulRow_len x b out 0 hlt
    have e3 := mulRow_dig hx b out 0 hb ho (by decide)
    have e4 : ∀ k, b.length < k → (mulRow x b out 0)[k]? = out[k]? := fun k hk => by rw [mulRow_far x b out 0 k hk, if_pos hlt]
    revert e1 e2 e3 e4
    rw [mulL]
    generalize mulRow x b out 0 = row
    intro e1 e2 e3 e4
    cases row with
    | nil => rw [← e2] at hlt; simp at hlt
    | cons o r =>
      have hr : r.length = xs.length + b.length := by simp at e2 hl; omega
      have ih := mulL_ok xs b r (fun y hy => ha y (by simp [hy])) hb (fun y hy => e3 y (by simp [hy])) hr fun k hk hk2 => by
        have e := e4 (k + 1) (by omega)
        rw [List.getElem?_cons_succ] at e
        rw [e]
        exact hz (k + 1) (by omega) (by simp at e2; omega)
      obtain ⟨i1, i2, i3⟩ := ih
      refine ⟨?_, ?_, by simp only [List.length_cons] at e2 ⊢; rw [i3]; exact e2⟩
      · simp only [valL] at e1 ⊢
        rw [i1, Nat.mul_add, Nat.add_mul]
        have h2 : B32 * (valL xs * valL b) = B32 * valL xs * valL b := by rw [Nat.mul_assoc]
        omega
      · intro z hz'
        rcases List.mem_cons.1 hz' with rfl | hz'
        · exact e3 _ (by simp)
        · exact i2 z hz'
theorem mulL_limbs (m n : Nat) : trimL (mulL (limbs m) (limbs n) (List.replicate ((limbs m).length + (limbs n).length) 0)) = limbs (m * n) := by
  have z : ∀ k, valL (List.replicate k 0) = 0 := by
    intro k
    induction k with
    | zero => rfl
    | succ k ih => simp [List.replicate_succ, valL, ih]
  obtain ⟨h1, h2, h3⟩ := mulL_ok (limbs m) (limbs n) (List.replicate ((limbs m).length + (limbs n).length) 0) (digL_limbs m) (digL_limbs n) (fun x hx => by rw [(List.mem_replicate.1 hx).2]; decide) (by simp)
    (fun k hk hk2 => by simp at hk2; simp [List.getElem?_replicate, hk2])
  rw [trimL_eq h2, h1, z, valL_limbs, valL_limbs, Nat.zero_add]
theorem addL_limbs (m n : Nat) (h : (limbs n).length ≤ (limbs m).length) : trimL (addL (limbs m) (limbs n) 0) = limbs (m + n) := by
  rw [trimL_eq (addL_dig _ _ _ (digL_limbs m) (digL_limbs n) (by decide)), addL_val _ _ _ h, valL_limbs, valL_limbs, Nat.add_zero]
end Go.Proofs.YtfcgofffalmdfaaDoor.PA
namespace Go.Proofs.YtfcgofffalmdfaaDoor.PA
open Go Go.Eng
def u32 (n : Nat) : AV := .int .u32 (n : Int)
def u64 (n : Nat) : AV := .int .u64 (n : Int)
def B64 : Nat := 18446744073709551616
theorem wrap64 {n : Nat} (h : n < B64) : wrapA .u64 (n : Int) = (n : Int) := by
  simp only [wrapA, IntKind.wrap, IntKind.bits, IntKind.signed, B64] at *
  simp
  omega
theorem wrap32 (n : Nat) : wrapA .u32 (n : Int) = ((n % B32 : Nat) : Int) := by
  simp only [wrapA, IntKind.wrap, IntKind.bits, IntKind.signed, B32] at *
  simp
section
variable {cf : CF} {n : Nat} {H : AHeap} {ev : XO → Option AV} {x y : XO}
theorem op_c64 {a : Nat} (ha : a < B32) (hx : ev x = some (u32 a)) : xval cf ev H n (.conv .u64 x) = some (u64 a, H) := by
  simp only [xval, xop, hx, u32, AR.ofV, u64, wrap64 (show a < B64 from Nat.lt_trans ha (by decide))]
theorem op_c32 {a : Nat} (hx : ev x = some (u64 a)) : xval cf ev H n (.conv .u32 x) = some (u32 (a % B32), H) := by
  simp only [xval, xop, hx, u64, AR.ofV, u32, wrap32]
theorem op_add64 {a b : Nat} (h : a + b < B64) (hx : ev x = some (u64 a)) (hy : ev y = some (u64 b)) : xval cf ev H n (.bin .add x y) = some (u64 (a + b), H) := by
  refine op_bin hx hy ?_
  simp only [u64, binA]
  rw [if_neg (by simp), ← Int.natCast_add, wrap64 h]
theorem op_mul64 {a b : Nat} (h : a * b < B64) (hx : ev x = some (u64 a)) (hy : ev y = some (u64 b)) : xval cf ev H n (.bin .mul x y) = some (u64 (a * b), H) := by
  refine op_bin hx hy ?_
  simp only [u64, binA]
  rw [if_neg (by simp), ← Int.natCast_mul, wrap64 h]
theorem op_shr32 {a : Nat} (hx : ev x = some (u64 a)) (hy : ev y = some (.int .u64 (.ofNat 32))) : xval cf ev H n (.bin .shr x y) = some (u64 (a / B32), H) := by
  refine op_bin hx hy ?_
  simp only [u64, binA]
  rw [if_neg (by decide), show (2 : Int) ^ (min (Int.toNat (Int.ofNat 32)) IntKind.u64.bits) = ((B32 : Nat) : Int) by decide, Int.fdiv_eq_ediv_of_nonneg _ (by decide), Int.natCast_ediv]
end
theorem u32_int (n : Nat) : u32 n = .int .u32 (n : Int) := rfl
theorem u64_int (n : Nat) : u64 n = .int .u64 (n : Int) := rfl
attribute [irreducible] u32 u64
end Go.Proofs.YtfcgofffalmdfaaDoor.PA
namespace Go.Proofs.YtfcgofffalmdfaaDoor.PA
open Go Go.Eng
theorem add32_ok {cf : CF} {fuel : Nat} {H : AHeap} {x y c : Nat} (hx : x < B32) (hy : y < B32) (hc : c < B32) :
    ∃ v H', xfunc cf fuel L79 [u32 x, u32 y, u32 c] H = some (v, H') ∧ v = .tup [u32 ((x + y + c) % B32), u32 ((x + y + c) / B32)] ∧ Same H H' := by
  refine xfunc_of rfl (by show 3 ≤ 22; omega) ?_
  have a0 : (argsT [u32 x, u32 y, u32 c] 0 .e).get 0 = some (u32 x) := rfl
  have a1 : (argsT [u32 x, u32 y, u32 c] 0 .e).get 1 = some (u32 y) := rfl
  have a2 : (argsT [u32 x, u32 y, u32 c] 0 .e).get 2 = some (u32 c) := rfl
  generalize argsT [u32 x, u32 y, u32 c] 0 .e = tm at a0 a1 a2
  have e1 : B32 = 4294967296 := rfl
  have e2 : B64 = 18446744073709551616 := rfl
  unfold L79
  dsimp only
  repeat (first | refine W.seq ?_ | (apply W.reg; · (simp only [List.length_cons, List.length_nil, Nat.reduceAdd]; rfl)) | refine WO.nil ?_ | (apply WO.op; · first | exact op_mv (by simp only [St.ev, ↓Tr.get_set, ↓reduceIte, Nat.reduceEqDiff, natA, a0, a1, a2]; rfl)) | refine pN ?_ | fail)
  refine WO.op (op_c64 hx (by simp only [St.ev, ↓Tr.get_set, ↓reduceIte, Nat.reduceEqDiff, a0])) ?_
  repeat (first | (apply WO.op; · first | exact op_mv (by simp only [St.ev, ↓Tr.get_set, ↓reduceIte, Nat.reduceEqDiff, natA, a0, a1, a2]; rfl)) | fail)
  refine WO.op (op_c64 hy (by simp only [St.ev, ↓Tr.get_set, ↓reduceIte, Nat.reduceEqDiff, a1])) ?_
  refine WO.op (op_add64 (a := x) (b := y) (by omega) (by simp only [St.ev, ↓Tr.get_set, ↓reduceIte, Nat.reduceEqDiff]) (by simp only [St.ev, ↓Tr.get_set, ↓reduceIte, Nat.reduceEqDiff])) ?_
  repeat (first | (apply WO.op; · first | exact op_mv (by simp only [St.ev, ↓Tr.get_set, ↓reduceIte, Nat.reduceEqDiff, natA, a0, a1, a2]; rfl)) | fail)
  refine WO.op (op_c64 hc (by simp only [St.ev, ↓Tr.get_set, ↓reduceIte, Nat.reduceEqDiff, a2])) ?_
  refine WO.op (op_add64 (a := x + y) (b := c) (by omega) (by simp only [St.ev, ↓Tr.get_set, ↓reduceIte, Nat.reduceEqDiff]) (by simp only [St.ev, ↓Tr.get_set, ↓reduceIte, Nat.reduceEqDiff])) ?_
  repeat (first | refine W.seq ?_ | (apply W.reg; · (simp only [List.length_cons, List.length_nil, Nat.reduceAdd]; rfl)) | refine WO.nil ?_ | (apply WO.op; · first | exact op_mv (by simp only [St.ev, ↓Tr.get_set, ↓reduceIte, Nat.reduceEqDiff, natA, a0, a1, a2]; rfl)) | refine pN ?_ | fail)
  refine WO.op (op_c32 (a := x + y + c) (by simp only [St.ev, ↓Tr.get_set, ↓reduceIte, Nat.reduceEqDiff])) ?_
  repeat (first | refine W.seq ?_ | (apply W.reg; · (simp only [List.length_cons, List.length_nil, Nat.reduceAdd]; rfl)) | refine WO.nil ?_ | (apply WO.op; · first | exact op_mv (by simp only [St.ev, ↓Tr.get_set, ↓reduceIte, Nat.reduceEqDiff, natA, a0, a1, a2]; rfl)) | refine pN ?_ | fail)
  refine WO.op (op_shr32 (a := x + y + c) (by simp only [St.ev, ↓Tr.get_set, ↓reduceIte, Nat.reduceEqDiff]) (by simp only [St.ev, ↓Tr.get_set, ↓reduceIte, Nat.reduceEqDiff])) ?_
  repeat (first | fail)
  refine WO.op (op_c32 (a := (x + y + c) / B32) (by simp only [St.ev, ↓Tr.get_set, ↓reduceIte, Nat.reduceEqDiff])) ?_
  repeat (first | refine W.ret ?_ | refine WO.nil ?_ | (apply WO.op; · first | exact op_mv (by simp only [St.ev, ↓Tr.get_set, ↓reduceIte, Nat.reduceEqDiff, natA, a0, a1, a2]; rfl)) | refine pN ?_ | fail)
  have hq : (x + y + c) / B32 % B32 = (x + y + c) / B32 := Nat.mod_eq_of_lt ((Nat.div_lt_iff_lt_mul (by decide)).2 (by rw [e1]; omega))
  exact ⟨fun id q => (by cases q), _, by simp only [resL, resA, Tr.get_set, get_bump, next_bump, next_set, next_add, AHeap.get_set, reduceIte, Nat.reduceEqDiff] <;> rfl, by rw [hq]; rfl, ((Same.bump _ _).trans (Same.bump _ _)).trans ((Same.bump _ _).trans (Same.bump _ _))⟩
end Go.Proofs.YtfcgofffalmdfaaDoor.PA
namespace Go.Proofs.YtfcgofffalmdfaaDoor.PA
open Go Go.Eng
def MagL (H : AHeap) (v : AV) (l : List Nat) : Prop :=
  (v = .nils ∧ l = []) ∨ ∃ i cap full opn, v = .sl i 0 l.length cap ∧ l.length ≤ cap ∧ cap < openAt ∧ H.get i = some (.cells full opn) ∧ full.take l.length = l.map u32 ∧ l.length ≤ full.length ∧ i < H.next
def Mag (H : AHeap) (v : AV) (n : Nat) : Prop := MagL H v (limbs n)
theorem MagL.same {H H' : AHeap} {v : AV} {l : List Nat} (h : MagL H v l) (s : Same H H') : MagL H' v l := by
  rcases h with h | ⟨i, cap, full, opn, h1, h2, h3, h4, h5, h6, h7⟩
  · exact .inl h
  · exact .inr ⟨i, cap, full, opn, h1, h2, h3, (s.2 i h7).trans h4, h5, h6, Nat.lt_of_lt_of_le h7 s.1⟩
theorem MagL.len {H : AHeap} {v : AV} {l : List Nat} (h : MagL H v l) : lenA v = some l.length := by
  rcases h with ⟨rfl, rfl⟩ | ⟨i, cap, full, opn, rfl, _⟩ <;> rfl
theorem MagL.cell {H : AHeap} {v : AV} {l : List Nat} (h : MagL H v l) {j : Nat} (hj : j < l.length) {k : IntKind} : ∃ p, iaddrA 1 v (.int k (j : Int)) = some p ∧ loadA H none p = some (u32 l[j]) := by
  rcases h with ⟨rfl, rfl⟩ | ⟨i, cap, full, opn, rfl, h2, h3, h4, h5, h6, h7⟩
  · simp at hj
  · refine ⟨.ptr i (0 + j * 1), by simp only [iaddrA, idxOk_lt hj, if_true, Int.toNat_natCast], ?_⟩
    simp only [loadA, cellsAt, h4, List.getElem?_drop, Nat.zero_add, Nat.mul_one, Nat.add_zero]
    have e : (full.take l.length)[j]? = full[j]? := by rw [List.getElem?_take, if_pos hj]
    rw [← e, h5, List.getElem?_map, List.getElem?_eq_getElem hj]
    rfl
theorem op_mlen {cf : CF} {n : Nat} {H : AHeap} {v : AV} {l : List Nat} (h : MagL H v l) {ev : XO → Option AV} {x : XO} (hx : ev x = some v) : xval cf ev H n (.len x) = some (.int .i64 (l.length : Int), H) := by
  rcases h with ⟨rfl, rfl⟩ | ⟨i, cap, full, opn, rfl, _⟩ <;> simp only [xval, xop, hx] <;> rfl
theorem MagL.cut {H : AHeap} {v : AV} {l : List Nat} (h : MagL H v l) (hl : l ≠ []) :
    ∃ v', (∀ (ev : XO → Option AV) (y : XO), ev y = some (.int .i64 ((l.length - 1 : Nat) : Int)) → cutA ev 1 v none (some y) none = some v') ∧ MagL H v' l.dropLast := by
  rcases h with ⟨rfl, rfl⟩ | ⟨i, cap, full, opn, rfl, h2, h3, h4, h5, h6, h7⟩
  · exact absurd rfl hl
  · refine ⟨.sl i 0 (l.length - 1) cap, fun ev y hy => ?_, .inr ⟨i, cap, full, opn, by rw [List.length_dropLast], by rw [List.length_dropLast]; omega, h3, h4, ?_, by rw [List.length_dropLast]; omega, h7⟩⟩
    · have hb : bndA cap (.int .i64 ((l.length - 1 : Nat) : Int)) = some (l.length - 1) := bndA_nat (by omega)
      simp only [cutA, h3, h2, if_true, bounds, obnd, hiBnd, hy, Option.bind_some, hb]
      have : (if cap = 0 then 0 else 0 + 0 * 1) = 0 := by split <;> rfl
      simp [this]
    · rw [List.length_dropLast, List.map_dropLast, ← h5, List.dropLast_eq_take, List.take_take, List.length_take]
      congr 1
      omega
end Go.Proofs.YtfcgofffalmdfaaDoor.PA
namespace Go.Proofs.YtfcgofffalmdfaaDoor.PA
open Go Go.Eng
theorem sub1 {n : Nat} (h : 0 < n) (h2 : n ≤ 1000000000) : binA .sub (.int .i64 (n : Int)) (.int .i64 (.ofNat 1)) = some (.int .i64 ((n - 1 : Nat) : Int)) := by
  simp only [binA]
  rw [if_neg (by simp), show (n : Int) - Int.ofNat 1 = ((n - 1 : Nat) : Int) by simp only [Int.ofNat_eq_natCast]; omega, wrapI _ (by omega) (by omega)]
theorem eq32 (x : Nat) : binA .eql (u32 x) (.int .u32 (.ofNat 0)) = some (.bool (decide (x = 0))) := by
  rw [u32_int]
  simp only [binA, intCmpA]
  rw [if_neg (by simp)]
  congr 2
  rw [Bool.eq_iff_iff]
  simp
theorem trim_ok {cf : CF} {fuel : Nat} {H : AHeap} {v : AV} {l : List Nat} (hv : MagL H v l) (hf : l.length < fuel) (hs : l.length ≤ 1000000000) :
    ∃ v' H', xfunc cf fuel L53 [v] H = some (v', H') ∧ MagL H' v' (trimL l) ∧ Same H H' := by
  refine xfunc_of rfl (by show 1 ≤ 21; omega) ?_
  have a0 : (argsT [v] 0 .e).get 0 = some v := rfl
  generalize argsT [v] 0 .e = tm at a0
  unfold L53
  dsimp only
  refine W.seq ?_
  repeat (first | refine W.seq ?_ | refine W.block ?_ | (apply W.reg; · (simp only [List.length_cons, List.length_nil, Nat.reduceAdd]; rfl)) | refine WO.nil ?_ | (apply WO.op; · first | exact op_mv (by simp only [St.ev, ↓Tr.get_set, ↓reduceIte, Nat.reduceEqDiff, natA]; rfl)) | refine pN ?_ | fail)
  refine W.loop (α := List Nat) (fun t S => ∃ w, S.tm.get 0 = some w ∧ MagL S.H w t ∧ trimL t = trimL l ∧ Same H S.H ∧ t.length ≤ l.length) (fun t => t.length) l ⟨v, (by simp only [St.ev, ↓Tr.get_set, ↓reduceIte, Nat.reduceEqDiff, a0]), hv.same (Same.bump _ _), rfl, Same.bump _ _, Nat.le_refl _⟩ hf ?_
  rintro t ⟨tm1, H1⟩ ⟨w, t0, tm, te, ts, tl⟩
  simp only at t0 tm te ts tl
  refine W.seq (W.seq ?_)
  refine W.reg 12 rfl ?_
  have tmb := tm.same (Same.bump H1 12)
  refine WO.op (op_mv (v := w) (by simp only [St.ev, ↓Tr.get_set, ↓reduceIte, Nat.reduceEqDiff, t0])) ?_
  refine WO.op (op_mlen tmb (by simp only [St.ev, ↓Tr.get_set, ↓reduceIte, Nat.reduceEqDiff])) ?_
  rcases List.eq_nil_or_concat t with rfl | ⟨i, x, rfl⟩
  · repeat (first | refine W.seq ?_ | refine W.ret ?_ | refine W.exit ?_ | (apply W.reg; · (simp only [List.length_cons, List.length_nil, Nat.reduceAdd]; rfl)) | refine WO.nil ?_ | (apply WO.op; · first | exact op_mv (by simp only [St.ev, ↓Tr.get_set, ↓reduceIte, Nat.reduceEqDiff, natA, List.length_nil, t0]; rfl) | exact op_bin (by simp only [St.ev, ↓Tr.get_set, ↓reduceIte, Nat.reduceEqDiff, natA, List.length_nil, t0]; rfl) (by simp only [St.ev, ↓Tr.get_set, ↓reduceIte, Nat.reduceEqDiff, natA, List.length_nil, t0]; rfl) (by simp only [binA, intCmpA, strA, natA, List.length_nil, t0]; rfl) | exact op_pick (by simp only [St.ev, ↓Tr.get_set, ↓reduceIte, Nat.reduceEqDiff, natA, List.length_nil, t0]; rfl) (by first | exact .inl ⟨rfl, (by simp only [St.ev, ↓Tr.get_set, ↓reduceIte, Nat.reduceEqDiff, natA, List.length_nil, t0]; rfl)⟩ | exact .inr ⟨rfl, (by simp only [St.ev, ↓Tr.get_set, ↓reduceIte, Nat.reduceEqDiff, natA, List.length_nil, t0]; rfl)⟩)) | (apply WO.gno'; (· (simp only [St.ev, ↓Tr.get_set, ↓reduceIte, Nat.reduceEqDiff, natA, List.length_nil, t0]; rfl)); (· rfl)) | refine pN ?_ | refine pX ?_ | refine bX ?_ | (apply W.condF'; (· (simp only [St.ev, ↓Tr.get_set, ↓reduceIte, Nat.reduceEqDiff, natA, List.length_nil, t0]; rfl)); (· rfl)) | fail)
    exact ⟨fun id q => (by cases q), _, by simp only [resL, resA, Tr.get_set, get_bump, next_bump, next_set, next_add, AHeap.get_set, reduceIte, Nat.reduceEqDiff, t0] <;> rfl, (by rw [← te, trimL_nil]; exact tm.same ((Same.bump _ _).trans (Same.bump _ _))), ts.trans ((Same.bump _ _).trans (Same.bump _ _))⟩
  · rw [List.concat_eq_append] at *
    have hlen : 0 < (i ++ [x]).length := by simp
    have c : decide (((i ++ [x]).length : Int) > Int.ofNat 0) = true := by rw [Int.ofNat_eq_natCast, decide_eq_true_eq]; omega
    obtain ⟨p, hp, hld⟩ := tmb.cell (j := (i ++ [x]).length - 1) (by omega) (k := .i64)
    have hx : (i ++ [x])[(i ++ [x]).length - 1]'(by omega) = x := by simp
    rw [hx] at hld
    repeat (first | (apply WO.op; · first | exact op_mv (by simp only [St.ev, ↓Tr.get_set, ↓reduceIte, Nat.reduceEqDiff, natA, c, t0]; rfl) | exact op_bin (by simp only [St.ev, ↓Tr.get_set, ↓reduceIte, Nat.reduceEqDiff, natA, c, t0]; rfl) (by simp only [St.ev, ↓Tr.get_set, ↓reduceIte, Nat.reduceEqDiff, natA, c, t0]; rfl) (by simp only [binA, intCmpA, strA, natA, c, t0]; rfl)) | (apply WO.gop'; (· (simp only [St.ev, ↓Tr.get_set, ↓reduceIte, Nat.reduceEqDiff, natA, c, t0]; rfl)); (· rfl); (· first | exact op_mv (by simp only [St.ev, ↓Tr.get_set, ↓reduceIte, Nat.reduceEqDiff, natA, c, t0]; rfl))) | fail)
    refine WO.gop' (by simp only [St.ev, ↓Tr.get_set, ↓reduceIte, Nat.reduceEqDiff]; rfl) (by rfl) (op_mlen tmb (by simp only [St.ev, ↓Tr.get_set, ↓reduceIte, Nat.reduceEqDiff, t0])) ?_
    refine WO.gop' (by simp only [St.ev, ↓Tr.get_set, ↓reduceIte, Nat.reduceEqDiff]; rfl) (by rfl) (op_bin (by simp only [St.ev, ↓Tr.get_set, ↓reduceIte, Nat.reduceEqDiff]) (by simp only [St.ev, ↓Tr.get_set, ↓reduceIte, Nat.reduceEqDiff]) (sub1 hlen (by omega))) ?_
    refine WO.gop' (by simp only [St.ev, ↓Tr.get_set, ↓reduceIte, Nat.reduceEqDiff]; rfl) (by rfl) (v := p) (H1 := H1.bump 12) (by simp only [xval, xop, St.ev, ↓Tr.get_set, ↓reduceIte, Nat.reduceEqDiff, Option.bind_some, hp]; rfl) ?_
    refine WO.gop' (by simp only [St.ev, ↓Tr.get_set, ↓reduceIte, Nat.reduceEqDiff]; rfl) (by rfl) (op_load (a := p) (by simp only [St.ev, ↓Tr.get_set, ↓reduceIte, Nat.reduceEqDiff]) hld) ?_
    refine WO.gop' (by simp only [St.ev, ↓Tr.get_set, ↓reduceIte, Nat.reduceEqDiff]; rfl) (by rfl) (op_bin (by simp only [St.ev, ↓Tr.get_set, ↓reduceIte, Nat.reduceEqDiff]) (by simp only [St.ev, ↓Tr.get_set, ↓reduceIte, Nat.reduceEqDiff]) (eq32 x)) ?_
    by_cases h0 : x = 0
    · repeat (first | refine W.block ?_ | refine W.skip ?_ | (apply W.reg; · (simp only [List.length_cons, List.length_nil, Nat.reduceAdd]; rfl)) | refine WO.nil ?_ | (apply WO.op; · first | exact op_mv (by simp only [St.ev, ↓Tr.get_set, ↓reduceIte, Nat.reduceEqDiff, natA, h0, t0, decide_true]; rfl) | exact op_pick (by simp only [St.ev, ↓Tr.get_set, ↓reduceIte, Nat.reduceEqDiff, natA, h0, t0, decide_true]; rfl) (by first | exact .inl ⟨rfl, (by simp only [St.ev, ↓Tr.get_set, ↓reduceIte, Nat.reduceEqDiff, natA, h0, t0, decide_true]; rfl)⟩ | exact .inr ⟨rfl, (by simp only [St.ev, ↓Tr.get_set, ↓reduceIte, Nat.reduceEqDiff, natA, h0, t0, decide_true]; rfl)⟩)) | refine pN ?_ | (apply W.condT'; (· (simp only [St.ev, ↓Tr.get_set, ↓reduceIte, Nat.reduceEqDiff, natA, h0, t0, decide_true]; rfl)); (· rfl)) | fail)
      have tmc := tmb.same (Same.bump (H1.bump 12) 6)
      refine WO.op (op_mlen tmc (by simp only [St.ev, ↓Tr.get_set, ↓reduceIte, Nat.reduceEqDiff, t0])) ?_
      refine WO.op (op_bin (by simp only [St.ev, ↓Tr.get_set, ↓reduceIte, Nat.reduceEqDiff]) (by simp only [St.ev, ↓Tr.get_set, ↓reduceIte, Nat.reduceEqDiff]) (sub1 hlen (by omega))) ?_
      obtain ⟨w', hw, mw⟩ := tmc.cut (by simp)
      refine WO.op (op_cut (v := w) (by simp only [St.ev, ↓Tr.get_set, ↓reduceIte, Nat.reduceEqDiff]) (hw _ _ (by simp only [St.ev, ↓Tr.get_set, ↓reduceIte, Nat.reduceEqDiff]))) ?_
      repeat (first | refine WO.nil ?_ | (apply WO.op; · first | exact op_mv (by simp only [St.ev, ↓Tr.get_set, ↓reduceIte, Nat.reduceEqDiff, natA, h0]; rfl)) | refine pN ?_ | refine bN ?_ | fail)
      rw [List.dropLast_concat] at mw
      refine ⟨i, ⟨w', (by simp only [St.ev, ↓Tr.get_set, ↓reduceIte, Nat.reduceEqDiff]), mw, ?_, ts.trans ((Same.bump _ _).trans (Same.bump _ _)), by simp at tl; omega⟩, by simp⟩
      rw [← te, trimL_snoc, if_pos h0]
    · repeat (first | refine W.seq ?_ | refine W.ret ?_ | refine W.exit ?_ | (apply W.reg; · (simp only [List.length_cons, List.length_nil, Nat.reduceAdd]; rfl)) | refine WO.nil ?_ | (apply WO.op; · first | exact op_mv (by simp only [St.ev, ↓Tr.get_set, ↓reduceIte, Nat.reduceEqDiff, natA, h0, t0, decide_false]; rfl) | exact op_pick (by simp only [St.ev, ↓Tr.get_set, ↓reduceIte, Nat.reduceEqDiff, natA, h0, t0, decide_false]; rfl) (by first | exact .inl ⟨rfl, (by simp only [St.ev, ↓Tr.get_set, ↓reduceIte, Nat.reduceEqDiff, natA, h0, t0, decide_false]; rfl)⟩ | exact .inr ⟨rfl, (by simp only [St.ev, ↓Tr.get_set, ↓reduceIte, Nat.reduceEqDiff, natA, h0, t0, decide_false]; rfl)⟩)) | refine pN ?_ | refine pX ?_ | refine bX ?_ | (apply W.condF'; (· (simp only [St.ev, ↓Tr.get_set, ↓reduceIte, Nat.reduceEqDiff, natA, h0, t0, decide_false]; rfl)); (· rfl)) | fail)
      exact ⟨fun id q => (by cases q), _, by simp only [resL, resA, Tr.get_set, get_bump, next_bump, next_set, next_add, AHeap.get_set, reduceIte, Nat.reduceEqDiff, t0] <;> rfl, (by rw [← te, trimL_snoc, if_neg h0]; exact tm.same ((Same.bump _ _).trans (Same.bump _ _))), ts.trans ((Same.bump _ _).trans (Same.bump _ _))⟩
end Go.Proofs.YtfcgofffalmdfaaDoor.PA
namespace Go.Proofs.YtfcgofffalmdfaaDoor.PA
open Go Go.Eng
theorem MagL.one {H : AHeap} {v : AV} {l : List Nat} (h : MagL H v l) : v.oneCell = true := by
  rcases h with ⟨rfl, rfl⟩ | ⟨i, cap, full, opn, rfl, _⟩ <;> rfl
theorem made_ok {cf : CF} {fuel : Nat} {H : AHeap} {v : AV} {l : List Nat} (hv : MagL H v l) :
    ∃ v' H', xfunc cf fuel L52 [.bool false, v] H = some (v', H') ∧ v' = .agg [.bool false, v] ∧ Same H H' := by
  refine xfunc_of rfl (by show 2 ≤ 13; omega) ?_
  have a0 : (argsT [.bool false, v] 0 .e).get 0 = some (.bool false) := rfl
  have a1 : (argsT [.bool false, v] 0 .e).get 1 = some v := rfl
  generalize argsT [.bool false, v] 0 .e = tm at a0 a1
  unfold L52
  dsimp only
  refine W.seq ?_
  refine W.reg 1 rfl ?_
  refine WO.alloc fun H2 g2 k2 n2 => ?_
  repeat (first | refine W.seq ?_ | (apply W.reg; · (simp only [List.length_cons, List.length_nil, Nat.reduceAdd]; rfl)) | refine WO.nil ?_ | (apply WO.op; · first | exact op_mv (by simp only [St.ev, ↓Tr.get_set, ↓reduceIte, Nat.reduceEqDiff, natA, a0, a1]; rfl) | exact op_pick (by simp only [St.ev, ↓Tr.get_set, ↓reduceIte, Nat.reduceEqDiff, natA, a0, a1]; rfl) (by first | exact .inl ⟨rfl, (by simp only [St.ev, ↓Tr.get_set, ↓reduceIte, Nat.reduceEqDiff, natA, a0, a1]; rfl)⟩ | exact .inr ⟨rfl, (by simp only [St.ev, ↓Tr.get_set, ↓reduceIte, Nat.reduceEqDiff, natA, a0, a1]; rfl)⟩)) | (apply WO.gno'; (· (simp only [St.ev, ↓Tr.get_set, ↓reduceIte, Nat.reduceEqDiff, natA, a0, a1]; rfl)); (· rfl)) | refine pN ?_ | fail)
  refine WO.op (v := .agg [.bool false, v]) (H1 := H2.bump 9) (by rcases hv with ⟨rfl, rfl⟩ | ⟨i, cap, full, opn, rfl, _⟩ <;> simp only [xval, xop, AR.ofV, St.ev, Tr.get_set, get_bump, next_bump, next_set, next_add, AHeap.get_set, reduceIte, Nat.reduceEqDiff, evL, evParts, fillA, AV.cells, natA, binA, intCmpA, unA, minA, maxA, a0, a1] <;> rfl) ?_
  refine WO.store (v := .agg [.bool false, v]) (i := H.next) (o := 0) (c := [.bool false, .nils]) (opn := none) (by simp only [St.ev, ↓Tr.get_set, ↓reduceIte, Nat.reduceEqDiff]) (by simp only [St.ev, ↓Tr.get_set, ↓reduceIte, Nat.reduceEqDiff]) (by simp only [get_bump]; exact g2) (by rfl) (by simp only [AV.cells, List.all_cons, List.all_nil, hv.one, Bool.and_true]; rfl) (by decide) (fun H3 g3 k3 n3 => ?_)
  repeat (first | refine W.ret ?_ | refine WO.nil ?_ | refine pN ?_ | fail)
  have s2 : Same H H2 := ⟨by rw [n2]; exact Nat.le_add_right _ _, fun j hj => (k2 j (by omega)).trans rfl⟩
  have s3 : Same H H3 := ⟨by rw [n3]; exact Nat.le_trans s2.1 (Nat.le_add_right _ _), fun j hj => (k3 j (by omega)).trans (s2.2 j hj)⟩
  exact ⟨fun id q => (by cases q), [.agg [.bool false, v]], by simp only [resL, resA, Tr.get_set, get_bump, next_bump, next_set, next_add, AHeap.get_set, reduceIte, Nat.reduceEqDiff, Option.bind_some, loadA, cellsAt, g3] <;> rfl, rfl, s3⟩
end Go.Proofs.YtfcgofffalmdfaaDoor.PA
namespace Go.Proofs.YtfcgofffalmdfaaDoor.PA
open Go Go.Eng
def IsInt (H : AHeap) (v : AV) (n : Nat) : Prop := ∃ m, v = .agg [.bool false, m] ∧ Mag H m n
theorem IsInt.same {H H' : AHeap} {v : AV} {n : Nat} (h : IsInt H v n) (s : Same H H') : IsInt H' v n := by
  obtain ⟨m, h1, h2⟩ := h
  exact ⟨m, h1, MagL.same h2 s⟩
theorem limbs2 {n : Nat} (h : n < B64) : trimL [n % B32, n / B32] = limbs n := by
  have e1 : B32 = 4294967296 := rfl
  have e2 : B64 = 18446744073709551616 := rfl
  rw [trimL_eq]
  · congr 1
    simp only [valL]
    have := Nat.mod_add_div n B32
    omega
  · intro x hx
    simp only [List.mem_cons, List.mem_nil_iff, or_false, List.not_mem_nil] at hx
    rcases hx with rfl | rfl
    · exact Nat.mod_lt _ (by decide)
    · exact (Nat.div_lt_iff_lt_mul (by decide)).2 (by rw [e1]; omega)
theorem op_two {cf : CF} {n a b : Nat} {H : AHeap} {ev : XO → Option AV} {x y : XO} (hx : ev x = some (u32 a)) (hy : ev y = some (u32 b)) :
    xval cf ev H n (.bslice [.int .u32 (.ofNat 0)] [(0, 1, x), (1, 1, y)] 2) = some (.sl n 0 2 2, H.set n (some (.cells [u32 a, u32 b] none))) := by
  simp only [xval, xop, evParts, hx, hy, u32_int]
  rfl
theorem MagL.two {H : AHeap} {i a b : Nat} (h : H.get i = some (.cells [u32 a, u32 b] none)) (hi : i < H.next) : MagL H (.sl i 0 2 2) [a, b] :=
  .inr ⟨i, 2, _, _, rfl, Nat.le_refl _, by decide, h, rfl, Nat.le_refl _, hi⟩
theorem op_ci64 {cf : CF} {n a : Nat} {H : AHeap} {ev : XO → Option AV} {x : XO} (ha : a < B64) (hx : ev x = some (.int .i64 (a : Int))) : xval cf ev H n (.conv .u64 x) = some (u64 a, H) := by
  simp only [xval, xop, hx, AR.ofV, u64_int, wrap64 ha]
end Go.Proofs.YtfcgofffalmdfaaDoor.PA
namespace Go.Proofs.YtfcgofffalmdfaaDoor.PA
open Go Go.Eng
theorem MagL.upd {H H' : AHeap} {v : AV} {l : List Nat} {k : Nat} {c c' : List AV} {opn opn' : Option Nat} (h : MagL H v l) (hk : H.get k = some (.cells c opn)) (hc : ∀ x, c[0]? ≠ some (u32 x)) (hk' : H'.get k = some (.cells c' opn')) (hj : ∀ j, j ≠ k → H'.get j = H.get j) (hn : H.next ≤ H'.next) : MagL H' v l := by
  rcases h with h | ⟨i, cap, full, op, h1, h2, h3, h4, h5, h6, h7⟩
  · exact .inl h
  · by_cases e : i = k
    · subst e
      rw [hk] at h4
      cases h4
      cases l with
      | nil => exact .inr ⟨i, cap, c', opn', h1, h2, h3, hk', rfl, Nat.zero_le _, by omega⟩
      | cons x l =>
        exfalso
        have : (c.take (x :: l).length)[0]? = some (u32 x) := by rw [h5]; rfl
        rw [List.getElem?_take, if_pos (by simp)] at this
        exact hc x this
    · exact .inr ⟨i, cap, full, op, h1, h2, h3, (hj i e).trans h4, h5, h6, by omega⟩
theorem Of_ok {cf : CF} {fuel : Nat} {H : AHeap} {n : Nat} (hn : n < 4611686018427387904)
    (hT : ∀ H v l, MagL H v l → l.length ≤ 2 → ∃ v' H', cf 53 [v] H = some (v', H') ∧ MagL H' v' (trimL l) ∧ Same H H')
    (hM : ∀ H v l, MagL H v l → ∃ H', cf 52 [.bool false, v] H = some (.agg [.bool false, v], H') ∧ Same H H') :
    ∃ v' H', xfunc cf fuel L36 [.int .i64 (n : Int)] H = some (v', H') ∧ IsInt H' v' n ∧ Same H H' := by
  refine xfunc_of rfl (by show 1 ≤ 20; omega) ?_
  have a0 : (argsT [.int .i64 (n : Int)] 0 .e).get 0 = some (.int .i64 (n : Int)) := rfl
  generalize argsT [.int .i64 (n : Int)] 0 .e = tm at a0
  have e2 : B64 = 18446744073709551616 := rfl
  have c : decide ((n : Int) < Int.ofNat 0) = false := by rw [Int.ofNat_eq_natCast, decide_eq_false_iff_not]; omega
  unfold L36
  dsimp only
  refine W.seq ?_
  refine W.reg 1 rfl ?_
  refine WO.alloc fun H2 g2 k2 n2 => ?_
  refine WO.nil (pN (W.seq ?_))
  refine W.reg 3 rfl ?_
  refine WO.op (op_mv (v := .int .i64 (n : Int)) (by simp only [St.ev, ↓Tr.get_set, ↓reduceIte, Nat.reduceEqDiff, a0])) ?_
  refine WO.op (op_ci64 (a := n) (by omega) (by simp only [St.ev, ↓Tr.get_set, ↓reduceIte, Nat.reduceEqDiff])) ?_
  refine WO.op (op_mv (v := u64 n) (by simp only [St.ev, ↓Tr.get_set, ↓reduceIte, Nat.reduceEqDiff])) ?_
  repeat (first | refine W.seq ?_ | refine W.skip ?_ | (apply W.reg; · (simp only [List.length_cons, List.length_nil, Nat.reduceAdd]; rfl)) | refine WO.nil ?_ | (apply WO.op; · first | exact op_mv (by simp only [St.ev, ↓Tr.get_set, ↓reduceIte, Nat.reduceEqDiff, natA, a0, c]; rfl) | exact op_bin (by simp only [St.ev, ↓Tr.get_set, ↓reduceIte, Nat.reduceEqDiff, natA, a0, c]; rfl) (by simp only [St.ev, ↓Tr.get_set, ↓reduceIte, Nat.reduceEqDiff, natA, a0, c]; rfl) (by simp only [binA, intCmpA, strA, natA, a0, c]; rfl)) | refine pN ?_ | (apply W.condF'; (· (simp only [St.ev, ↓Tr.get_set, ↓reduceIte, Nat.reduceEqDiff, natA, a0, c]; rfl)); (· rfl)) | fail)
  refine WO.op (op_c32 (a := n) (by simp only [St.ev, ↓Tr.get_set, ↓reduceIte, Nat.reduceEqDiff])) ?_
  repeat (first | (apply WO.op; · first | exact op_mv (by simp only [St.ev, ↓Tr.get_set, ↓reduceIte, Nat.reduceEqDiff, natA, a0, c]; rfl)) | fail)
  refine WO.op (op_shr32 (a := n) (by simp only [St.ev, ↓Tr.get_set, ↓reduceIte, Nat.reduceEqDiff]) (by simp only [St.ev, ↓Tr.get_set, ↓reduceIte, Nat.reduceEqDiff])) ?_
  refine WO.op (op_c32 (a := n / B32) (by simp only [St.ev, ↓Tr.get_set, ↓reduceIte, Nat.reduceEqDiff])) ?_
  refine WO.op (op_two (a := n % B32) (b := n / B32 % B32) (by simp only [St.ev, ↓Tr.get_set, ↓reduceIte, Nat.reduceEqDiff]) (by simp only [St.ev, ↓Tr.get_set, ↓reduceIte, Nat.reduceEqDiff])) ?_
  have m3 := MagL.two (H := (((H2.bump 3).bump 2).bump 11).set (((H2.bump 3).bump 2).next + 1 + 1 + 1 + 1 + 1 + 1 + 1) (some (.cells [u32 (n % B32), u32 (n / B32 % B32)] none))) (i := ((H2.bump 3).bump 2).next + 1 + 1 + 1 + 1 + 1 + 1 + 1) (a := n % B32) (b := n / B32 % B32) (by rw [AHeap.get_set, if_pos rfl]) (by simp only [next_set, next_bump]; omega)
  have s2 : Same H H2 := ⟨by rw [n2]; exact Nat.le_add_right _ _, fun j hj => (k2 j (by omega)).trans rfl⟩
  have s3 : Same H2 ((((H2.bump 3).bump 2).bump 11).set (((H2.bump 3).bump 2).next + 1 + 1 + 1 + 1 + 1 + 1 + 1) (some (.cells [u32 (n % B32), u32 (n / B32 % B32)] none))) := ((Same.bump _ _).trans ((Same.bump _ _).trans (Same.bump _ _))).set (by simp only [next_bump]; omega) _
  obtain ⟨w1, H4, h4, m4, s4⟩ := hT _ _ _ m3 (by simp)
  refine WO.op (op_call (cs := []) (v := w1) (H1 := H4) (by rfl) (evL1 (by simp only [St.ev, ↓Tr.get_set, ↓reduceIte, Nat.reduceEqDiff])) h4) ?_
  obtain ⟨H5, h5, s5⟩ := hM _ _ _ m4
  refine WO.op (op_call (cs := []) (l := [.bool false, w1]) (H1 := H5) (by rfl) (evL2 (by simp only [St.ev, ↓Tr.get_set, ↓reduceIte, Nat.reduceEqDiff]) (by simp only [St.ev, ↓Tr.get_set, ↓reduceIte, Nat.reduceEqDiff])) h5) ?_
  have hlt : H.next < H2.next := by rw [n2]; exact Nat.lt_succ_self _
  have s25 := (s3.trans s4).trans s5
  have g5 : H5.get H.next = some (.cells [.bool false, .nils] none) := (s25.2 _ hlt).trans g2
  refine WO.store (v := .agg [.bool false, w1]) (i := H.next) (o := 0) (c := [.bool false, .nils]) (opn := none) (by simp only [St.ev, ↓Tr.get_set, ↓reduceIte, Nat.reduceEqDiff]) (by simp only [St.ev, ↓Tr.get_set, ↓reduceIte, Nat.reduceEqDiff]) g5 (by rfl) (by simp only [AV.cells, List.all_cons, List.all_nil, m4.one, Bool.and_true]; rfl) (by decide) (fun H6 g6 k6 n6 => ?_)
  repeat (first | refine W.ret ?_ | refine WO.nil ?_ | refine pN ?_ | fail)
  have m6 : MagL H6 w1 (trimL [n % B32, n / B32 % B32]) := (m4.same s5).upd g5 (fun x hx => by rw [u32_int] at hx; simp at hx) g6 k6 (by rw [n6]; exact Nat.le_refl _)
  rw [show n / B32 % B32 = n / B32 from Nat.mod_eq_of_lt ((Nat.div_lt_iff_lt_mul (by decide)).2 (by rw [show B32 = 4294967296 from rfl]; omega)), limbs2 (by omega)] at m6
  exact ⟨fun id q => (by cases q), [.agg [.bool false, w1]], by simp only [resL, resA, Tr.get_set, get_bump, next_bump, next_set, next_add, AHeap.get_set, reduceIte, Nat.reduceEqDiff, Option.bind_some, loadA, cellsAt, g6] <;> rfl, ⟨w1, rfl, m6⟩, ⟨by rw [n6]; exact Nat.le_trans s2.1 s25.1, fun j hj => (k6 j (by omega)).trans ((s2.trans s25).2 j hj)⟩⟩
end Go.Proofs.YtfcgofffalmdfaaDoor.PA
namespace Go.Eng
variable {P : Program}
inductive Fz (H H'' : AHeap) (N : Nat → Prop) : AV → AV → Prop
  | bool (b) : Fz H H'' N (.bool b) (.bool b)
  | int (k n) : Fz H H'' N (.int k n) (.int k n)
  | str (s) : Fz H H'' N (.str s) (.str s)
  | nilp : Fz H H'' N .nilp .nilp
  | nils : Fz H H'' N .nils .nils
  | nilm : Fz H H'' N .nilm .nilm
  | nilf : Fz H H'' N .nilf .nilf
  | nili : Fz H H'' N .nili .nili
  | glob (g o) : Fz H H'' N (.glob g o) (.glob g o)
  | ptr {i o} (h : N i) : Fz H H'' N (.ptr i o) (.ptr i o)
  | sl {i o l c} (h : N i) : Fz H H'' N (.sl i o l c) (.sl i o l c)
  | map {i} (h : N i) : Fz H H'' N (.map i) (.map i)
  | fn {f} {l m : List AV} (hl : m.length = l.length) (h : ∀ (j : Nat) (x y : AV), l[j]? = some x → m[j]? = some y → Fz H H'' N x y) : Fz H H'' N (.fn f l) (.fn f m)
  | ifc {t x y} (h : Fz H H'' N x y) : Fz H H'' N (.ifc t x) (.ifc t y)
  | agg {l m : List AV} (hl : m.length = l.length) (h : ∀ (j : Nat) (x y : AV), l[j]? = some x → m[j]? = some y → Fz H H'' N x y) : Fz H H'' N (.agg l) (.agg m)
  | tup {l m : List AV} (hl : m.length = l.length) (h : ∀ (j : Nat) (x y : AV), l[j]? = some x → m[j]? = some y → Fz H H'' N x y) : Fz H H'' N (.tup l) (.tup m)
  | imm {l m : List AV} {n : Nat} {full : Bool} (hl : m.length = l.length) (h : ∀ (j : Nat) (x y : AV), l[j]? = some x → m[j]? = some y → Fz H H'' N x y) : Fz H H'' N (.imm l n full) (.imm m n full)
  | iptr {l m : List AV} {o} (hl : m.length = l.length) (h : ∀ (j : Nat) (x y : AV), l[j]? = some x → m[j]? = some y → Fz H H'' N x y) : Fz H H'' N (.iptr l o) (.iptr m o)
  | fsl {i o l c k : Nat} {cs : List AV} {opn : Option Nat} {ds : List AV} (hn : H''.get i = none) (hg : H.get i = some (.cells cs opn)) (hl : ds.length = ((cs.drop o).take k).length) (h : ∀ (j : Nat) (x y : AV), ((cs.drop o).take k)[j]? = some x → ds[j]? = some y → Fz H H'' N x y) (h0 : l = 0 → ds = []) :
      Fz H H'' N (.sl i o l c) (.imm ds l false)
  | fnil : Fz H H'' N .nils (.imm [] 0 false)
theorem AVRelL.fz {E E' : Env} {w w' : World} {l m : List AV} {us : List Value} (hr : AVRelL E w l us) (hl : m.length = l.length) (h : ∀ (j : Nat) (x y : AV), l[j]? = some x → m[j]? = some y → ∀ u, AVRel E w x u → AVRel E' w' y u) : AVRelL E' w' m us := by
  refine AVRelL.of_get (hr.length.trans hl.symm) fun j y u hj hu => ?_
  cases hx : l[j]? with
  | none =>
    have h1 : l.length ≤ j := List.getElem?_eq_none_iff.1 hx
    rw [List.getElem?_eq_none (by omega)] at hj
    cases hj
  | some x =>
    obtain ⟨u', h1, h2⟩ := hr.get hx
    rw [hu] at h1
    cases h1
    exact h j x y hx hj u h2
theorem Fz.sound {E E'' : Env} {w : World} {H H'' : AHeap} {N : Nat → Prop} (hR : Rel E H w) (hρ : ∀ i L, N i → E.ρ i = some L → E''.ρ i = some L) (hI : ∀ b, E.I b → E''.I b)
    (hF : ∀ i o L, H''.get i = none → H.get i = some o → E.ρ i = some L → E''.I L.b) : ∀ {v v' : AV}, Fz H H'' N v v' → ∀ u, AVRel E w v u → AVRel E'' w v' u := by
  intro v v' h
  induction h with
  | bool b => intro u h; simpa [AVRel] using h
  | int k n => intro u h; simpa [AVRel] using h
  | str s => intro u h; simpa [AVRel] using h
  | nilp => intro u h; simpa [AVRel] using h
  | nils => intro u h; simpa [AVRel] using h
  | nilm => intro u h; simpa [AVRel] using h
  | nilf => intro u h; simpa [AVRel] using h
  | nili => intro u h; simpa [AVRel] using h
  | glob g o => intro u h; simpa [AVRel] using h
  | ptr hn =>
    intro u h
    simp only [AVRel] at h ⊢
    obtain ⟨L, h1, h2⟩ := h
    exact ⟨L, hρ _ _ hn h1, h2⟩
  | sl hn =>
    intro u h
    simp only [AVRel] at h ⊢
    obtain ⟨L, a, c, h1, h2⟩ := h
    exact ⟨L, a, c, hρ _ _ hn h1, h2⟩
  | map hn =>
    intro u h
    simp only [AVRel] at h ⊢
    obtain ⟨L, h1, h2⟩ := h
    exact ⟨L, hρ _ _ hn h1, h2⟩
  | fn hl _ ih =>
    intro u h
    simp only [AVRel] at h ⊢
    obtain ⟨us, h1, h2⟩ := h
    exact ⟨us, h1, h2.fz hl ih⟩
  | ifc _ ih =>
    intro u h
    simp only [AVRel] at h ⊢
    obtain ⟨us, h1, h2⟩ := h
    exact ⟨us, h1, ih _ h2⟩
  | agg hl _ ih =>
    intro u h
    simp only [AVRel] at h ⊢
    obtain ⟨us, h1, h2⟩ := h
    exact ⟨us, h1, h2.fz hl ih⟩
  | tup hl _ ih =>
    intro u h
    simp only [AVRel] at h ⊢
    obtain ⟨us, h1, h2⟩ := h
    exact ⟨us, h1, h2.fz hl ih⟩
  | imm hl _ ih =>
    intro u h
    simp only [AVRel] at h ⊢
    rcases h with ⟨h1, h2, h3⟩ | ⟨b, s, c, us, h1, h2, h3, h4, h5⟩
    · subst h2
      exact .inl ⟨h1, List.eq_nil_of_length_eq_zero hl, h3⟩
    · exact .inr ⟨b, s, c, us, h1, hI _ h2, h3, h4.fz hl ih, h5⟩
  | iptr hl _ ih =>
    intro u h
    simp only [AVRel] at h ⊢
    obtain ⟨b, s, us, h1, h2, h3, h4⟩ := h
    exact ⟨b, s, us, h1, hI _ h2, h3, h4.fz hl ih⟩
  | @fsl i o l c k cs opn ds hn hg hl _ h0 ih =>
    intro u h
    obtain ⟨L, ad, c', C, t, fz, us, hρ', rfl, hsl, hlc, hb, hr, hcell, _⟩ := row_sound hR h hg
    simp only [AVRel]
    by_cases q : l = 0
    · exact .inl ⟨q, h0 q, some ad, c', by rw [q], fun q => by cases q⟩
    · obtain rfl := hsl.addr hlc q
      refine .inr ⟨L.b, L.s + o, c', (us.drop o).take k, rfl, hF i _ L hn hg hρ', fun j x hj => ?_, ((hr.drop o).take k).fz hl ih, hlc, fun q => by cases q⟩
      rw [List.getElem?_take] at hj
      split at hj
      · rw [List.getElem?_drop] at hj
        have := hcell _ x hj
        simp only [World.cell?, hb]
        rw [show L.s + o + j = L.s + (o + j) by omega]
        exact this
      · cases hj
  | fnil =>
    intro u h
    simp only [AVRel] at h ⊢
    exact .inl ⟨trivial, trivial, none, 0, h, fun q => by cases q⟩
mutual
def AV.froz : AV → Bool
  | .bool _ | .int _ _ | .str _ | .nilp | .nils | .nilm | .nilf | .nili | .glob _ _ => true
  | .agg l | .tup l | .fn _ l | .imm l _ _ | .iptr l _ => AV.frozL l
  | .ifc _ x => x.froz
  | _ => false
def AV.frozL : List AV → Bool
  | [] => true
  | x :: r => x.froz && AV.frozL r
end
theorem frozL_iff : ∀ {l : List AV}, AV.frozL l = true ↔ ∀ x ∈ l, x.froz = true
  | [] => by simp [AV.frozL]
  | x :: l => by simp [AV.frozL, frozL_iff (l := l)]
mutual
theorem Fz.froz {H H'' : AHeap} {N : Nat → Prop} : ∀ {v : AV}, v.froz = true → Fz H H'' N v v
  | .bool _, _ => .bool _
  | .int _ _, _ => .int _ _
  | .str _, _ => .str _
  | .nilp, _ => .nilp
  | .nils, _ => .nils
  | .nilm, _ => .nilm
  | .nilf, _ => .nilf
  | .nili, _ => .nili
  | .glob _ _, _ => .glob _ _
  | .agg l, h => .agg rfl (fun j x y hx hy => by rw [hx] at hy; cases hy; exact Fz.frozL (by simpa [AV.froz] using h) j x hx)
  | .tup l, h => .tup rfl (fun j x y hx hy => by rw [hx] at hy; cases hy; exact Fz.frozL (by simpa [AV.froz] using h) j x hx)
  | .fn _ l, h => .fn rfl (fun j x y hx hy => by rw [hx] at hy; cases hy; exact Fz.frozL (by simpa [AV.froz] using h) j x hx)
  | .imm l _ _, h => .imm rfl (fun j x y hx hy => by rw [hx] at hy; cases hy; exact Fz.frozL (by simpa [AV.froz] using h) j x hx)
  | .iptr l _, h => .iptr rfl (fun j x y hx hy => by rw [hx] at hy; cases hy; exact Fz.frozL (by simpa [AV.froz] using h) j x hx)
  | .ifc _ x, h => .ifc (Fz.froz (by simpa [AV.froz] using h))
  | .ptr _ _, h => by simp [AV.froz] at h
  | .sl _ _ _ _, h => by simp [AV.froz] at h
  | .map _, h => by simp [AV.froz] at h
theorem Fz.frozL {H H'' : AHeap} {N : Nat → Prop} : ∀ {l : List AV}, AV.frozL l = true → ∀ (j : Nat) (x : AV), l[j]? = some x → Fz H H'' N x x
  | [], _, j, x, hx => by simp at hx
  | y :: l, h, j, x, hx => by
    simp only [AV.frozL, Bool.and_eq_true] at h
    cases j with
    | zero => simp at hx; subst hx; exact Fz.froz h.1
    | succ j => exact Fz.frozL h.2 j x (by simpa using hx)
end
theorem FzL.froz {H H'' : AHeap} {N : Nat → Prop} {l : List AV} (h : AV.frozL l = true) : ∀ (j : Nat) (x y : AV), l[j]? = some x → l[j]? = some y → Fz H H'' N x y :=
  fun j x y hx hy => by rw [hx] at hy; cases hy; exact Fz.frozL h j x hx
theorem CallOK.pure {f : Nat} {args : List AV} {v v' : AV} {H H1 : AHeap} (h : CallOK P f args ⟨.e, 0⟩ v H1) (ha : AV.frozL args = true) (hv : Fz H1 ⟨.e, 0⟩ (fun _ => False) v v') : CallOK P f args H v' H := by
  refine ⟨h.1, fun E w us hR hus => ?_⟩
  have hR1 : Rel ⟨fun _ => none, E.I, fun _ => none⟩ ⟨.e, 0⟩ w := ⟨fun i L q => (by cases q), hR.imm, fun i o q => (by simp [AHeap.get, Tr.get] at q), fun i j o o' L L' q => (by simp [AHeap.get, Tr.get] at q)⟩
  have hR0 : Rel ⟨fun _ => none, E.I, fun _ => none⟩ ⟨.e, 0⟩ w := hR1
  have hus1 : AVRelL ⟨fun _ => none, E.I, fun _ => none⟩ w args us := by
    refine hus.fz rfl fun j x y hx hy u hu => ?_
    have hz : Fz H ⟨.e, 0⟩ (fun _ => False) x y := FzL.froz ha j x y hx hy
    rw [hx] at hy
    cases hy
    have hz' : Fz ⟨.e, 0⟩ ⟨.e, 0⟩ (fun _ => False) x x := Fz.frozL ha j x hx
    have hRe : Rel ⟨fun _ => none, E.I, fun _ => none⟩ ⟨.e, 0⟩ w := hR1
    have hRE : Rel ⟨E.ρ, E.I, E.lk⟩ H w := hR
    exact (Fz.sound (E := E) (E'' := ⟨fun _ => none, E.I, fun _ => none⟩) (H := H) (H'' := H) (N := fun _ => False) hR (fun _ _ q => q.elim) (fun _ q => q) (fun i o L q q2 _ => by rw [q] at q2; cases q2) (Fz.frozL ha j x hx) u hu)
  refine (h.2 _ w us hR1 hus1).mono ?_
  rintro e w' ⟨u, E', rfl, hs, hvr⟩
  have hblk : ∀ b, b < w.heap.size → w'.heap[b]? = w.heap[b]? := fun b hb => hs.fr.block b hb (fun i o L q => by simp [AHeap.get, Tr.get] at q)
  have hsz := hs.fr.size
  have hnew : ∀ i o L, H1.get i = some o → E'.ρ i = some L → w.heap.size ≤ L.b := fun i o L q1 q2 => by
    rcases hs.nb i o L q1 q2 with q | ⟨j, o', L', q, _⟩
    · exact q
    · simp [AHeap.get, Tr.get] at q
  have hext : Env.Ext E ⟨E.ρ, fun b => E.I b ∨ (w.heap.size ≤ b ∧ b < w'.heap.size), E.lk⟩ w w' := ⟨fun _ _ q => q, fun _ q => .inl q, fun b q => hblk b (hR.imm b q), fun _ _ _ q => q⟩
  refine ⟨u, ⟨E.ρ, fun b => E.I b ∨ (w.heap.size ≤ b ∧ b < w'.heap.size), E.lk⟩, rfl, ⟨hext, ⟨fun i L q => ?_, fun b q => ?_, fun i o q => ?_, hR.inj⟩, ⟨hs.fr.os, hs.fr.tape, hs.fr.output, hsz, fun b hb _ => hblk b hb⟩, fun i o L q q2 => .inr ⟨i, o, L, q, q2, rfl⟩, Nat.le_refl _, fun i L q => .inl q, fun b q => q.imp id (fun q => .inl q.1)⟩, ?_⟩
  · have := hR.dom i L q
    exact ⟨this.1, by omega⟩
  · rcases q with q | q
    · have := hR.imm b q
      omega
    · exact q.2
  · obtain ⟨L, q1, q2, q3⟩ := hR.obj i o q
    have hlt := (hR.dom i L q1).2
    refine ⟨L, q1, ObjR.mono hext (hblk _ hlt) q2, fun q4 => ?_⟩
    rcases q4 with q4 | q4
    · exact q3 q4
    · omega
  · refine Fz.sound hs.rel (fun _ _ q => q.elim) (fun b q => ?_) (fun i o L _ q1 q2 => Or.inr ⟨hnew i o L q1 q2, (hs.rel.dom i L q2).2⟩) hv u hvr
    have hlt := hs.rel.imm b q
    rcases hs.imm b q with q | q | ⟨j, o, L, q, _⟩
    · exact .inl q
    · exact .inr ⟨q, hlt⟩
    · simp [AHeap.get, Tr.get] at q
theorem perm_lift {α β : Type} {f : α → β} : ∀ {l m : List β}, l.Perm m → ∀ zs : List α, zs.map f = m → ∃ zs0 : List α, zs0.Perm zs ∧ zs0.map f = l := by
  intro l m h
  induction h with
  | nil => intro zs hz; exact ⟨zs, .refl _, hz⟩
  | cons x _ ih =>
    intro zs hz
    match zs, hz with
    | z :: zs, hz =>
      simp only [List.map_cons, List.cons.injEq] at hz
      obtain ⟨zs0, h1, h2⟩ := ih zs hz.2
      exact ⟨z :: zs0, h1.cons z, by rw [List.map_cons, h2, hz.1]⟩
  | swap x y l =>
    intro zs hz
    match zs, hz with
    | z1 :: z2 :: zs, hz =>
      simp only [List.map_cons, List.cons.injEq] at hz
      exact ⟨z2 :: z1 :: zs, .swap _ _ _, by simp [hz.1, hz.2.1, hz.2.2]⟩
  | trans _ _ ih1 ih2 =>
    intro zs hz
    obtain ⟨z1, h1, h2⟩ := ih2 zs hz
    obtain ⟨z0, h3, h4⟩ := ih1 z1 h2
    exact ⟨z0, h3.trans h1, h4⟩
inductive FzO (H H'' : AHeap) (N : Nat → Prop) : AObj → AObj → Prop
  | cells {l m : List AV} {opn} (hl : m.length = l.length) (h : ∀ (j : Nat) (x y : AV), l[j]? = some x → m[j]? = some y → Fz H H'' N x y) : FzO H H'' N (.cells l opn) (.cells m opn)
  | same {o : AObj} (h : ∀ i, N i) : FzO H H'' N o o
  | map {es : List ((AV × AV) × AV)} (h : ∀ e ∈ es, Fz H H'' N e.1.1 e.1.1 ∧ Fz H H'' N e.1.2 e.2) : FzO H H'' N (.map (es.map (·.1))) (.map (es.map fun e => (e.1.1, e.2)))
theorem EntR.fz {E E' : Env} {w w' : World} : ∀ {es : List ((AV × AV) × AV)} {rows : List MapEntry}, (∀ e ∈ es, (∀ u, AVRel E w e.1.1 u → AVRel E' w' e.1.1 u) ∧ (∀ u, AVRel E w e.1.2 u → AVRel E' w' e.2 u)) → EntR E w (es.map (·.1)) rows → EntR E' w' (es.map fun e => (e.1.1, e.2)) rows
  | [], rows, _, h => by simpa [EntR] using h
  | ((k, v), v') :: es, rows, hh, h => by
    simp only [List.map_cons, EntR] at h ⊢
    obtain ⟨e, es', rfl, h1, h2, h3⟩ := h
    have := hh _ (List.mem_cons_self ..)
    exact ⟨e, es', rfl, this.1 _ h1, this.2 _ h2, EntR.fz (fun e he => hh e (List.mem_cons_of_mem _ he)) h3⟩
mutual
theorem Fz.all {H H'' : AHeap} {N : Nat → Prop} (hN : ∀ i, N i) : ∀ (v : AV), Fz H H'' N v v
  | .bool _ => .bool _
  | .int _ _ => .int _ _
  | .str _ => .str _
  | .nilp => .nilp
  | .nils => .nils
  | .nilm => .nilm
  | .nilf => .nilf
  | .nili => .nili
  | .glob _ _ => .glob _ _
  | .agg l => .agg rfl (fun j x y hx hy => by rw [hx] at hy; cases hy; exact Fz.allL hN l j x hx)
  | .tup l => .tup rfl (fun j x y hx hy => by rw [hx] at hy; cases hy; exact Fz.allL hN l j x hx)
  | .fn _ l => .fn rfl (fun j x y hx hy => by rw [hx] at hy; cases hy; exact Fz.allL hN l j x hx)
  | .imm l _ _ => .imm rfl (fun j x y hx hy => by rw [hx] at hy; cases hy; exact Fz.allL hN l j x hx)
  | .iptr l _ => .iptr rfl (fun j x y hx hy => by rw [hx] at hy; cases hy; exact Fz.allL hN l j x hx)
  | .ifc _ x => .ifc (Fz.all hN x)
  | .ptr _ _ => .ptr (hN _)
  | .sl _ _ _ _ => .sl (hN _)
  | .map _ => .map (hN _)
theorem Fz.allL {H H'' : AHeap} {N : Nat → Prop} (hN : ∀ i, N i) : ∀ (l : List AV) (j : Nat) (x : AV), l[j]? = some x → Fz H H'' N x x
  | [], j, x, hx => by simp at hx
  | y :: l, j, x, hx => by
    cases j with
    | zero => simp at hx; subst hx; exact Fz.all hN y
    | succ j => exact Fz.allL hN l j x (by simpa using hx)
end
theorem FzO.sound {E E'' : Env} {w : World} {H H'' : AHeap} {N : Nat → Prop} {L : Loc} (hρ : ∀ i L, N i → E.ρ i = some L → E''.ρ i = some L) (hlk : E''.lk = E.lk) (hv : ∀ {v v' : AV}, Fz H H'' N v v' → ∀ u, AVRel E w v u → AVRel E'' w v' u) {o o' : AObj} (h : FzO H H'' N o o') (hO : ObjR E w L o) : ObjR E'' w L o' := by
  have hmap : ∀ {es : List (AV × AV)} {rows : Array MapEntry} {clock : Nat}, (∀ i, N i) → MapR E w es rows clock → MapR E'' w es rows clock := by
    intro es rows clock hN ⟨es0, h2, h3, h4, h5⟩
    refine ⟨es0, ?_, h3, h4, h5⟩
    have := EntR.fz (E := E) (E' := E'') (w := w) (w' := w) (es := es0.map fun e => (e, e.2)) (rows := rows.toList) (fun e he => ⟨fun u hu => hv (Fz.all hN _) u hu, fun u hu => by
      obtain ⟨e0, _, rfl⟩ := List.mem_map.1 he
      exact hv (Fz.all hN _) u hu⟩) (by rw [List.map_map]; simpa [Function.comp_def] using h2)
    rw [List.map_map] at this
    simpa [Function.comp_def] using this
  cases h with
  | same hN =>
    cases o with
    | cells c opn =>
      obtain ⟨C, t, fz, us, h1, h2, h3⟩ := hO
      exact ⟨C, t, fz, us, h1, h2.fz rfl (fun j x y hx hy u hu => by rw [hx] at hy; cases hy; exact hv (Fz.all hN x) u hu), h3⟩
    | map es =>
      obtain ⟨rows, clock, h1, h2⟩ := hO
      exact ⟨rows, clock, h1, hmap hN h2⟩
    | lmap es t =>
      obtain ⟨rows, clock, h1, h2, h3, h4⟩ := hO
      refine ⟨rows, clock, h1, hmap hN h2, ?_, by rw [hlk]; exact h4⟩
      cases q : E.ρ t with
      | none => exact absurd q h3
      | some L => rw [hρ t L (hN t) q]; simp
  | cells hl h =>
    obtain ⟨C, t, fz, us, h1, h2, h3, h4, h5, h6⟩ := hO
    exact ⟨C, t, fz, us, h1, h2.fz hl (fun j x y hx hy u hu => hv (h j x y hx hy) u hu), h3, by rw [hl]; exact h4, by rw [hl]; exact h5, by rw [hl]; exact h6⟩
  | @map es h =>
    obtain ⟨rows, clock, h1, es0, h2, h3, h4, h5⟩ := hO
    obtain ⟨zs, q1, q2⟩ := perm_lift h3 es rfl
    refine ⟨rows, clock, h1, zs.map (fun e => (e.1.1, e.2)), ?_, q1.map _, ?_, h5⟩
    · refine EntR.fz (fun e he => ?_) (by rw [q2]; exact h2)
      have := h e (q1.mem_iff.1 he)
      exact ⟨hv this.1, hv this.2⟩
    · rw [List.pairwise_map] at h4 ⊢
      exact h4
theorem CallOK.freeze {f : Nat} {args : List AV} {v v' : AV} {H H' H'' : AHeap} {N : Nat → Prop} (h : CallOK P f args H v H') (hN : ∀ i, i < H.next → N i) (hnx : H.next ≤ H''.next) (hNn : ∀ i, N i → i < H'.next → i < H''.next) (hv : Fz H' H'' N v v')
    (ho : ∀ i o'', H''.get i = some o'' → N i ∧ ∃ o', H'.get i = some o' ∧ FzO H' H'' N o' o'') : CallOK P f args H v' H'' := by
  classical
  refine ⟨h.1, fun E w us hR hus => (h.2 E w us hR hus).mono ?_⟩
  rintro e w' ⟨u, E', rfl, hs, hvr⟩
  have hS : ∀ {x y : AV}, Fz H' H'' N x y → ∀ u, AVRel E' w' x u → AVRel ⟨fun i => if N i then E'.ρ i else none, fun b => E'.I b ∨ ∃ i o L, H''.get i = none ∧ H'.get i = some o ∧ E'.ρ i = some L ∧ L.b = b, E'.lk⟩ w' y u := by
    intro x y hxy
    exact Fz.sound hs.rel (fun i L q1 q2 => by simp only [q1, if_true]; exact q2) (fun b q => Or.inl q) (fun i o L q1 q2 q3 => Or.inr ⟨i, o, L, q1, q2, q3, rfl⟩) hxy
  refine ⟨u, ⟨fun i => if N i then E'.ρ i else none, fun b => E'.I b ∨ ∃ i o L, H''.get i = none ∧ H'.get i = some o ∧ E'.ρ i = some L ∧ L.b = b, E'.lk⟩, rfl, ⟨⟨fun i L q => ?_, fun b q => .inl (hs.ext.I b q), hs.ext.same, hs.ext.lk⟩, ⟨fun i L q => ?_, fun b q => ?_, fun i o'' q => ?_, fun i j o o' L L' q1 q2 q3 q4 q5 => ?_⟩, hs.fr, fun i o'' L q1 q2 => ?_, hnx, fun i L q => ?_, fun b q => ?_⟩, hS hv u hvr⟩
  · simp only [hN i (hR.dom i L q).1, if_true]
    exact hs.ext.ρ i L q
  · simp only at q
    split at q
    · rename_i hNi
      have := hs.rel.dom i L q
      exact ⟨hNn i hNi this.1, this.2⟩
    · cases q
  · rcases q with q | ⟨i, o, L, _, _, q2, rfl⟩
    · exact hs.rel.imm b q
    · exact (hs.rel.dom i L q2).2
  · obtain ⟨hNi, o', q1, q2⟩ := ho i o'' q
    obtain ⟨L, r1, r2, r3⟩ := hs.rel.obj i o' q1
    refine ⟨L, by simp only [hNi, if_true]; exact r1, FzO.sound (E := E') (E'' := ⟨fun i => if N i then E'.ρ i else none, fun b => E'.I b ∨ ∃ i o L, H''.get i = none ∧ H'.get i = some o ∧ E'.ρ i = some L ∧ L.b = b, E'.lk⟩) (fun i L n q => by simp only [n, if_true]; exact q) rfl hS q2 r2, fun q4 => ?_⟩
    rcases q4 with q4 | ⟨j, o, L2, s1, s2, s3, s4⟩
    · exact r3 q4
    · refine hs.rel.inj i j o' o L L2 q1 s2 r1 s3 (fun e => ?_) s4.symm
      subst e
      rw [q] at s1
      cases s1
  · obtain ⟨n1, o1, a1, _⟩ := ho i o q1
    obtain ⟨n2, o2, a2, _⟩ := ho j o' q2
    simp only [n1, if_true] at q3
    simp only [n2, if_true] at q4
    exact hs.rel.inj i j o1 o2 L L' a1 a2 q3 q4 q5
  · obtain ⟨n1, o1, a1, _⟩ := ho i o'' q1
    simp only [n1, if_true] at q2
    exact hs.nb i o1 L a1 q2
  · simp only at q
    split at q
    · exact hs.ids i L q
    · cases q
  · rcases q with q | ⟨i, o, L, _, q1, q2, rfl⟩
    · exact hs.imm b q
    · rcases hs.nb i o L q1 q2 with q | q
      · exact .inr (.inl q)
      · obtain ⟨j, o', L', s1, s2, s3⟩ := q
        exact .inr (.inr ⟨j, o', L', s1, s2, s3⟩)
end Go.Eng
namespace Go.Proofs.YtfcgofffalmdfaaDoor.PA
open Go Go.Eng
theorem u32_inj {a b : Nat} (h : u32 a = u32 b) : a = b := by
  rw [u32_int, u32_int] at h
  simp only [AV.int.injEq, true_and] at h
  omega
theorem u32_one (n : Nat) : (u32 n).oneCell = true := by rw [u32_int]; rfl
theorem u32_froz (n : Nat) : (u32 n).froz = true := by rw [u32_int]; rfl
def digA (l : List Nat) : AV := .imm (l.map u32) l.length false
def intC (n : Nat) : List AV := [.bool false, digA (limbs n)]
def IntV (n : Nat) : AV := .agg (intC n)
def rowC (l : List Nat) : List AV := (l.map intC).flatten
def RowV (l : List Nat) : AV := .imm (rowC l) l.length false
theorem digA_froz (l : List Nat) : (digA l).froz = true := by
  simp only [digA, AV.froz]
  refine frozL_iff.2 fun x hx => ?_
  obtain ⟨n, _, rfl⟩ := List.mem_map.1 hx
  exact u32_froz n
theorem intC_froz (n : Nat) : AV.frozL (intC n) = true := by simp only [intC, AV.frozL, AV.froz, digA_froz, Bool.and_self]
theorem IntV_froz (n : Nat) : (IntV n).froz = true := by simp only [IntV, AV.froz]; exact intC_froz n
theorem rowC_froz (l : List Nat) : AV.frozL (rowC l) = true := by
  refine frozL_iff.2 fun x hx => ?_
  obtain ⟨c, hc, hx⟩ := List.mem_flatten.1 hx
  obtain ⟨n, _, rfl⟩ := List.mem_map.1 hc
  exact frozL_iff.1 (intC_froz n) x hx
theorem RowV_froz (l : List Nat) : (RowV l).froz = true := by simp only [RowV, AV.froz]; exact rowC_froz l
theorem map_u32_inj : ∀ {a b : List Nat}, a.map u32 = b.map u32 → a = b
  | [], [], _ => rfl
  | [], _ :: _, h => by simp at h
  | _ :: _, [], h => by simp at h
  | x :: a, y :: b, h => by
    simp only [List.map_cons, List.cons.injEq] at h
    rw [u32_inj h.1, map_u32_inj h.2]
theorem digA_inj {a b : List Nat} (h : digA a = digA b) : a = b := by
  simp only [digA, AV.imm.injEq] at h
  exact map_u32_inj h.1
theorem limbs_inj {a b : Nat} (h : limbs a = limbs b) : a = b := by rw [← valL_limbs a, h, valL_limbs]
theorem intC_inj {a b : Nat} (h : intC a = intC b) : a = b := by
  simp only [intC, List.cons.injEq, true_and, and_true] at h
  exact limbs_inj (digA_inj h)
theorem IntV_inj {a b : Nat} (h : IntV a = IntV b) : a = b := intC_inj (by simpa [IntV] using h)
theorem rowC_len (l : List Nat) : (rowC l).length = l.length * 2 := by
  induction l with
  | nil => rfl
  | cons n l ih =>
    simp only [rowC, List.map_cons, List.flatten_cons, List.length_append] at ih ⊢
    rw [ih]
    simp [intC]
    omega
theorem rowC_app (a b : List Nat) : rowC (a ++ b) = rowC a ++ rowC b := by simp [rowC]
theorem rowC_one (n : Nat) : rowC [n] = intC n := by simp [rowC]
theorem rowC_inj : ∀ {a b : List Nat}, rowC a = rowC b → a = b
  | [], [], _ => rfl
  | [], _ :: _, h => by simp [rowC, intC] at h
  | _ :: _, [], h => by simp [rowC, intC] at h
  | x :: a, y :: b, h => by
    simp only [rowC, List.map_cons, List.flatten_cons] at h
    have h1 := List.append_inj h (by simp [intC])
    rw [intC_inj h1.1, rowC_inj (a := a) (b := b) h1.2]
theorem RowV_inj {a b : List Nat} (h : RowV a = RowV b) : a = b := by
  simp only [RowV, AV.imm.injEq] at h
  exact rowC_inj h.1
theorem rowC_at : ∀ (l : List Nat) (j : Nat), j < l.length → (rowC l)[j * 2]? = some (.bool false) ∧ (rowC l)[j * 2 + 1]? = some (digA (limbs (l.getD j 0)))
  | [], j, h => by simp at h
  | x :: l, 0, h => ⟨rfl, rfl⟩
  | x :: l, j + 1, h => by
    obtain ⟨h1, h2⟩ := rowC_at l j (by simpa using h)
    have e : rowC (x :: l) = intC x ++ rowC l := by simp [rowC]
    rw [e]
    refine ⟨?_, ?_⟩
    · rw [List.getElem?_append_right (by simp [intC]; omega), ← h1]
      congr 1
      simp [intC]
      omega
    · rw [List.getElem?_append_right (by simp [intC]; omega), List.getD_cons_succ, ← h2]
      congr 1
      simp [intC]
      omega
theorem rowC_set : ∀ (l : List Nat) (j n : Nat), j < l.length → overA (rowC l) (j * 2) (intC n) = rowC (l.set j n)
  | [], j, n, h => by simp at h
  | x :: l, 0, n, h => by
    have e : ∀ y, rowC (y :: l) = intC y ++ rowC l := fun y => by simp [rowC]
    rw [List.set_cons_zero, e, e]
    simp [overA, intC]
  | x :: l, j + 1, n, h => by
    have ih := rowC_set l j n (by simpa using h)
    have e : ∀ y l, rowC (y :: l) = intC y ++ rowC l := fun y l => by simp [rowC]
    rw [List.set_cons_succ, e, e, ← ih]
    unfold overA
    have h2 : (intC x).length = 2 := rfl
    have h3 : (intC n).length = 2 := rfl
    rw [show (j + 1) * 2 = 2 + j * 2 by omega]
    rw [show 2 + j * 2 = (intC x).length + j * 2 by rw [h2], List.take_length_add_append, List.append_assoc, List.append_assoc, Nat.add_assoc, List.drop_length_add_append, List.append_assoc]
theorem MagL.fz {H H'' : AHeap} {N : Nat → Prop} {v : AV} {l : List Nat} (h : MagL H v l) (hn : ∀ i, v.own = some i → H''.get i = none) : Fz H H'' N v (digA l) := by
  rcases h with ⟨rfl, rfl⟩ | ⟨i, cap, full, opn, rfl, h2, h3, h4, h5, h6, h7⟩
  · exact .fnil
  · refine .fsl (k := l.length) (hn i rfl) h4 ?_ (fun j x y hx hy => ?_) (fun h0 => ?_)
    · rw [List.drop_zero, h5]
    · rw [List.drop_zero, h5] at hx
      rw [hx] at hy
      cases hy
      refine Fz.froz ?_
      obtain ⟨n, _, rfl⟩ := List.mem_map.1 (List.mem_of_getElem? hx)
      exact u32_froz n
    · rw [List.eq_nil_of_length_eq_zero h0]; rfl
theorem get_e0 (i : Nat) : (⟨.e, 0⟩ : AHeap).get i = none := by simp [AHeap.get, Tr.get]
theorem IsInt.fz {H : AHeap} {N : Nat → Prop} {v : AV} {n : Nat} (h : IsInt H v n) : Fz H ⟨.e, 0⟩ N v (IntV n) := by
  obtain ⟨m, rfl, hm⟩ := h
  refine .agg rfl (fun j x y hx hy => ?_)
  match j, hx, hy with
  | 0, hx, hy => cases hx; cases hy; exact .bool _
  | 1, hx, hy => cases hx; cases hy; exact MagL.fz hm (fun i _ => get_e0 i)
theorem RowI.fz {H H'' : AHeap} {N : Nat → Prop} {v : AV} {l : List Nat} (h : RowE 2 H v l.length (rowC l)) (hn : ∀ i, v.own = some i → H''.get i = none) : Fz H H'' N v (RowV l) := by
  rcases h with ⟨_, ⟨rfl, h0⟩ | ⟨i, full, rfl, hg, hf, hfl, hi⟩⟩ | ⟨h0, h1, i, rfl, h2, h3⟩
  · have : l = [] := List.eq_nil_of_length_eq_zero h0
    subst this
    exact .fnil
  · refine .fsl (k := l.length * 2) (hn i rfl) hg (by rw [List.drop_zero, hf]) (fun j x y hx hy => ?_) (fun h0 => ?_)
    · rw [List.drop_zero, hf] at hx
      rw [hx] at hy
      cases hy
      exact Fz.frozL (rowC_froz l) j x hx
    · rw [List.eq_nil_of_length_eq_zero h0]; rfl
  · have : l = [] := List.eq_nil_of_length_eq_zero h0
    subst this
    exact .fsl (k := 0) (hn i rfl) h3 rfl (fun j x y hx hy => by simp at hx) (fun _ => rfl)
open Classical in
noncomputable def unInt (v : AV) : Option Nat := if h : ∃ n, v = IntV n then some h.choose else none
open Classical in
noncomputable def unRow (v : AV) : Option (List Nat) := if h : ∃ l, v = RowV l then some h.choose else none
theorem unInt_V (n : Nat) : unInt (IntV n) = some n := by
  have h : ∃ m, IntV n = IntV m := ⟨n, rfl⟩
  unfold unInt
  rw [dif_pos h, ← IntV_inj h.choose_spec]
theorem unRow_V (l : List Nat) : unRow (RowV l) = some l := by
  have h : ∃ m, RowV l = RowV m := ⟨l, rfl⟩
  unfold unRow
  rw [dif_pos h, ← RowV_inj h.choose_spec]
theorem unInt_some {v : AV} {n : Nat} (h : unInt v = some n) : v = IntV n := by
  unfold unInt at h
  split at h
  · rename_i q
    cases h
    exact q.choose_spec
  · cases h
theorem unRow_some {v : AV} {l : List Nat} (h : unRow v = some l) : v = RowV l := by
  unfold unRow at h
  split at h
  · rename_i q
    cases h
    exact q.choose_spec
  · cases h
attribute [irreducible] IntV RowV digA
def bigN : Nat := B32 ^ 20
theorem limbs_len : ∀ (k n : Nat), n < B32 ^ k → (limbs n).length ≤ k
  | 0, n, h => by
    rw [Nat.pow_zero] at h
    rw [show n = 0 by omega, limbs_zero]
    exact Nat.le_refl _
  | k + 1, n, h => by
    by_cases h0 : n = 0
    · rw [h0, limbs_zero]; exact Nat.zero_le _
    · rw [limbs_pos h0, List.length_cons]
      have := limbs_len k (n / B32) (by
        rw [Nat.div_lt_iff_lt_mul (by decide)]
        rw [Nat.pow_succ] at h
        exact h)
      omega
theorem limbs20 {n : Nat} (h : n < bigN) : (limbs n).length ≤ 20 := limbs_len 20 n h
theorem bigN_def : bigN = B32 ^ 20 := rfl
attribute [irreducible] bigN
end Go.Proofs.YtfcgofffalmdfaaDoor.PA
namespace Go.Proofs.YtfcgofffalmdfaaDoor.PA
open Go Go.Eng Go.Proofs
theorem op_faddrI {cf : CF} {n o p : Nat} {cs : List AV} {H : AHeap} {ev : XO → Option AV} {x : XO} (hx : ev x = some (.iptr cs p)) : xval cf ev H n (.faddr o x) = some (.iptr cs (p + o), H) := by
  simp only [xval, xop, hx]
def RdR (z : Nat) (H : AHeap) (X : AV) (len : Nat) (cs : List AV) : Prop :=
  cs.length = len * z ∧ ((∃ f, X = .imm cs len f) ∨ (X = .nils ∧ len = 0) ∨ ∃ i c full opn, X = .sl i 0 len c ∧ i < H.next ∧ H.get i = some (.cells full opn) ∧ full.take (len * z) = cs ∧ len * z ≤ full.length)
theorem RdR.of {z len : Nat} {H : AHeap} {X : AV} {cs : List AV} (h : RowE z H X len cs) : RdR z H X len cs := by
  refine ⟨h.csl, ?_⟩
  rcases h with ⟨h0, ⟨rfl, rfl⟩ | ⟨i, full, rfl, h1, h2, h3, h4⟩⟩ | ⟨rfl, rfl, i, rfl, h1, h2⟩
  · exact .inr (.inl ⟨rfl, rfl⟩)
  · exact .inr (.inr ⟨i, _, full, _, rfl, h4, h1, h2, h3⟩)
  · exact .inr (.inr ⟨i, _, _, _, rfl, h1, h2, by simp, by simp⟩)
theorem RdR.imm {z len : Nat} {H : AHeap} {cs : List AV} {f : Bool} (h : cs.length = len * z) : RdR z H (.imm cs len f) len cs := ⟨h, .inl ⟨f, rfl⟩⟩
theorem RdR.frame {z len : Nat} {H H' : AHeap} {X : AV} {cs : List AV} (h : RdR z H X len cs) (hn : H.next ≤ H'.next) (hg : ∀ i, X.own = some i → H'.get i = H.get i) : RdR z H' X len cs := by
  obtain ⟨h0, h⟩ := h
  refine ⟨h0, ?_⟩
  rcases h with h | h | ⟨i, c, full, opn, rfl, h1, h2, h3, h4⟩
  · exact .inl h
  · exact .inr (.inl h)
  · exact .inr (.inr ⟨i, c, full, opn, rfl, by omega, (hg i rfl).trans h2, h3, h4⟩)
theorem RdR.own_lt {z len : Nat} {H : AHeap} {X : AV} {cs : List AV} (h : RdR z H X len cs) {i : Nat} (hi : X.own = some i) : i < H.next := by
  rcases h with ⟨_, ⟨f, rfl⟩ | ⟨rfl, _⟩ | ⟨j, c, full, opn, rfl, h1, _⟩⟩
  · cases hi
  · cases hi
  · cases hi; exact h1
theorem RdR.len {z len : Nat} {H : AHeap} {X : AV} {cs : List AV} (h : RdR z H X len cs) : Go.Eng.lenN X = some len := by
  rcases h with ⟨_, ⟨f, rfl⟩ | ⟨rfl, rfl⟩ | ⟨j, c, full, opn, rfl, h1, _⟩⟩ <;> rfl
def adE (X : AV) (p : Nat) : AV := match X with
  | .imm cs _ _ => .iptr cs p
  | .sl i o _ _ => .ptr i (o + p)
  | _ => undefA
section
variable {cf : CF} {n : Nat} {H0 H H' : AHeap} {mod : List Nat} {T : Nat} {fs : List (Nat × AObj)} {l : KL0} {x y : XO} {z len a p : Nat} {X : AV} {cs : List AV}
theorem k_lenE (hx : evK l x = some X) (hE : RdR z H0 X len cs) : XV cf l H n (.len x) = some (nA len, H) := k_lenL hx hE.len
theorem k_iaE (hx : evK l x = some X) (hy : evK l y = some (nA a)) (hE : RdR z H0 X len cs) (h : a < len) : XV cf l H n (.iaddr z x y) = some (adE X (a * z), H) :=
  k_any (op_ia hx hy (by
    show iaddrA z X (.int .i64 (a : Int)) = _
    rcases hE with ⟨_, ⟨f, rfl⟩ | ⟨rfl, rfl⟩ | ⟨j, c, full, opn, rfl, h1, _⟩⟩
    · simp only [iaddrA, idxOk_lt h, if_true, Int.toNat_natCast]; rfl
    · omega
    · simp only [iaddrA, idxOk_lt h, if_true, Int.toNat_natCast]; rfl))
theorem RdR.at {X : AV} (hE : RdR z H0 X len cs) (hF : ∀ i, X.own = some i → H'.get i = H0.get i) (h : p < len * z) : ∃ c, cellsAt H' (adE X p) = some c ∧ c.take (len * z - p) = cs.drop p := by
  rcases hE with ⟨h0, ⟨f, rfl⟩ | ⟨rfl, rfl⟩ | ⟨j, c, full, opn, rfl, h1, h2, h3, h4⟩⟩
  · refine ⟨cs.drop p, rfl, ?_⟩
    rw [List.take_of_length_le (by rw [List.length_drop]; omega)]
  · omega
  · refine ⟨full.drop p, ?_, ?_⟩
    · simp only [adE, cellsAt, hF j rfl, h2, Nat.zero_add]
    · rw [← h3, List.drop_take]
theorem k_mnZ {a b : Int} (hx : evK l x = some (.int .i64 a)) (hy : evK l y = some (.int .i64 b)) : XV cf l H n (.mn [x, y]) = some (.int .i64 (if b < a then b else a), H) :=
  k_any (by
    have : evL (evK l) [x, y] = some [.int .i64 a, .int .i64 b] := by simp only [evL, hx, hy]; rfl
    simp only [xval, xop, this]
    rfl)
theorem k_mxZ {a b : Int} (hx : evK l x = some (.int .i64 a)) (hy : evK l y = some (.int .i64 b)) : XV cf l H n (.mx [x, y]) = some (.int .i64 (if b > a then b else a), H) :=
  k_any (by
    have : evL (evK l) [x, y] = some [.int .i64 a, .int .i64 b] := by simp only [evL, hx, hy]; rfl
    simp only [xval, xop, this]
    rfl)
end
section
variable {cf : CF} {n : Nat} {H0 H H' : AHeap} {mod : List Nat} {T : Nat} {fs : List (Nat × AObj)} {l : KL0} {x y : XO} {r : List XOper} {R : KL0 → AHeap → Prop}
theorem WKO.mkO {d m bytes : Nat} {z : List AV} (hx : evK l x = some (nA m)) (hy : evK l y = some (nA m)) (hb : m ≤ 2 ^ 24 ∧ bytes ≤ 2 ^ 16) (hF : HF H0 mod T fs H) (hm : H'.m = H.m) (hn : H.next ≤ H'.next)
    (k : ∀ H1, HF H0 mod (H'.next + 1) ((H'.next, .cells (List.replicate m z).flatten none) :: fs) H1 → H1.next = H'.next + 1 → WKO cf r (n + 1) ((d, .sl H'.next 0 m m) :: l) H1 R) : WKO cf (⟨some d, .mkslice z bytes x y, none⟩ :: r) n l H' R := by
  have hF' := hF.up hm hn
  refine WKO.op (v := .sl H'.next 0 m m) (H1 := H'.add (.cells (List.replicate m z).flatten none)) (k_any ?_) (by simp [allSm, XOp.opnds, hx, hy]) (k _ (hF'.new (n := H'.next) hF'.le (Nat.lt_succ_self _) (by rw [AHeap.get_add, if_pos rfl]) (fun k hk => by rw [AHeap.get_add, if_neg hk])) rfl)
  simp only [xval, xop, hx, hy]
  rw [show mkSliceA H' z bytes (nA m) (nA m) = if m ≤ m ∧ m ≤ 2 ^ 24 ∧ bytes ≤ 2 ^ 16 then .eff (.sl H'.next 0 m m) (H'.add (.cells (List.replicate m z).flatten none)) else .fail from rfl, if_pos ⟨Nat.le_refl _, hb.1, hb.2⟩]
theorem WKO.stN {i p w : Nat} {opn : Option Nat} {f : Nat → AV} {N : List Nat} {a x : XO} (ha : evK l a = some (.ptr i p)) (hx : evK l x = some (f w)) (hc : (f w).cells = [f w]) (h1 : (f w).oneCell = true) (hF : HF H0 mod T ((i, .cells (N.map f) opn) :: fs) H) (hm : H'.m = H.m) (hn : H.next ≤ H'.next) (hi : i ∈ mod ∨ H0.next ≤ i) (hp : p < N.length)
    (k : ∀ H1, HF H0 mod T ((i, .cells ((N.set p w).map f) opn) :: fs) H1 → H1.next = H'.next → WKO cf r (n + 1) l H1 R) : WKO cf (⟨none, .store 1 a x, none⟩ :: r) n l H' R := by
  have e : (N.set p w).map f = overA (N.map f) p (f w).cells := by
    rw [hc, List.map_set, overA, List.set_eq_take_append_cons_drop, if_pos (by simpa using hp)]
    simp
  rw [e] at k
  exact WKO.stO0 ha hx hF hm hn hi (by rw [hc]; rfl) (by rw [hc]; simp [h1]) (by simp; omega) k
theorem k_ia1s {i len c a : Nat} (hx : evK l x = some (.sl i 0 len c)) (hy : evK l y = some (nA a)) (h : a < len) : XV cf l H n (.iaddr 1 x y) = some (.ptr i a, H) := by
  have := k_iaN (cf := cf) (H := H) (n := n) (z := 1) hx hy h
  rwa [Nat.zero_add, Nat.mul_one] at this
end
end Go.Proofs.YtfcgofffalmdfaaDoor.PA
namespace Go.Proofs.YtfcgofffalmdfaaDoor.PA
open Go Go.Eng
def digI (l : List Nat) : AV := .imm (l.map u32) l.length false
theorem digI_eq (l : List Nat) : digA l = digI l := by unfold digA digI; rfl
section
variable {cf : CF} {n a : Nat} {H : AHeap} {l : KL0} {x y : XO} {d : List Nat}
theorem k_lenD (hx : evK l x = some (digI d)) : XV cf l H n (.len x) = some (nA d.length, H) := k_lenL hx rfl
theorem k_iaD (hx : evK l x = some (digI d)) (hy : evK l y = some (nA a)) (h : a < d.length) : XV cf l H n (.iaddr 1 x y) = some (.iptr (d.map u32) a, H) := by
  have := k_iaM (cf := cf) (H := H) (n := n) (z := 1) hx hy h
  rwa [Nat.mul_one] at this
theorem k_ldD (hx : evK l x = some (.iptr (d.map u32) a)) (h : a < d.length) : XV cf l H n (.load none x) = some (u32 (d.getD a 0), H) :=
  k_load hx (by
    show ((d.map u32).drop a)[0]? = _
    rw [List.getElem?_drop, Nat.add_zero, List.getElem?_map, List.getElem?_eq_getElem h, List.getD_eq_getElem?_getD, List.getElem?_eq_getElem h]
    rfl)
end
theorem replicate_u32 (m : Nat) : (List.replicate m [AV.int .u32 (.ofNat 0)]).flatten = (List.replicate m 0).map u32 := by
  rw [List.map_replicate, u32_int]
  induction m with
  | zero => rfl
  | succ m ih => rw [List.replicate_succ, List.flatten_cons, ih, List.replicate_succ]; rfl
theorem addL_step (a b : List Nat) (i c : Nat) (h : i < a.length) : addL (a.drop i) (b.drop i) c = (a.getD i 0 + b.getD i 0 + c) % B32 :: addL (a.drop (i + 1)) (b.drop (i + 1)) ((a.getD i 0 + b.getD i 0 + c) / B32) := by
  rw [List.drop_eq_getElem_cons h]
  have e1 : a.getD i 0 = a[i] := by rw [List.getD_eq_getElem?_getD, List.getElem?_eq_getElem h]; rfl
  by_cases hb : i < b.length
  · have e2 : b.getD i 0 = b[i] := by rw [List.getD_eq_getElem?_getD, List.getElem?_eq_getElem hb]; rfl
    rw [List.drop_eq_getElem_cons hb, addL, e1, e2]
  · have e2 : b.getD i 0 = 0 := by rw [List.getD_eq_getElem?_getD, List.getElem?_eq_none (by omega)]; rfl
    rw [List.drop_eq_nil_of_le (show b.length ≤ i by omega), List.drop_eq_nil_of_le (show b.length ≤ i + 1 by omega), addL, e1, e2]
    simp only [Nat.add_zero]
theorem set_rep (p : List Nat) (m w : Nat) : (p ++ List.replicate (m + 1) 0).set p.length w = (p ++ [w]) ++ List.replicate m 0 := by
  rw [List.set_append_right _ _ (Nat.le_refl _), Nat.sub_self, List.replicate_succ, List.set_cons_zero]
  simp
theorem u32_cells (n : Nat) : (u32 n).cells = [u32 n] := by rw [u32_int]; rfl
theorem u32_zero : AV.int .u32 (.ofNat 0) = u32 0 := by rw [u32_int]; rfl
def body54 : XCode := match L54.code with
  | .seq _ (.seq _ c) => c
  | c => c
theorem HF.start (H : AHeap) : HF H [] H.next [] H := ⟨fun p hp => (by cases hp), fun p hp => (by cases hp), by simp, Nat.le_refl _, Nat.le_refl _, fun _ _ _ => rfl⟩
theorem dig_lt {d : List Nat} (hd : digL d) (i : Nat) : d.getD i 0 < B32 := by
  rw [List.getD_eq_getElem?_getD]
  cases h : d[i]? with
  | none => exact (by decide : 0 < B32)
  | some v => exact hd v (List.mem_of_getElem? h)
set_option maxHeartbeats 1000000 in
theorem plus_tail {cf : CF} {fuel : Nat} {H : AHeap} {a b : List Nat} (ha : digL a) (hb : digL b) (hab : b.length ≤ a.length) (hl : a.length ≤ 1000) (hf : a.length < fuel)
    (hT : ∀ H v l, MagL H v l → l.length ≤ 1001 → ∃ v' H', cf 53 [v] H = some (v', H') ∧ (MagL H' v' (trimL l) ∧ Same H H'))
    (hA : ∀ (H : AHeap) (x y c : Nat), x < B32 → y < B32 → c < B32 → cf 79 [u32 x, u32 y, u32 c] H = some (.tup [u32 ((x + y + c) % B32), u32 ((x + y + c) / B32)], H)) :
    WK cf fuel body54 [(0, digI a), (1, digI b)] H fun e l' H' => e = .ret ∧ ∃ v, Go.Eng.look l' 4 = some v ∧ MagL H' v (trimL (addL a b 0)) ∧ Same H H' := by
  have hF0 := HF.start H
  unfold body54 L54
  dsimp only
  refine WK.seq (WK.reg (k := 5) rfl ?_)
  repeat' (first | ((first | apply WKO.op); (· first | exact k_mv rfl | exact k_lenD rfl | exact opA); (· rfl)) | fail)
  refine WKO.mkO (m := a.length + 1) rfl rfl ⟨by omega, by decide⟩ hF0 rfl (by simp only [next_bump]; omega) ?_
  intro H1 hF1 hn1
  have hA0 : ∀ (H : AHeap) (x c : Nat), x < B32 → c < B32 → cf 79 [u32 x, .int .u32 (.ofNat 0), u32 c] H = some (.tup [u32 ((x + 0 + c) % B32), u32 ((x + 0 + c) / B32)], H) := fun H x c h1 h2 => by rw [u32_zero]; exact hA H x 0 c h1 (by decide) h2
  rw [replicate_u32] at hF1
  repeat' (first | refine WK.seq ?_ | refine WK.block ?_ | (apply WK.reg; (· exact lnn)) | refine WKO.nil ?_ | ((first | apply WKO.op); (· first | exact k_mv rfl | exact k_lenD rfl); (· rfl)) | refine pN ?_ | fail)
  refine WK.loop (α := Nat × List Nat × Nat) (fun s => [(0, digI a), (1, digI b), (5, .sl (H.bump 5).next 0 (a.length + 1) (a.length + 1)), (6, u32 s.2.2), (21, nA a.length), (22, nA s.1)])
    (fun s H' => ∃ T, HF H [] T [((H.bump 5).next, .cells ((s.2.1 ++ List.replicate (a.length + 1 - s.1) 0).map u32) none)] H' ∧ s.2.1.length = s.1 ∧ s.1 ≤ a.length ∧ s.2.2 ≤ 1 ∧ s.2.1 ++ addL (a.drop s.1) (b.drop s.1) s.2.2 = addL a b 0) (fun s => a.length - s.1) (0, [], 0) ?_ ?_ (by show a.length - 0 < fuel; omega) ?_
  · exact .cons rfl <| .cons rfl <| .cons rfl <| .cons (by rw [u32_int]; rfl) <| .cons rfl <| .cons rfl <| .nil _
  · exact ⟨_, hF1.up (by rfl) (by simp only [next_bump, hn1]; omega), rfl, Nat.zero_le _, Nat.zero_le _, rfl⟩
  · rintro ⟨i, p, c⟩ H2 ⟨T, hF2, hp, hi, hc, hs⟩
    simp only at hF2 hp hi hc hs ⊢
    have hbi : b.length ≤ i → b.getD i 0 = 0 := fun q => by rw [List.getD_eq_getElem?_getD, List.getElem?_eq_none q]; rfl
    have e1 : B32 = 4294967296 := rfl
    repeat' (first | refine WK.seq ?_ | refine WK.skip ?_ | refine WK.exit ?_ | refine WK.block ?_ | (apply WK.reg; (· exact lnn)) | refine WKO.nil ?_ | ((first | apply WKO.op); (· first | exact k_mv rfl | exact k_lenD rfl | exact k_iaD rfl rfl (by omega) | exact k_ldD rfl (by omega) | exact k_call rfl rfl (hA _ _ _ _ (dig_lt ha _) (dig_lt hb _) (by omega)) | exact k_call rfl rfl (hA0 _ _ _ (dig_lt ha _) (by omega)) | exact k_ia1s rfl rfl (by omega) | exact opA); (· rfl)) | refine pN ?_ | refine pX ?_ | refine bX ?_ | (apply WK.condD; (· rfl); all_goals intro _) | fail)
    · have hst := addL_step a b i c (by omega)
      refine WKO.stN (f := u32) (N := p ++ List.replicate (a.length + 1 - i) 0) (p := i) rfl rfl (u32_cells _) (u32_one _) hF2 rfl nxx (.inr (by simp only [next_bump]; omega)) (by simp; omega) ?_
      intro H3 hF3 hn3
      repeat' (first | (apply WK.reg; (· exact lnn)) | refine WKO.nil ?_ | ((first | apply WKO.op); (· first | exact k_mv rfl | exact opA); (· rfl)) | refine pN ?_ | refine bN ?_ | fail)
      refine ⟨(i + 1, p ++ [(a.getD i 0 + b.getD i 0 + c) % B32], (a.getD i 0 + b.getD i 0 + c) / B32), (.cons rfl <| .cons rfl <| .cons rfl <| .cons rfl <| .cons rfl <| .cons rfl <| .nil _), ⟨T, ?_, by simp [hp], by show i + 1 ≤ a.length; omega, ?_, ?_⟩, by show a.length - (i + 1) < a.length - i; omega⟩
      · have : (p ++ List.replicate (a.length + 1 - i) 0).set i ((a.getD i 0 + b.getD i 0 + c) % B32) = p ++ [(a.getD i 0 + b.getD i 0 + c) % B32] ++ List.replicate (a.length + 1 - (i + 1)) 0 := by
          rw [← hp, show a.length + 1 - p.length = (a.length + 1 - (p.length + 1)) + 1 by omega]
          exact set_rep _ _ _
        rw [this] at hF3
        exact hF3.up (by rfl) (by simp only [next_bump] at *; omega)
      · have h1 := dig_lt ha i
        have h2 := dig_lt hb i
        exact Nat.lt_succ_iff.1 ((Nat.div_lt_iff_lt_mul (by decide)).2 (by omega))
      · rw [← hs, hst]
        simp
    · have hst := addL_step a b i c (by omega)
      rw [hbi (by omega)] at hst
      refine WKO.stN (f := u32) (N := p ++ List.replicate (a.length + 1 - i) 0) (p := i) rfl rfl (u32_cells _) (u32_one _) hF2 rfl nxx (.inr (by simp only [next_bump]; omega)) (by simp; omega) ?_
      intro H3 hF3 hn3
      repeat' (first | (apply WK.reg; (· exact lnn)) | refine WKO.nil ?_ | ((first | apply WKO.op); (· first | exact k_mv rfl | exact opA); (· rfl)) | refine pN ?_ | refine bN ?_ | fail)
      refine ⟨(i + 1, p ++ [(a.getD i 0 + 0 + c) % B32], (a.getD i 0 + 0 + c) / B32), (.cons rfl <| .cons rfl <| .cons rfl <| .cons rfl <| .cons rfl <| .cons rfl <| .nil _), ⟨T, ?_, by simp [hp], by show i + 1 ≤ a.length; omega, ?_, ?_⟩, by show a.length - (i + 1) < a.length - i; omega⟩
      · have : (p ++ List.replicate (a.length + 1 - i) 0).set i ((a.getD i 0 + 0 + c) % B32) = p ++ [(a.getD i 0 + 0 + c) % B32] ++ List.replicate (a.length + 1 - (i + 1)) 0 := by
          rw [← hp, show a.length + 1 - p.length = (a.length + 1 - (p.length + 1)) + 1 by omega]
          exact set_rep _ _ _
        rw [this] at hF3
        exact hF3.up (by rfl) (by simp only [next_bump] at *; omega)
      · have h1 := dig_lt ha i
        exact Nat.lt_succ_iff.1 ((Nat.div_lt_iff_lt_mul (by decide)).2 (by omega))
      · rw [← hs, hst]
        simp
    · refine ⟨fun _ => ?_, fun q => absurd rfl q⟩
      have hia : i = a.length := by omega
      subst hia
      repeat' (first | refine WK.seq ?_ | (apply WK.reg; (· exact lnn)) | ((first | apply WKO.op); (· first | exact k_mv rfl | exact k_lenD rfl | exact k_ia1s rfl rfl (by omega)); (· rfl)) | fail)
      refine WKO.stN (f := u32) (N := p ++ List.replicate (a.length + 1 - a.length) 0) (p := a.length) rfl rfl (u32_cells _) (u32_one _) hF2 rfl nxx (.inr (by simp only [next_bump]; omega)) (by simp; omega) ?_
      intro H3 hF3 hn3
      have e2 : (p ++ List.replicate (a.length + 1 - a.length) 0).set a.length c = addL a b 0 := by
        rw [← hs, show a.length + 1 - a.length = 0 + 1 by omega]
        conv => lhs; rw [← hp]
        rw [set_rep, List.drop_eq_nil_of_le (Nat.le_refl _)]
        simp [addL]
      rw [e2] at hF3
      have hl3 := addL_len a b 0
      have hle := hF3.le
      have hM : MagL H3 (.sl (H.bump 5).next 0 (a.length + 1) (a.length + 1)) (addL a b 0) := .inr ⟨_, _, (addL a b 0).map u32, none, by rw [hl3], by rw [hl3]; exact Nat.le_refl _, by unfold openAt; omega, hF3.obj _ (List.mem_cons_self ..), by rw [hl3, List.take_of_length_le (by simp [hl3])], by simp, Nat.lt_of_lt_of_le (hF3.lt _ (List.mem_cons_self ..)) hle⟩
      have hS3 : Same H H3 := ⟨Nat.le_trans hF3.base hF3.le, fun j hj => hF3.fr j hj (by simp)⟩
      repeat' (first | refine WK.seq ?_ | (apply WK.reg; (· exact lnn)) | refine WKO.nil ?_ | ((first | apply WKO.op); (· first | exact k_mv rfl); (· rfl)) | refine pN ?_ | fail)
      refine WKO.callV rfl rfl rfl (hT _ _ _ (hM.same (Same.bump _ 3)) (by rw [hl3]; omega)) ?_
      rintro v H4 ⟨m4, s4⟩
      repeat' (first | refine WK.ret ?_ | refine WKO.nil ?_ | ((first | apply WKO.op); (· first | exact k_mv rfl); (· rfl)) | refine pN ?_ | fail)
      exact ⟨rfl, v, rfl, m4, hS3.trans ((Same.bump _ 3).trans s4)⟩
theorem plus_ok {cf : CF} {fuel : Nat} {H : AHeap} {a b : List Nat} (ha : digL a) (hb : digL b) (hla : a.length ≤ 1000) (hlb : b.length ≤ 1000) (hf : 1001 < fuel)
    (hT : ∀ H v l, MagL H v l → l.length ≤ 1001 → ∃ v' H', cf 53 [v] H = some (v', H') ∧ (MagL H' v' (trimL l) ∧ Same H H'))
    (hA : ∀ (H : AHeap) (x y c : Nat), x < B32 → y < B32 → c < B32 → cf 79 [u32 x, u32 y, u32 c] H = some (.tup [u32 ((x + y + c) % B32), u32 ((x + y + c) / B32)], H)) :
    ∃ v H', xfunc cf fuel L54 [digI a, digI b] H = some (v, H') ∧ (MagL H' v (trimL (if a.length < b.length then addL b a 0 else addL a b 0)) ∧ Same H H') := by
  refine xfunc_ofK rfl (by show 2 ≤ 54; omega) ?_
  have hbody := fun (a b : List Nat) ha hb h1 h2 h3 (H : AHeap) => plus_tail (cf := cf) (fuel := fuel) (H := H) (a := a) (b := b) ha hb h1 h2 h3 hT hA
  unfold body54 at hbody
  revert hbody
  unfold L54
  dsimp only
  intro hbody
  refine WK.seq (WK.reg (k := 1) rfl (WKO.op (k_mv rfl) rfl (WKO.nil ⟨fun _ => ?_, fun q => absurd rfl q⟩)))
  refine WK.cut (α := List Nat × List Nat) (fun s => [(0, digI s.1), (1, digI s.2)]) (fun s H' => digL s.1 ∧ digL s.2 ∧ s.2.length ≤ s.1.length ∧ s.1.length ≤ 1000 ∧ addL s.1 s.2 0 = (if a.length < b.length then addL b a 0 else addL a b 0) ∧ Same H H') ?_ ?_
  · repeat' (first | refine WK.seq ?_ | refine WK.skip ?_ | (apply WK.reg; (· exact lnn)) | refine WKO.nil ?_ | ((first | apply WKO.op); (· first | exact k_mv rfl | exact k_lenD rfl | exact opA); (· rfl)) | refine pN ?_ | (apply WK.condD; (· rfl); all_goals intro _) | fail)
    · exact ⟨(b, a), (.cons rfl <| .cons rfl <| .nil _), hb, ha, by show a.length ≤ b.length; omega, hlb, by rw [if_pos (by assumption)], (Same.bump _ _).trans ((Same.bump _ _).trans (Same.bump _ _))⟩
    · exact ⟨(a, b), (.cons rfl <| .cons rfl <| .nil _), ha, hb, by show b.length ≤ a.length; omega, hla, by rw [if_neg (by assumption)], (Same.bump _ _).trans (Same.bump _ _)⟩
  · rintro ⟨a', b'⟩ H1 ⟨q1, q2, q3, q4, q5, q6⟩
    simp only at q1 q2 q3 q4 q5 ⊢
    refine (hbody a' b' q1 q2 q3 q4 (by omega) H1).mono ?_
    rintro e l' H' ⟨rfl, v, h1, h2, h3⟩
    refine ⟨fun id q => (by cases q), [v], by simp only [resK, resK1, h1, Option.bind_some], ?_, q6.trans h3⟩
    rw [q5] at h2
    exact h2
end Go.Proofs.YtfcgofffalmdfaaDoor.PA
namespace Go.Proofs.YtfcgofffalmdfaaDoor.PA
open Go Go.Eng
section
variable {cf : CF} {n a b : Nat} {H : AHeap} {l : KL0} {x y : XO}
theorem k_c64 (hx : evK l x = some (u32 a)) (ha : a < B32) : XV cf l H n (.conv .u64 x) = some (u64 a, H) := k_any (op_c64 ha hx)
theorem k_c32 (hx : evK l x = some (u64 a)) : XV cf l H n (.conv .u32 x) = some (u32 (a % B32), H) := k_any (op_c32 hx)
theorem k_add64 (hx : evK l x = some (u64 a)) (hy : evK l y = some (u64 b)) (h : a + b < B64) : XV cf l H n (.bin .add x y) = some (u64 (a + b), H) := k_any (op_add64 h hx hy)
theorem k_mul64 (hx : evK l x = some (u64 a)) (hy : evK l y = some (u64 b)) (h : a * b < B64) : XV cf l H n (.bin .mul x y) = some (u64 (a * b), H) := k_any (op_mul64 h hx hy)
theorem k_shr64 (hx : evK l x = some (u64 a)) : XV cf l H n (.bin .shr x (.k (.int .u64 (.ofNat 32)))) = some (u64 (a / B32), H) := k_any (op_shr32 hx rfl)
end
theorem map_get {d : List Nat} {p : Nat} (h : p < d.length) : (d.map u32)[p]? = some (u32 (d.getD p 0)) := by
  rw [List.getElem?_map, List.getElem?_eq_getElem h, List.getD_eq_getElem?_getD, List.getElem?_eq_getElem h]
  rfl
theorem digL_set {d : List Nat} (h : digL d) (p : Nat) {w : Nat} (hw : w < B32) : digL (d.set p w) := by
  intro x hx
  rcases List.mem_or_eq_of_mem_set hx with q | q
  · exact h x q
  · rw [q]; exact hw
theorem mulRow_step (x : Nat) (b q : List Nat) (j c : Nat) (hj : j < b.length) (hq : j < q.length) : mulRow x (b.drop j) (q.drop j) c = (x * b.getD j 0 + q.getD j 0 + c) % B32 :: mulRow x (b.drop (j + 1)) (q.drop (j + 1)) ((x * b.getD j 0 + q.getD j 0 + c) / B32) := by
  rw [List.drop_eq_getElem_cons hj, List.drop_eq_getElem_cons hq, mulRow]
  simp only [List.getD_eq_getElem?_getD, List.getElem?_eq_getElem hj, List.getElem?_eq_getElem hq, Option.getD_some]
theorem mulRow_end (x : Nat) (q : List Nat) (j c : Nat) (hq : j < q.length) : mulRow x [] (q.drop j) c = c :: q.drop (j + 1) := by
  rw [List.drop_eq_getElem_cons hq, mulRow]
theorem mulL_step (a b q : List Nat) (i : Nat) (hi : i < a.length) {o : Nat} {r : List Nat} (h : mulRow (a.getD i 0) b q 0 = o :: r) : mulL (a.drop i) b q = o :: mulL (a.drop (i + 1)) b r := by
  rw [List.drop_eq_getElem_cons hi, mulL]
  have : a.getD i 0 = a[i] := by rw [List.getD_eq_getElem?_getD, List.getElem?_eq_getElem hi]; rfl
  rw [← this, h]
theorem prod_lt {x y o c : Nat} (hx : x < B32) (hy : y < B32) (ho : o < B32) (hc : c < B32) : x * y + o + c < B64 ∧ (x * y + o + c) / B32 < B32 := by
  have e1 : B32 = 4294967296 := rfl
  have e2 : B64 = 18446744073709551616 := rfl
  rw [e1] at hx hy ho hc ⊢
  rw [e2]
  have h1 : x * y ≤ 4294967295 * 4294967295 := Nat.mul_le_mul (by omega) (by omega)
  refine ⟨by omega, (Nat.div_lt_iff_lt_mul (by decide)).2 (by omega)⟩
theorem app_getD (p q : List Nat) (j : Nat) : (p ++ q).getD (p.length + j) 0 = q.getD j 0 := by
  rw [List.getD_eq_getElem?_getD, List.getD_eq_getElem?_getD, List.getElem?_append_right (by omega)]
  congr 2
  omega
theorem app_set (p q : List Nat) (j w : Nat) : (p ++ q).set (p.length + j) w = p ++ q.set j w := by
  rw [List.set_append_right _ _ (by omega)]
  congr 2
  omega
set_option maxHeartbeats 2000000 in
theorem times_ok {cf : CF} {fuel : Nat} {H : AHeap} {a b : List Nat} (ha : digL a) (hb : digL b) (hla : a.length ≤ 1000) (hlb : b.length ≤ 1000) (hf : 1001 < fuel)
    (hT : ∀ H v l, MagL H v l → l.length ≤ 2000 → ∃ v' H', cf 53 [v] H = some (v', H') ∧ (MagL H' v' (trimL l) ∧ Same H H')) :
    ∃ v H', xfunc cf fuel L81 [digI a, digI b] H = some (v, H') ∧ (MagL H' v (trimL (mulL a b (List.replicate (a.length + b.length) 0))) ∧ Same H H') := by
  refine xfunc_ofK rfl (by show 2 ≤ 68; omega) ?_
  have hF0 := HF.start H
  have e1 : B32 = 4294967296 := rfl
  unfold L81
  dsimp only
  repeat' (first | refine WK.seq ?_ | (apply WK.reg; (· exact lnn)) | refine WKO.nil ?_ | ((first | apply WKO.op); (· first | exact k_mv rfl | exact k_lenD rfl | exact opA); (· rfl)) | refine pN ?_ | fail)
  refine WKO.mkO (m := a.length + b.length) rfl rfl ⟨by omega, by decide⟩ hF0 rfl (by simp only [next_bump]; omega) ?_
  intro H1 hF1 hn1
  rw [replicate_u32] at hF1
  repeat' (first | refine WK.seq ?_ | refine WK.block ?_ | (apply WK.reg; (· exact lnn)) | refine WKO.nil ?_ | ((first | apply WKO.op); (· first | exact k_mv rfl | exact k_lenD rfl); (· rfl)) | refine pN ?_ | fail)
  refine WK.loop (α := Nat × List Nat × List Nat) (fun s => [(0, digI a), (1, digI b), (5, .sl ((H.bump 1).bump 7).next 0 (a.length + b.length) (a.length + b.length)), (18, digI a), (19, nA a.length), (20, nA s.1)])
    (fun s H' => ∃ T, HF H [] T [(((H.bump 1).bump 7).next, .cells ((s.2.1 ++ s.2.2).map u32) none)] H' ∧ s.2.1.length = s.1 ∧ s.1 + s.2.2.length = a.length + b.length ∧ s.1 ≤ a.length ∧ digL (s.2.1 ++ s.2.2) ∧ s.2.1 ++ mulL (a.drop s.1) b s.2.2 = mulL a b (List.replicate (a.length + b.length) 0)) (fun s => a.length - s.1) (0, [], List.replicate (a.length + b.length) 0) (.cons rfl <| .cons rfl <| .cons rfl <| .cons rfl <| .cons rfl <| .cons rfl <| .nil _) ?_ (by show a.length - 0 < fuel; omega) ?_
  · refine ⟨_, hF1.up (by rfl) (by simp only [next_bump, hn1]; omega), rfl, by simp, Nat.zero_le _, ?_, rfl⟩
    intro x hx
    rw [List.nil_append] at hx
    rw [List.eq_of_mem_replicate hx]
    decide
  · rintro ⟨i, p, q⟩ H2 ⟨T, hF2, hp, hq, hi, hd, hs⟩
    simp only at hF2 hp hq hi hd hs ⊢
    repeat' (first | refine WK.seq ?_ | refine WK.skip ?_ | refine WK.exit ?_ | refine WK.block ?_ | (apply WK.reg; (· exact lnn)) | refine WKO.nil ?_ | ((first | apply WKO.op); (· first | exact k_mv rfl | exact k_lenD rfl | exact k_iaD rfl rfl (by omega) | exact k_ldD rfl (by omega) | exact opA); (· rfl)) | refine pN ?_ | refine pX ?_ | refine bX ?_ | (apply WK.condD; (· rfl); all_goals intro _) | fail)
    · have hx := dig_lt ha i
      refine WK.loop (α := Nat × List Nat × Nat) (fun s => [(0, digI a), (1, digI b), (5, .sl ((H.bump 1).bump 7).next 0 (a.length + b.length) (a.length + b.length)), (6, nA i), (7, u32 (a.getD i 0)), (8, u64 s.2.2), (18, digI a), (19, nA a.length), (20, nA i), (25, digI b), (26, nA b.length), (27, nA s.1)])
        (fun s H' => ∃ T, HF H [] T [(((H.bump 1).bump 7).next, .cells ((p ++ s.2.1).map u32) none)] H' ∧ s.2.1.length = q.length ∧ s.1 ≤ b.length ∧ s.2.2 < B32 ∧ digL (p ++ s.2.1) ∧ s.2.1.take s.1 ++ mulRow (a.getD i 0) (b.drop s.1) (s.2.1.drop s.1) s.2.2 = mulRow (a.getD i 0) b q 0) (fun s => b.length - s.1) (0, q, 0) ?_ ?_ (by show b.length - 0 < fuel; omega) ?_
      · exact .cons rfl <| .cons rfl <| .cons rfl <| .cons rfl <| .cons rfl <| .cons (by rw [u64_int]; rfl) <| .cons rfl <| .cons rfl <| .cons rfl <| .cons rfl <| .cons rfl <| .cons rfl <| .nil _
      · exact ⟨_, hF2.up (by rfl) (by simp only [next_bump]; omega), rfl, Nat.zero_le _, (by decide : 0 < B32), hd, rfl⟩
      · rintro ⟨j, w, c⟩ H3 ⟨T3, hF3, hw, hj, hc, hd3, hs3⟩
        simp only at hF3 hw hj hc hd3 hs3 ⊢
        have hlen : (p ++ w).length = a.length + b.length := by rw [List.length_append]; omega
        have hpr := prod_lt hx (dig_lt hb j) (dig_lt hd3 (i + j)) hc
        repeat' (first | refine WK.seq ?_ | refine WK.skip ?_ | refine WK.exit ?_ | refine WK.block ?_ | (apply WK.reg; (· exact lnn)) | refine WKO.nil ?_ | ((first | apply WKO.op); (· first | exact k_mv rfl | exact k_iaD rfl rfl (by omega) | exact k_ldD rfl (by omega) | exact k_c64 rfl (dig_lt ha _) | exact k_c64 rfl (dig_lt hb _) | exact k_c64 rfl (dig_lt hd3 _) | exact k_ia1s rfl rfl (by omega) | exact k_mul64 rfl rfl (by omega) | (apply k_ldO; (· rfl); (· exact hF3); (· rfl); (· exact .head _); (· exact map_get (by omega))) | exact k_add64 rfl rfl (by omega) | exact k_c32 rfl | exact k_shr64 rfl | exact opA); (· rfl)) | refine pN ?_ | refine pX ?_ | refine bX ?_ | (apply WK.condD; (· rfl); all_goals intro _) | fail)
        · refine WKO.stN (f := u32) (N := p ++ w) (p := i + j) rfl rfl (u32_cells _) (u32_one _) hF3 rfl nxx (.inr (by simp only [next_bump]; omega)) (by omega) ?_
          intro H4 hF4 hn4
          repeat' (first | (apply WK.reg; (· exact lnn)) | refine WKO.nil ?_ | ((first | apply WKO.op); (· first | exact k_mv rfl | exact opA); (· rfl)) | refine pN ?_ | refine bN ?_ | fail)
          have ho : (p ++ w).getD (i + j) 0 = w.getD j 0 := by rw [← hp]; exact app_getD _ _ _
          rw [ho] at hF4 hpr ⊢
          have hset : ∀ v, (p ++ w).set (i + j) v = p ++ w.set j v := fun v => by rw [← hp]; exact app_set _ _ _ _
          refine ⟨(j + 1, w.set j ((a.getD i 0 * b.getD j 0 + w.getD j 0 + c) % B32), (a.getD i 0 * b.getD j 0 + w.getD j 0 + c) / B32), (.cons rfl <| .cons rfl <| .cons rfl <| .cons rfl <| .cons rfl <| .cons rfl <| .cons rfl <| .cons rfl <| .cons rfl <| .cons rfl <| .cons rfl <| .cons rfl <| .nil _), ⟨T3, ?_, by simp [hw], by show j + 1 ≤ b.length; omega, hpr.2, ?_, ?_⟩, by show b.length - (j + 1) < b.length - j; omega⟩
          · rw [hset] at hF4
            exact hF4.up (by rfl) (by simp only [next_bump] at *; omega)
          · simp only
            rw [← hset]
            exact digL_set hd3 _ (Nat.mod_lt _ (by decide))
          · simp only
            rw [← hs3, mulRow_step _ b w j c (by omega) (by omega), List.take_add_one, List.getElem?_set_self (by omega), List.take_set_of_le (Nat.le_refl j), List.drop_set_of_lt (Nat.lt_succ_self j)]
            simp
        · refine ⟨fun _ => ?_, fun q => absurd rfl q⟩
          have hjb : j = b.length := by omega
          subst hjb
          repeat' (first | (apply WK.reg; (· exact lnn)) | ((first | apply WKO.op); (· first | exact k_mv rfl | exact k_lenD rfl | exact k_c32 rfl | exact k_ia1s rfl rfl (by omega) | exact opA); (· rfl)) | fail)
          refine WKO.stN (f := u32) (N := p ++ w) (p := i + b.length) rfl rfl (u32_cells _) (u32_one _) hF3 rfl nxx (.inr (by simp only [next_bump]; omega)) (by omega) ?_
          intro H4 hF4 hn4
          repeat' (first | (apply WK.reg; (· exact lnn)) | refine WKO.nil ?_ | ((first | apply WKO.op); (· first | exact k_mv rfl | exact opA); (· rfl)) | refine pN ?_ | refine bN ?_ | fail)
          rw [Nat.mod_eq_of_lt hc] at hF4
          have hset : (p ++ w).set (i + b.length) c = p ++ w.set b.length c := by rw [← hp]; exact app_set _ _ _ _
          have hrow : mulRow (a.getD i 0) b q 0 = w.set b.length c := by
            rw [← hs3, List.drop_eq_nil_of_le (Nat.le_refl _), mulRow_end _ _ _ _ (by omega), List.set_eq_take_append_cons_drop, if_pos (by omega)]
          have hd4 : digL (p ++ w.set b.length c) := by rw [← hset]; exact digL_set hd3 _ hc
          obtain ⟨o, r, hor⟩ : ∃ o r, w.set b.length c = o :: r := by
            cases hq2 : w.set b.length c with
            | nil =>
              have : (w.set b.length c).length = 0 := by rw [hq2]; rfl
              rw [List.length_set] at this
              omega
            | cons o r => exact ⟨o, r, rfl⟩
          have hlr : r.length + 1 = q.length := by
            have : (w.set b.length c).length = r.length + 1 := by rw [hor]; rfl
            rw [List.length_set] at this
            omega
          refine ⟨(i + 1, p ++ [o], r), (.cons rfl <| .cons rfl <| .cons rfl <| .cons rfl <| .cons rfl <| .cons rfl <| .nil _), ⟨T3, ?_, by simp [hp], by show i + 1 + r.length = a.length + b.length; omega, by show i + 1 ≤ a.length; omega, ?_, ?_⟩, by show a.length - (i + 1) < a.length - i; omega⟩
          · rw [hset, hor] at hF4
            have : p ++ [o] ++ r = p ++ o :: r := by simp
            rw [← this] at hF4
            exact hF4.up (by rfl) (by simp only [next_bump] at *; omega)
          · rw [hor] at hd4
            simpa using hd4
          · simp only
            rw [← hs, mulL_step a b q i (by omega) (by rw [hrow, hor])]
            simp
    · refine ⟨fun _ => ?_, fun q => absurd rfl q⟩
      have hia : i = a.length := by omega
      subst hia
      repeat' (first | refine WK.seq ?_ | (apply WK.reg; (· exact lnn)) | ((first | apply WKO.op); (· first | exact k_mv rfl); (· rfl)) | fail)
      have hM : MagL H2 (.sl ((H.bump 1).bump 7).next 0 (a.length + b.length) (a.length + b.length)) (p ++ q) := .inr ⟨_, _, (p ++ q).map u32, none, by rw [List.length_append, hp, hq], by rw [List.length_append, hp, hq]; exact Nat.le_refl _, by unfold openAt; omega, hF2.obj _ (List.mem_cons_self ..), by rw [List.take_of_length_le (by simp)], by simp, Nat.lt_of_lt_of_le (hF2.lt _ (List.mem_cons_self ..)) hF2.le⟩
      have hS2 : Same H H2 := ⟨Nat.le_trans hF2.base hF2.le, fun j hj => hF2.fr j hj (by simp)⟩
      refine WKO.callV rfl rfl rfl (hT _ _ _ (hM.same ((Same.bump _ 1).trans (Same.bump _ 3))) (by rw [List.length_append, hp, hq]; omega)) ?_
      rintro v H4 ⟨m4, s4⟩
      repeat' (first | refine WK.ret ?_ | refine WKO.nil ?_ | ((first | apply WKO.op); (· first | exact k_mv rfl); (· rfl)) | refine pN ?_ | fail)
      refine ⟨fun id q => (by cases q), [v], rfl, ?_, hS2.trans (((Same.bump _ 1).trans (Same.bump _ 3)).trans s4)⟩
      rw [← hs, List.drop_eq_nil_of_le (Nat.le_refl _), mulL]
      exact m4
end Go.Proofs.YtfcgofffalmdfaaDoor.PA
namespace Go.Eng
theorem xtrace_app {cf : CF} : ∀ (a b : List XOper) (n : Nat) (s s1 : St) (tr tr2 : List St), xtrace cf a n s = some tr → tr.getLast? = some s1 → xtrace cf b (n + a.length) s1 = some tr2 → xtrace cf (a ++ b) n s = some (tr.dropLast ++ tr2)
  | [], b, n, s, s1, tr, tr2, h, h1, h2 => by
    cases h
    simp only [List.getLast?_singleton, Option.some.injEq] at h1
    subst h1
    simpa using h2
  | o :: a, b, n, s, s1, tr, tr2, h, h1, h2 => by
    simp only [xtrace] at h
    split at h
    · rename_i s2 hs
      obtain ⟨tr1, h3, rfl⟩ := Option.map_eq_some_iff.1 h
      have hne : tr1 ≠ [] := by
        intro q
        subst q
        have := xtrace_len _ _ _ _ h3
        simp at this
      have h4 : tr1.getLast? = some s1 := by
        cases tr1 with
        | nil => exact absurd rfl hne
        | cons x r => rwa [List.getLast?_cons_cons] at h1
      have := xtrace_app a b (n + 1) s2 s1 tr1 tr2 h3 h4 (by rw [List.length_cons] at h2; rwa [show n + 1 + a.length = n + (a.length + 1) by omega])
      simp only [List.cons_append, xtrace, hs, this, Option.map_some]
      rw [List.dropLast_cons_of_ne_nil hne]
      rfl
    · cases h
theorem loose_calm2 {cf : CF} {ops r : List XOper} {lo : List (Nat × List Nat × List Nat)} {tm : Tr AV} {H : AHeap} {n b : Nat} {tr : List St} (h1 : xtrace cf (ops ++ r) n ⟨tm, H⟩ = some tr) (h2 : ∀ (i : Nat) (t : St), i ≤ ops.length → tr[i]? = some t → t.H = H) (hlo : lo.all (looseB ops) = true) : lo.all (looseOk (ops ++ r) tr b []) = true := by
  rw [List.all_eq_true] at hlo ⊢
  intro l hl
  have hb := hlo l hl
  unfold looseB at hb
  rw [Bool.and_eq_true, Bool.and_eq_true] at hb
  obtain ⟨⟨b1, b2⟩, b3⟩ := hb
  have b1' : l.2.2 = [] := by simpa using b1
  have hlen := xtrace_len _ _ _ _ h1
  have hin : ∀ i ∈ (l.1 :: (l.2.1 ++ l.2.1.map (· + 1))), ∃ si, tr[i]? = some si ∧ si.H = H := by
    intro i hi
    rw [List.all_eq_true] at b2
    have := b2 i hi
    have hi1 : i ≤ ops.length := Nat.le_of_ble_eq_true this
    have hi' : i < tr.length := by rw [hlen, List.length_append]; omega
    exact ⟨tr[i], List.getElem?_eq_getElem hi', h2 i _ hi1 (List.getElem?_eq_getElem hi')⟩
  split at b3
  · rename_i d m x g ho
    have hol : l.1 < ops.length := by
      rcases Nat.lt_or_ge l.1 ops.length with q | q
      · exact q
      · rw [List.getElem?_eq_none q] at ho; cases ho
    have ho' : (ops ++ r)[l.1]? = some { dst := d, op := XOp.load m x, guard := g } := by rw [List.getElem?_append_left hol]; exact ho
    obtain ⟨t, t', q1, q2⟩ := xtrace_at _ _ _ _ h1 _ _ ho'
    have ht : t.H = H := h2 _ t (Nat.le_of_lt hol) q1
    unfold looseOk
    rw [ho', q1]
    dsimp only
    unfold xstep at q2
    generalize wantedA t.tm { dst := d, op := XOp.load m x, guard := g } = wd at q2 ⊢
    cases wd with
    | none => cases q2
    | some wb =>
      cases wb with
      | false => rfl
      | true =>
        dsimp only at q2 ⊢
        have hv : ∃ y, ∀ n, xop (St.ev t.tm) t.H n (XOp.load m x) = .v y := by
          cases hx : (St.ev t.tm x).bind (loadA t.H m) with
          | none => simp only [xval, xop, hx, AR.ofV] at q2; cases q2
          | some y => exact ⟨y, fun n => by simp only [xop, hx, AR.ofV]⟩
        obtain ⟨y, hy⟩ := hv
        rw [hy 0]
        dsimp only
        rw [List.all_eq_true]
        intro i hi
        obtain ⟨si, s1, s2⟩ := hin i hi
        rw [s1]
        dsimp only
        rw [b1', List.filter_nil]
        simp only [AHeap.less]
        rw [s2, ← ht, hy 0]
        exact AV.beq_refl y
  · cases b3
theorem WK.regCS {cf : CF} {fuel : Nat} {l : KL0} {H : AHeap} {Q : XE → KL0 → AHeap → Prop} {pre : List XOper} {st : XOper} {lo : List (Nat × List Nat × List Nat)} {k : Nat} (hk : (pre ++ [st]).length = k) (hlo : lo.all (looseB pre) = true)
    (h : WKC cf pre H.next l (H.bump k) fun l' => WKO cf [st] (H.next + pre.length) l' (H.bump k) fun l'' H'' => Q .normal l'' H'') : WK cf fuel (.regd (pre ++ [st]) lo []) l H Q := by
  unfold WK
  intro tm ht
  refine W.regd k hk ?_
  unfold WKC at h
  have h1 := h tm ht
  unfold WC at h1
  obtain ⟨tr, q1, q1', s', q2, q3, l', q4, q5⟩ := h1
  unfold WKO at q5
  have h2 := q5 s'.tm q4
  unfold WO at h2
  obtain ⟨s2, r1, l2, r2, r3⟩ := h2
  have hs' : (⟨s'.tm, H.bump k⟩ : St) = s' := by cases s'; simp only at q3; subst q3; rfl
  rw [hs'] at r1
  have hx : xtrace cf [st] (H.next + pre.length) s' = some [s', s2] := by
    simp only [xops] at r1
    simp only [xtrace]
    split at r1
    · rename_i s3 h3
      cases r1
      simp only [h3, Option.map_some]
    · cases r1
  have htr := xtrace_app pre [st] _ _ _ _ _ q1 q2 hx
  have hl1 := xtrace_len _ _ _ _ q1
  unfold WT
  refine ⟨_, htr, loose_calm2 htr (fun i t hi hit => ?_) hlo, by simp [freshOk], s2, by simp, l2, r2, r3⟩
  by_cases hip : i < tr.dropLast.length
  · rw [List.getElem?_append_left hip] at hit
    exact q1' t (List.dropLast_subset _ (List.mem_of_getElem? hit))
  · rw [List.getElem?_append_right (by omega)] at hit
    have : i - tr.dropLast.length = 0 := by rw [List.length_dropLast] at hip ⊢; omega
    rw [this] at hit
    simp only [List.getElem?_cons_zero, Option.some.injEq] at hit
    rw [← hit]
    exact q3
theorem WK.regC1 {cf : CF} {fuel : Nat} {l : KL0} {H : AHeap} {Q : XE → KL0 → AHeap → Prop} {ops : List XOper} {st : XOper} {lo : List (Nat × List Nat × List Nat)} (m : Nat) (hm : m + 1 = ops.length) (hd : ops.drop m = [st]) (hlo : lo.all (looseB (ops.take m)) = true)
    (h : WKC cf (ops.take m) H.next l (H.bump (m + 1)) fun l' => WKO cf [st] (H.next + m) l' (H.bump (m + 1)) fun l'' H'' => Q .normal l'' H'') : WK cf fuel (.regd ops lo []) l H Q := by
  have e : ops = ops.take m ++ [st] := by rw [← hd, List.take_append_drop]
  have hl : (ops.take m).length = m := by rw [List.length_take]; omega
  rw [e]
  exact WK.regCS (by rw [List.length_append, hl, List.length_singleton]) hlo (by rw [hl]; exact h)
end Go.Eng
namespace Go.Proofs.YtfcgofffalmdfaaDoor.PA
open Go Go.Eng Go.Proofs
theorem mixed : Tryd.prog.follows .mixedOrders = true := by kernel_rfl
def Kno : CF := fun _ _ _ => none
theorem Kno_ok : CFok Tryd.prog Kno := fun _ _ _ _ _ h => by cases h
theorem cfstep {K : CF} {fuel k f : Nat} {fn : XFunc} {args : List AV} {H : AHeap} (hK : K f args H = none) (hF : F f = some fn) : xcallK K F fuel (k + 1) f args H = xfunc (xcallK K F fuel k) fuel fn args H := by rw [xcallK, hK, hF]
theorem cfhit {K : CF} {fuel k f : Nat} {args : List AV} {H : AHeap} {r : AV × AHeap} (hK : K f args H = some r) : xcallK K F fuel k f args H = some r := by
  cases k with
  | zero => rw [xcallK]; exact hK
  | succ k => rw [xcallK, hK]
theorem add32_call {x y c : Nat} (hx : x < B32) (hy : y < B32) (hc : c < B32) (H : AHeap) : CallOK Tryd.prog 79 [u32 x, u32 y, u32 c] H (.tup [u32 ((x + y + c) % B32), u32 ((x + y + c) / B32)]) H := by
  obtain ⟨v, H', h, rfl, _⟩ := add32_ok (cf := xcallK Kno F 2000 0) (fuel := 2000) (H := ⟨.e, 0⟩) hx hy hc
  have h2 := xcallK_sound mixed Kno_ok F_ok 2000 1 79 _ _ _ _ ((cfstep rfl rfl).trans h)
  refine h2.pure (by simp [AV.frozL, u32_froz]) (Fz.froz (by simp [AV.froz, AV.frozL, u32_froz]))
def KA : CF := fun f args H => match f, args with
  | 79, [.int .u32 (.ofNat x), .int .u32 (.ofNat y), .int .u32 (.ofNat c)] => if x < B32 ∧ y < B32 ∧ c < B32 then some (.tup [u32 ((x + y + c) % B32), u32 ((x + y + c) / B32)], H) else none
  | _, _ => none
theorem u32_of (n : Nat) : u32 n = .int .u32 (.ofNat n) := u32_int n
theorem KA_ok : CFok Tryd.prog KA := by
  intro f args H v H' h
  unfold KA at h
  split at h
  · split at h
    · rename_i hb
      cases h
      have := add32_call hb.1 hb.2.1 hb.2.2 H
      rwa [u32_of, u32_of, u32_of] at this
    · cases h
  · cases h
theorem KA_79 {x y c : Nat} (hx : x < B32) (hy : y < B32) (hc : c < B32) (H : AHeap) : KA 79 [u32 x, u32 y, u32 c] H = some (.tup [u32 ((x + y + c) % B32), u32 ((x + y + c) / B32)], H) := by
  rw [u32_of x, u32_of y, u32_of c]
  show (if x < B32 ∧ y < B32 ∧ c < B32 then _ else none) = _
  rw [if_pos ⟨hx, hy, hc⟩]
theorem trim_call {fuel k : Nat} (hf : 2001 < fuel) (H : AHeap) (v : AV) (l : List Nat) (hv : MagL H v l) (hl : l.length ≤ 2000) : ∃ v' H', xcallK KA F fuel (k + 1) 53 [v] H = some (v', H') ∧ (MagL H' v' (trimL l) ∧ Same H H') := by
  obtain ⟨v', H', h1, h2, h3⟩ := trim_ok (cf := xcallK KA F fuel k) (fuel := fuel) hv (by omega) (by omega)
  exact ⟨v', H', (cfstep rfl rfl).trans h1, h2, h3⟩
theorem plus_call {m n : Nat} (hm : m < bigN) (hn : n < bigN) (H : AHeap) : CallOK Tryd.prog 54 [digA (limbs m), digA (limbs n)] H (digA (limbs (m + n))) H := by
  have h1 := limbs20 hm
  have h2 := limbs20 hn
  obtain ⟨v, H', h, hM, _⟩ := plus_ok (cf := xcallK KA F 3000 1) (fuel := 3000) (H := ⟨.e, 0⟩) (digL_limbs m) (digL_limbs n) (by omega) (by omega) (by omega) (fun H v l q1 q2 => trim_call (by omega) H v l q1 (by omega)) (fun H x y c q1 q2 q3 => cfhit (KA_79 q1 q2 q3 H))
  have h3 := xcallK_sound mixed KA_ok F_ok 3000 2 54 _ _ _ _ ((cfstep rfl rfl).trans h)
  rw [← digI_eq, ← digI_eq] at h3
  refine h3.pure (by simp [AV.frozL, digA_froz]) ?_
  have e : trimL (if (limbs m).length < (limbs n).length then addL (limbs n) (limbs m) 0 else addL (limbs m) (limbs n) 0) = limbs (m + n) := by
    split
    · rw [addL_limbs _ _ (by omega), Nat.add_comm]
    · rw [addL_limbs _ _ (by omega)]
  rw [e] at hM
  exact hM.fz (fun i _ => get_e0 i)
theorem times_call {m n : Nat} (hm : m < bigN) (hn : n < bigN) (H : AHeap) : CallOK Tryd.prog 81 [digA (limbs m), digA (limbs n)] H (digA (limbs (m * n))) H := by
  have h1 := limbs20 hm
  have h2 := limbs20 hn
  obtain ⟨v, H', h, hM, _⟩ := times_ok (cf := xcallK KA F 3000 1) (fuel := 3000) (H := ⟨.e, 0⟩) (digL_limbs m) (digL_limbs n) (by omega) (by omega) (by omega) (fun H v l q1 q2 => trim_call (by omega) H v l q1 (by omega))
  rw [mulL_limbs] at hM
  have h3 := xcallK_sound mixed KA_ok F_ok 3000 2 81 _ _ _ _ ((cfstep rfl rfl).trans h)
  rw [← digI_eq, ← digI_eq] at h3
  refine h3.pure (by simp [AV.frozL, digA_froz]) ?_
  exact hM.fz (fun i _ => get_e0 i)
end Go.Proofs.YtfcgofffalmdfaaDoor.PA
