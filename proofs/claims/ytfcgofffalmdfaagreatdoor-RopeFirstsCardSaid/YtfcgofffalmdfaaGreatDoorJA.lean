/- The abstract machine's data: values with names for blocks, heaps as tries, and how they stand to a world. No condition. -/
import Derived.Below
import Derived.Orders
import Derived.DeepKeys5
import Derived.Laws.IdiomCopy
import Derived.Laws.StructEq
import Derived.Laws.Cover3
import Derived.Laws.Pointers
import Derived.WideLaws
import Derived.Laws.Tables
set_option linter.unusedSectionVars false
set_option linter.unusedVariables false
set_option linter.unusedSimpArgs false
section
namespace Go.Eng
inductive Tr (α : Type) where
  | e
  | n (l : Tr α) (v : Option α) (r : Tr α)
namespace Tr
variable {α : Type}
def get : Tr α → Nat → Option α
  | .e, _ => none
  | .n l v r, i => match i with
    | 0 => v
    | i + 1 => if i % 2 == 0 then l.get (i / 2) else r.get (i / 2)
def setF : Nat → Tr α → Nat → Option α → Tr α
  | 0, t, _, _ => t
  | k + 1, t, i, x =>
    match t with
    | .e => match i with
      | 0 => .n .e x .e
      | i + 1 => if i % 2 == 0 then .n (setF k .e (i / 2) x) none .e else .n .e none (setF k .e (i / 2) x)
    | .n l v r => match i with
      | 0 => .n l x r
      | i + 1 => if i % 2 == 0 then .n (setF k l (i / 2) x) v r else .n l v (setF k r (i / 2) x)
def set (t : Tr α) (i : Nat) (x : Option α) : Tr α := setF (i + 1) t i x
theorem get_e (i : Nat) : (Tr.e : Tr α).get i = none := by simp [get]
theorem get_setF : ∀ (k : Nat) (t : Tr α) (i j : Nat) (x : Option α), i < k → (setF k t i x).get j = if j = i then x else t.get j := by
  intro k
  induction k with
  | zero => intro t i j x h; omega
  | succ k ih =>
    intro t i j x h
    cases t with
    | e =>
      cases i with
      | zero => cases j with
        | zero => simp [setF, get]
        | succ j => simp [setF, get]
      | succ i =>
        by_cases hp : i % 2 = 0
        · cases j with
          | zero => simp [setF, get, hp]
          | succ j =>
            simp only [setF, hp, get, beq_self_eq_true, if_true]
            by_cases hq : j % 2 = 0
            · simp only [hq, beq_self_eq_true, if_true]
              rw [ih _ _ _ _ (by omega)]
              by_cases hj : j = i
              · subst hj; simp
              · rw [if_neg (by omega), if_neg (by omega)]; simp [get]
            · have : (j % 2 == 0) = false := by simpa using hq
              simp only [this]
              rw [if_neg (by simp), if_neg (by intro hh; apply hq; have : j = i := by omega
                                               subst this; exact hp)]
        · have hp' : (i % 2 == 0) = false := by simpa using hp
          cases j with
          | zero => simp [setF, get, hp']
          | succ j =>
            simp only [setF, hp', get, Bool.false_eq_true, if_false]
            by_cases hq : j % 2 = 0
            · simp only [hq, beq_self_eq_true, if_true]
              rw [if_neg (by intro hh; apply hp; have : j = i := by omega
                             subst this; exact hq)]
            · have : (j % 2 == 0) = false := by simpa using hq
              simp only [this, Bool.false_eq_true, if_false]
              rw [ih _ _ _ _ (by omega)]
              by_cases hj : j = i
              · subst hj; simp
              · rw [if_neg (by omega), if_neg (by omega)]; simp [get]
    | n l v r =>
      cases i with
      | zero => cases j with
        | zero => simp [setF, get]
        | succ j => simp [setF, get]
      | succ i =>
        by_cases hp : i % 2 = 0
        · cases j with
          | zero => simp [setF, get, hp]
          | succ j =>
            simp only [setF, hp, get, beq_self_eq_true, if_true]
            by_cases hq : j % 2 = 0
            · simp only [hq, beq_self_eq_true, if_true]
              rw [ih _ _ _ _ (by omega)]
              by_cases hj : j = i
              · subst hj; simp
              · rw [if_neg (by omega), if_neg (by omega)]
            · have : (j % 2 == 0) = false := by simpa using hq
              simp only [this, Bool.false_eq_true, if_false]
              rw [if_neg (by intro hh; apply hq; have : j = i := by omega
                             subst this; exact hp)]
        · have hp' : (i % 2 == 0) = false := by simpa using hp
          cases j with
          | zero => simp [setF, get, hp']
          | succ j =>
            simp only [setF, hp', get, Bool.false_eq_true, if_false]
            by_cases hq : j % 2 = 0
            · simp only [hq, beq_self_eq_true, if_true]
              rw [if_neg (by intro hh; apply hp; have : j = i := by omega
                             subst this; exact hq)]
            · have : (j % 2 == 0) = false := by simpa using hq
              simp only [this, Bool.false_eq_true, if_false]
              rw [ih _ _ _ _ (by omega)]
              by_cases hj : j = i
              · subst hj; simp
              · rw [if_neg (by omega), if_neg (by omega)]
theorem get_set (t : Tr α) (i j : Nat) (x : Option α) : (t.set i x).get j = if j = i then x else t.get j :=
  get_setF (i + 1) t i j x (by omega)
theorem get_set_self (t : Tr α) (i : Nat) (x : Option α) : (t.set i x).get i = x := by simp [get_set]
theorem get_set_ne (t : Tr α) {i j : Nat} (x : Option α) (h : j ≠ i) : (t.set i x).get j = t.get j := by simp [get_set, h]
end Tr
inductive AV where
  | bool (b : Bool)
  | int (k : IntKind) (n : Int)
  | str (s : List UInt8)
  | ptr (i o : Nat)
  | nilp
  | sl (i o l c : Nat)
  | nils
  | map (i : Nat)
  | nilm
  | fn (f : Nat) (cap : List AV)
  | nilf
  | ifc (t : Nat) (v : AV)
  | nili
  | agg (l : List AV)
  | tup (l : List AV)
  | imm (cs : List AV) (l : Nat) (full : Bool)
  | iptr (cs : List AV) (o : Nat)
  | glob (g o : Nat)
instance : Inhabited AV := ⟨.nilp⟩
def openAt : Nat := 2 ^ 61
def openCap : Nat := 2 ^ 62
structure Loc where
  b : Nat
  s : Nat
  room : Nat
structure Env where
  ρ : Nat → Option Loc
  I : Nat → Prop
  lk : Nat → Option (Array MapEntry × Nat)
def SlR (L : Loc) (o l c : Nat) (a : Addr) (c' : Nat) : Prop :=
  (c < openAt ∧ c' = c ∧ (c = 0 ∨ a = ⟨L.b, L.s + o, none⟩)) ∨
  (openAt ≤ c ∧ (∃ k, c + k = openCap ∧ c' + k = L.room) ∧ (a = ⟨L.b, L.s + o, none⟩ ∨ (l = 0 ∧ c' = 0)))
mutual
def AVRel (E : Env) (w : World) : AV → Value → Prop
  | .bool b, v => v = .bool b
  | .int k n, v => v = .int k n
  | .str s, v => ∃ t : ByteArray, v = .string t ∧ t.data.toList = s
  | .ptr i o, v => ∃ L, E.ρ i = some L ∧ v = .pointer (some ⟨L.b, L.s + o, none⟩)
  | .nilp, v => v = .pointer none
  | .sl i o l c, v => ∃ L a c', E.ρ i = some L ∧ v = .slice (some a) l c' ∧ SlR L o l c a c' ∧ l ≤ c'
  | .nils, v => v = .slice none 0 0
  | .map i, v => ∃ L, E.ρ i = some L ∧ v = .map (some L.b)
  | .nilm, v => v = .map none
  | .fn f cap, v => ∃ us, v = .func (.func f) #[] us ∧ AVRelL E w cap us.toList
  | .nilf, v => v = .nilFunc
  | .ifc t x, v => ∃ u, v = .iface t u ∧ AVRel E w x u
  | .nili, v => v = .nilIface
  | .agg l, v => ∃ us, v = .agg us ∧ AVRelL E w l us.toList
  | .tup l, v => ∃ us, v = .tuple us ∧ AVRelL E w l us.toList
  | .imm cs l full, v => (l = 0 ∧ cs = [] ∧ ∃ a c, v = .slice a 0 c ∧ (full = true → c = 0)) ∨ ∃ b s c us, v = .slice (some ⟨b, s, none⟩) l c ∧ E.I b ∧ (∀ j u, us[j]? = some u → w.cell? ⟨b, s + j, none⟩ = some u) ∧
      AVRelL E w cs us ∧ l ≤ c ∧ (full = true → c = l)
  | .iptr cs o, v => ∃ b s us, v = .pointer (some ⟨b, s + o, none⟩) ∧ E.I b ∧ (∀ j u, us[j]? = some u → w.cell? ⟨b, s + j, none⟩ = some u) ∧ AVRelL E w cs us
  | .glob g o, v => v = .pointer (some ⟨g, o, none⟩)
def AVRelL (E : Env) (w : World) : List AV → List Value → Prop
  | [], us => us = []
  | x :: xs, us => ∃ u us', us = u :: us' ∧ AVRel E w x u ∧ AVRelL E w xs us'
end
structure Env.Ext (E E' : Env) (w w' : World) : Prop where
  ρ : ∀ i L, E.ρ i = some L → E'.ρ i = some L
  I : ∀ b, E.I b → E'.I b
  same : ∀ b, E.I b → w'.heap[b]? = w.heap[b]?
  lk : ∀ t x, E.ρ t ≠ none → E.lk t = some x → E'.lk t = some x
theorem cell_same {w w' : World} {b : Nat} (h : w'.heap[b]? = w.heap[b]?) (o : Nat) : w'.cell? ⟨b, o, none⟩ = w.cell? ⟨b, o, none⟩ := by
  simp only [World.cell?, h]
theorem Env.Ext.refl (E : Env) (w : World) : E.Ext E w w := ⟨fun _ _ h => h, fun _ h => h, fun _ _ => rfl, fun _ _ _ h => h⟩
theorem Env.Ext.trans {E1 E2 E3 : Env} {w1 w2 w3 : World} (a : E1.Ext E2 w1 w2) (b : E2.Ext E3 w2 w3) : E1.Ext E3 w1 w3 :=
  ⟨fun i L h => b.ρ i L (a.ρ i L h), fun x h => b.I x (a.I x h), fun x h => (b.same x (a.I x h)).trans (a.same x h), fun t x hn h => b.lk t x (by
    cases hq : E1.ρ t with
    | none => exact absurd hq hn
    | some L => rw [a.ρ t L hq]; simp) (a.lk t x hn h)⟩
mutual
theorem AVRel.mono {E E' : Env} {w w' : World} (x : Env.Ext E E' w w') : ∀ (v : AV) (u : Value), AVRel E w v u → AVRel E' w' v u
  | .bool _, _, h => by simpa [AVRel] using h
  | .int _ _, _, h => by simpa [AVRel] using h
  | .str _, _, h => by simpa [AVRel] using h
  | .ptr _ _, _, h => by
    simp only [AVRel] at h ⊢
    obtain ⟨L, h1, h2⟩ := h
    exact ⟨L, x.ρ _ _ h1, h2⟩
  | .nilp, _, h => by simpa [AVRel] using h
  | .sl _ _ _ _, _, h => by
    simp only [AVRel] at h ⊢
    obtain ⟨L, a, c, h1, h2⟩ := h
    exact ⟨L, a, c, x.ρ _ _ h1, h2⟩
  | .nils, _, h => by simpa [AVRel] using h
  | .map _, _, h => by
    simp only [AVRel] at h ⊢
    obtain ⟨L, h1, h2⟩ := h
    exact ⟨L, x.ρ _ _ h1, h2⟩
  | .nilm, _, h => by simpa [AVRel] using h
  | .fn _ cap, _, h => by
    simp only [AVRel] at h ⊢
    obtain ⟨us, h1, h2⟩ := h
    exact ⟨us, h1, AVRelL.mono x cap _ h2⟩
  | .nilf, _, h => by simpa [AVRel] using h
  | .ifc _ y, _, h => by
    simp only [AVRel] at h ⊢
    obtain ⟨us, h1, h2⟩ := h
    exact ⟨us, h1, AVRel.mono x y _ h2⟩
  | .nili, _, h => by simpa [AVRel] using h
  | .agg l, _, h => by
    simp only [AVRel] at h ⊢
    obtain ⟨us, h1, h2⟩ := h
    exact ⟨us, h1, AVRelL.mono x l _ h2⟩
  | .tup l, _, h => by
    simp only [AVRel] at h ⊢
    obtain ⟨us, h1, h2⟩ := h
    exact ⟨us, h1, AVRelL.mono x l _ h2⟩
  | .imm cs l f, _, h => by
    simp only [AVRel] at h ⊢
    rcases h with h | ⟨b, s, c, us, h1, h2, h3, h4, h5⟩
    · exact .inl h
    refine .inr ?_
    exact ⟨b, s, c, us, h1, x.I _ h2, fun j u hj => (cell_same (x.same b h2) _).trans (h3 j u hj), AVRelL.mono x cs _ h4, h5⟩
  | .iptr cs o, _, h => by
    simp only [AVRel] at h ⊢
    obtain ⟨b, s, us, h1, h2, h3, h4⟩ := h
    exact ⟨b, s, us, h1, x.I _ h2, fun j u hj => (cell_same (x.same b h2) _).trans (h3 j u hj), AVRelL.mono x cs _ h4⟩
  | .glob _ _, _, h => by simpa [AVRel] using h
theorem AVRelL.mono {E E' : Env} {w w' : World} (x : Env.Ext E E' w w') : ∀ (l : List AV) (us : List Value), AVRelL E w l us → AVRelL E' w' l us
  | [], _, h => by simpa [AVRelL] using h
  | y :: l, _, h => by
    simp only [AVRelL] at h ⊢
    obtain ⟨u, us, h1, h2, h3⟩ := h
    exact ⟨u, us, h1, AVRel.mono x y _ h2, AVRelL.mono x l _ h3⟩
end
theorem AVRelL.length {E : Env} {w : World} : ∀ {l : List AV} {us : List Value}, AVRelL E w l us → us.length = l.length
  | [], _, h => by simp only [AVRelL] at h; subst h; rfl
  | _ :: _, _, h => by
    simp only [AVRelL] at h
    obtain ⟨u, us, rfl, _, h3⟩ := h
    simp [AVRelL.length h3]
theorem AVRelL.get {E : Env} {w : World} : ∀ {l : List AV} {us : List Value} {j : Nat} {x : AV}, AVRelL E w l us → l[j]? = some x → ∃ u, us[j]? = some u ∧ AVRel E w x u
  | [], _, _, _, _, hj => by simp at hj
  | y :: l, _, j, x, h, hj => by
    simp only [AVRelL] at h
    obtain ⟨u, us, rfl, h2, h3⟩ := h
    cases j with
    | zero => simp at hj; subst hj; exact ⟨u, rfl, h2⟩
    | succ j => simpa using AVRelL.get h3 (by simpa using hj)
theorem AVRelL.append {E : Env} {w : World} : ∀ {l m : List AV} {us vs : List Value}, AVRelL E w l us → AVRelL E w m vs → AVRelL E w (l ++ m) (us ++ vs)
  | [], _, _, _, h, h' => by simp only [AVRelL] at h; subst h; simpa using h'
  | _ :: _, _, _, _, h, h' => by
    simp only [AVRelL] at h
    obtain ⟨u, us, rfl, h2, h3⟩ := h
    simp only [List.cons_append, AVRelL]
    exact ⟨u, _, rfl, h2, AVRelL.append h3 h'⟩
theorem AVRelL.of_get {E : Env} {w : World} : ∀ {l : List AV} {us : List Value}, us.length = l.length → (∀ (j : Nat) (x : AV) (u : Value), l[j]? = some x → us[j]? = some u → AVRel E w x u) → AVRelL E w l us
  | [], us, hl, _ => by simp only [AVRelL]; exact List.eq_nil_of_length_eq_zero hl
  | x :: l, [], hl, _ => by simp at hl
  | x :: l, u :: us, hl, h => by
    simp only [AVRelL]
    exact ⟨u, us, rfl, h 0 x u rfl rfl, AVRelL.of_get (by simpa using hl) fun j y v hj hv => h (j + 1) y v (by simpa using hj) (by simpa using hv)⟩
theorem AVRelL.drop {E : Env} {w : World} : ∀ {l : List AV} {us : List Value} (k : Nat), AVRelL E w l us → AVRelL E w (l.drop k) (us.drop k)
  | _, _, 0, h => by simpa using h
  | [], _, k + 1, h => by simp only [AVRelL] at h; subst h; simp [AVRelL]
  | _ :: _, _, k + 1, h => by
    simp only [AVRelL] at h
    obtain ⟨u, us, rfl, h2, h3⟩ := h
    simpa using AVRelL.drop k h3
theorem AVRelL.take {E : Env} {w : World} : ∀ {l : List AV} {us : List Value} (k : Nat), AVRelL E w l us → AVRelL E w (l.take k) (us.take k)
  | _, _, 0, _ => by simp [AVRelL]
  | [], _, k + 1, h => by simp only [AVRelL] at h; subst h; simp [AVRelL]
  | _ :: _, _, k + 1, h => by
    simp only [AVRelL] at h
    obtain ⟨u, us, rfl, h2, h3⟩ := h
    simp only [List.take_succ_cons, AVRelL]
    exact ⟨u, _, rfl, h2, AVRelL.take k h3⟩
theorem AVRelL.set {E : Env} {w : World} {x : AV} {u : Value} (hx : AVRel E w x u) : ∀ {l : List AV} {us : List Value} (k : Nat), AVRelL E w l us → AVRelL E w (l.set k x) (us.set k u)
  | [], _, _, h => by simp only [AVRelL] at h; subst h; simp [AVRelL]
  | _ :: _, _, 0, h => by
    simp only [AVRelL] at h
    obtain ⟨u', us, rfl, h2, h3⟩ := h
    simp only [List.set_cons_zero, AVRelL]
    exact ⟨u, us, rfl, hx, h3⟩
  | _ :: _, _, k + 1, h => by
    simp only [AVRelL] at h
    obtain ⟨u', us, rfl, h2, h3⟩ := h
    simp only [List.set_cons_succ, AVRelL]
    exact ⟨u', _, rfl, h2, AVRelL.set hx k h3⟩
inductive AObj where
  | cells (c : List AV) (opn : Option Nat)
  | map (es : List (AV × AV))
  | lmap (es : List (AV × AV)) (t : Nat)
structure AHeap where
  m : Tr AObj
  next : Nat
def AHeap.get (H : AHeap) (i : Nat) : Option AObj := H.m.get i
def AHeap.set (H : AHeap) (i : Nat) (o : Option AObj) : AHeap := { H with m := H.m.set i o }
def span (L : Loc) (n : Nat) : Option Nat → Nat
  | none => n
  | some z => max n (L.room * z)
def fits (L : Loc) (n : Nat) : Option Nat → Prop
  | none => True
  | some z => n ≤ L.room * z
def EntR (E : Env) (w : World) : List (AV × AV) → List MapEntry → Prop
  | [], es => es = []
  | (k, v) :: r, es => ∃ e es', es = e :: es' ∧ AVRel E w k e.key ∧ AVRel E w v e.val ∧ EntR E w r es'
def MapR (E : Env) (w : World) (es : List (AV × AV)) (rows : Array MapEntry) (clock : Nat) : Prop :=
  ∃ es', EntR E w es' rows.toList ∧ es'.Perm es ∧ es.Pairwise (fun a b => a.1 ≠ b.1) ∧ (∀ e ∈ rows.toList, e.born < clock) ∧ (rows.toList.map (·.born)).Nodup
def ObjR (E : Env) (w : World) (L : Loc) : AObj → Prop
  | .cells c opn => ∃ (C : Array Value) (t : TypeId) (fz : Nat × Nat) (us : List Value), w.heap[L.b]? = some (.cells C t fz) ∧ AVRelL E w c us ∧
      (∀ j u, us[j]? = some u → C[L.s + j]? = some u) ∧ L.s + span L c.length opn ≤ C.size ∧
      (∀ j, j < span L c.length opn → ¬ (fz.1 ≤ L.s + j ∧ L.s + j < fz.2)) ∧ fits L c.length opn
  | .map es => ∃ (rows : Array MapEntry) (clock : Nat), w.heap[L.b]? = some (.map rows clock) ∧ MapR E w es rows clock
  | .lmap es t => ∃ (rows : Array MapEntry) (clock : Nat), w.heap[L.b]? = some (.map rows clock) ∧ MapR E w es rows clock ∧ E.ρ t ≠ none ∧ E.lk t = some (rows, clock)
structure Rel (E : Env) (H : AHeap) (w : World) : Prop where
  dom : ∀ i L, E.ρ i = some L → i < H.next ∧ L.b < w.heap.size
  imm : ∀ b, E.I b → b < w.heap.size
  obj : ∀ i o, H.get i = some o → ∃ L, E.ρ i = some L ∧ ObjR E w L o ∧ ¬ E.I L.b
  inj : ∀ i j o o' L L', H.get i = some o → H.get j = some o' → E.ρ i = some L → E.ρ j = some L' → i ≠ j → L.b ≠ L'.b
structure Fr (E : Env) (H : AHeap) (w w' : World) : Prop where
  os : w'.os = w.os
  tape : w'.tape = w.tape
  output : w'.output = w.output
  size : w.heap.size ≤ w'.heap.size
  block : ∀ b, b < w.heap.size → (∀ i o L, H.get i = some o → E.ρ i = some L → L.b ≠ b) → w'.heap[b]? = w.heap[b]?
theorem Fr.refl (E : Env) (H : AHeap) (w : World) : Fr E H w w := ⟨rfl, rfl, rfl, Nat.le_refl _, fun _ _ _ => rfl⟩
theorem EntR.mono {E E' : Env} {w w' : World} (x : Env.Ext E E' w w') : ∀ {l : List (AV × AV)} {es : List MapEntry}, EntR E w l es → EntR E' w' l es
  | [], _, h => by simpa [EntR] using h
  | (k, v) :: l, _, h => by
    simp only [EntR] at h ⊢
    obtain ⟨e, es, h1, h2, h3, h4⟩ := h
    exact ⟨e, es, h1, AVRel.mono x _ _ h2, AVRel.mono x _ _ h3, EntR.mono x h4⟩
theorem MapR.mono {E E' : Env} {w w' : World} (x : Env.Ext E E' w w') {es : List (AV × AV)} {rows : Array MapEntry} {clock : Nat} (h : MapR E w es rows clock) : MapR E' w' es rows clock := by
  obtain ⟨es', h1, h2⟩ := h
  exact ⟨es', EntR.mono x h1, h2⟩
theorem Env.Ext.dom {E E' : Env} {w w' : World} (x : Env.Ext E E' w w') {t : Nat} (h : E.ρ t ≠ none) : E'.ρ t ≠ none := by
  cases hq : E.ρ t with
  | none => exact absurd hq h
  | some L => rw [x.ρ t L hq]; simp
theorem ObjR.mono {E E' : Env} {w w' : World} (x : Env.Ext E E' w w') {L : Loc} (hs : w'.heap[L.b]? = w.heap[L.b]?) {o : AObj} (h : ObjR E w L o) : ObjR E' w' L o := by
  cases o with
  | cells c opn =>
    obtain ⟨C, t, fz, us, h1, h2, h3⟩ := h
    exact ⟨C, t, fz, us, hs.trans h1, AVRelL.mono x _ _ h2, h3⟩
  | map es =>
    obtain ⟨rows, clock, h1, h2⟩ := h
    exact ⟨rows, clock, hs.trans h1, h2.mono x⟩
  | lmap es t =>
    obtain ⟨rows, clock, h1, h2, h3, h4⟩ := h
    exact ⟨rows, clock, hs.trans h1, h2.mono x, x.dom h3, x.lk t _ h3 h4⟩
end Go.Eng
end
section
namespace Go.Eng
inductive XO where
  | t (n : Nat)
  | k (v : AV)
inductive KK where
  | b
  | i (k : IntKind)
  | s
  deriving DecidableEq
structure KT where
  agg : Bool
  ks : List KK
inductive NK where
  | p | s | m | f | i
inductive XOp where
  | mv (x : XO)
  | pick (c a b : XO)
  | alloc (z : List AV)
  | box (x : XO)
  | build (z : List AV) (ps : List (Nat × Nat × XO))
  | bslice (z : List AV) (ps : List (Nat × Nat × XO)) (n : Nat)
  | load (n : Option Nat) (a : XO)
  | store (n : Nat) (a x : XO)
  | nilc (x : XO)
  | bin (op : BinOp) (x y : XO)
  | eqf (neg : Bool) (ks : KT) (x y : XO)
  | eqn (neg : Bool) (k : NK) (x y : XO)
  | un (op : UnOp) (x : XO)
  | conv (k : IntKind) (x : XO)
  | convs (x : XO)
  | bts (x : XO)
  | stb (x : XO)
  | faddr (o : Nat) (x : XO)
  | fld (off : Nat) (n : Option Nat) (x : XO)
  | iaddr (z : Nat) (x i : XO)
  | aaddr (len z : Nat) (x i : XO)
  | idx (len z : Nat) (n : Option Nat) (x i : XO)
  | sidx (x i : XO)
  | cut (z : Nat) (x : XO) (lo hi mx : Option XO)
  | acut (len z : Nat) (x : XO) (lo hi mx : Option XO)
  | scut (x : XO) (lo hi : Option XO)
  | mkmap
  | mkslice (z : List AV) (bytes : Nat) (l c : XO)
  | look (ks : KT) (zero : AV) (m k : XO) (ok : Bool)
  | upd (ks : KT) (m k v : XO)
  | del (ks : KT) (m k : XO)
  | ext (x : XO) (i : Nat)
  | mkfn (f : Nat) (cs : List XO)
  | mkif (t : Nat) (x : XO)
  | call (f : XO) (args : List XO)
  | app (z bytes : Nat) (x y : XO)
  | len (x : XO)
  | slen (x : XO)
  | alen (n : Nat)
  | mlen (x : XO)
  | mn (xs : List XO)
  | mx (xs : List XO)
  | copy (z : Nat) (x y : XO)
  | rng (m : XO)
  | nxt (x : XO)
  | ent (x : XO)
structure XOper where
  dst : Option Nat
  op : XOp
  guard : Option (Nat × Bool)
inductive Cls where
  | p | r | n | e
  deriving DecidableEq
def XOp.cls : XOp → Cls
  | .mv _ | .pick .. | .build .. | .nilc _ | .bin .. | .eqf .. | .eqn .. | .un .. | .conv .. | .convs _ | .faddr .. | .fld .. | .iaddr .. | .aaddr ..
  | .idx .. | .sidx .. | .cut .. | .acut .. | .scut .. | .ext .. | .mkfn .. | .mkif .. | .len _ | .slen _ | .alen _ | .mn _ | .mx _ => .p
  | .load .. | .look .. | .mlen _ | .bts _ => .r
  | .alloc _ | .box _ | .bslice .. | .mkmap => .n
  | .store .. | .upd .. | .del .. | .call .. | .app .. | .mkslice .. | .stb _ | .copy .. | .rng _ | .nxt _ | .ent _ => .e
inductive XCode where
  | skip
  | reg (ops : List XOper)
  | regd (ops : List XOper) (lo : List (Nat × List Nat × List Nat)) (nn : List Nat)
  | seq (a b : XCode)
  | cond (c : XO) (a b : XCode)
  | block (id : Nat) (c : XCode)
  | loop (c : XCode)
  | exit (id : Nat)
  | ret
  | mrange (pre : List XOper) (it : Nat) (m : XO) (out nx mo nb pr : Nat) (rest : List XOper) (code : XCode)
inductive XRes where
  | t (n : Nat)
  | c (a : Nat) (n : Option Nat)
structure XFunc where
  code : XCode
  nt : Nat
  np : Nat
  res : List XRes
def avOf1 : Value → Option AV
  | .bool b => some (.bool b)
  | .int k n => some (.int k n)
  | .string s => some (.str s.data.toList)
  | .pointer none => some .nilp
  | .slice none 0 0 => some .nils
  | .map none => some .nilm
  | .nilFunc => some .nilf
  | .nilIface => some .nili
  | _ => none
def avOf (v : Value) : Option AV :=
  match v with
  | .agg cs => (cs.toList.mapM avOf1).map .agg
  | .tuple vs => if vs.isEmpty then some (.tup []) else none
  | v => avOf1 v
def xo : Operand → Option XO
  | .tmp t => some (.t t)
  | .const v => (avOf v).map .k
  | .func f => some (.k (.fn f []))
  | .global g => some (.k (.glob g 0))
def zeroCells (P : Program) (t : TypeId) : Option (List AV) := do
  let i ← P.info? t
  let z ← i.zero
  let v ← avOf z
  match v with
  | .agg l => some l
  | v => some [v]
def isAggT (P : Program) (t : TypeId) : Option Bool :=
  match P.underlying t with
  | some (.struct _) | some (.array _ _) => some true
  | some _ => some false
  | none => none
def shapeOf (P : Program) (t : TypeId) : Option (Option Nat) := do
  let a ← isAggT P t
  let _ ← P.info? t
  some (if a then some (P.cellsOf t) else none)
def sizeT (P : Program) (t : TypeId) : Option Nat := (P.info? t).map (·.size)
def offsOk (P : Program) : Nat → List Field → List (List KK) → Bool
  | _, [], [] => true
  | b, f :: fs, ks :: kss => f.offset == b && ks.length == P.cellsOf f.type && f.name != "_" && offsOk P (b + ks.length) fs kss
  | _, _, _ => false
def kindsOf (P : Program) : Nat → TypeId → Option (List KK)
  | 0, _ => none
  | d + 1, t =>
    match P.underlying t with
    | some .bool => some [.b]
    | some (.int k) => some [.i k]
    | some .string => some [.s]
    | some (.array n e) =>
      match kindsOf P d e with
      | some ks => if ks.length = P.cellsOf e ∧ n * ks.length = P.cellsOf t then some (List.replicate n ks).flatten else none
      | none => none
    | some (.struct fs) =>
      match fs.toList.mapM fun f => kindsOf P d f.type with
      | some kss => if offsOk P 0 fs.toList kss = true ∧ kss.flatten.length = P.cellsOf t then some kss.flatten else none
      | none => none
    | _ => none
def keyKinds (P : Program) (t : TypeId) : Option KT := do
  let a ← isAggT P t
  let ks ← kindsOf P 9 t
  if P.keyTypeAt 9 t ∧ (a = true → ks.length = P.cellsOf t) then some ⟨a, ks⟩ else none
def oxo : Option Operand → Option (Option XO)
  | none => some none
  | some x => (xo x).map some
def partsX (place : Nat → Option (Nat × Nat)) (ps : List (Nat × Operand)) : Option (List (Nat × Nat × XO)) :=
  ps.mapM fun (i, x) => do
    let (o, n) ← place i
    some (o, n, ← xo x)
def appSrc (P : Program) (u : TypeId) : Bool :=
  match P.underlying u with
  | some (.slice _) | some .string => true
  | _ => false
def compBuiltin (P : Program) (b : Builtin) (ts : List TypeId) (args : List Operand) : Option XOp :=
  match b, ts, args with
  | .len, [t], [x] => do
    match ← P.underlying t with
    | .string => some (.slen (← xo x))
    | .slice _ => some (.len (← xo x))
    | .array n _ => some (.alen n)
    | .map _ _ => some (.mlen (← xo x))
    | .pointer a => match P.underlying a with
      | some (.array n _) => some (.alen n)
      | _ => none
    | _ => none
  | .append, [t, u], [x, y] => do
    match P.underlying t with
    | some (.slice e) => do
      let i ← P.info? e
      let z ← i.zero
      if appSrc P u && z.cells.size == i.size then some (.app i.size i.bytes (← xo x) (← xo y)) else none
    | _ => none
  | .min, _, xs => do
    let ys ← xs.mapM xo
    some (.mn ys)
  | .max, _, xs => do
    let ys ← xs.mapM xo
    some (.mx ys)
  | .delete, [t, _], [m, k] => do
    match P.underlying t with
    | some (.map kt _) => some (.del (← keyKinds P kt) (← xo m) (← xo k))
    | _ => none
  | .copy, [t, _], [x, y] => do
    match P.underlying t with
    | some (.slice e) => do
      let i ← P.info? e
      some (.copy i.size (← xo x) (← xo y))
    | _ => none
  | _, _, _ => none
def isNilConst : Operand → Bool
  | .const (.pointer none) | .const (.slice none 0 0) | .const (.map none) | .const .nilFunc | .const .nilIface => true
  | _ => false
def compBin (P : Program) (op : BinOp) (t : TypeId) (x y : Operand) : Option XOp := do
  let a ← xo x
  let b ← xo y
  match op with
  | .eql | .neq =>
    match P.underlying t with
    | some (.int _) | some .string => some (.bin op a b)
    | some .bool => do some (.eqf (op == .neq) (← keyKinds P t) a b)
    | some (.struct _) | some (.array _ _) =>
      if P.eqGuardType P.depth t then none else do some (.eqf (op == .neq) (← keyKinds P t) a b)
    | some (.slice _) => some (.eqn (op == .neq) .s a b)
    | some (.map _ _) => some (.eqn (op == .neq) .m a b)
    | some (.func ..) => some (.eqn (op == .neq) .f a b)
    | some (.pointer e) => if (sizeT P e).getD 0 ≠ 0 then some (.eqn (op == .neq) .p a b) else none
    | some (.interface _) => if isNilConst x || isNilConst y then some (.eqn (op == .neq) .i a b) else none
    | _ => none
  | _ => some (.bin op a b)
def compConv (P : Program) (s d : TypeId) (x : Operand) : Option XOp := do
  let a ← xo x
  match P.underlying s, P.underlying d with
  | some (.int _), some (.int k) => some (.conv k a)
  | some .string, some .string => some (.convs a)
  | some (.slice e), some .string => match P.underlying e with
    | some (.int .u8) => some (.bts a)
    | _ => none
  | _, _ => none
def compOp (P : Program) (o : Oper) : Option XOp :=
  match o.op with
  | .move x | .assign x => do some (.mv (← xo x))
  | .pick c a b => do some (.pick (← xo c) (← xo a) (← xo b))
  | .alloc e => do some (.alloc (← zeroCells P e))
  | .box _ x => do some (.box (← xo x))
  | .build t ps => do
    let z ← zeroCells P t
    match P.underlying t with
    | some (.struct fs) => do
      let pl ← fs.toList.mapM fun f => (P.info? f.type).map fun i => (f.offset, i.size)
      some (.build z (← partsX (pl.toArray[·]?) ps.toList))
    | some (.array _ e) => do
      let n ← sizeT P e
      some (.build z (← partsX (fun i => some (i * n, n)) ps.toList))
    | _ => none
  | .buildSlice t n ps => do
    match P.underlying t with
    | some (.slice e) => do
      let s ← sizeT P e
      let z ← zeroCells P e
      if s = 0 ∨ z.length ≠ s ∨ n * s > 2 ^ 24 then none else
      some (.bslice z (← partsX (fun i => some (i * s, s)) ps.toList) n)
    | _ => none
  | .load t a => do some (.load (← shapeOf P t) (← xo a))
  | .store t a x => do some (.store (← sizeT P t) (← xo a) (← xo x))
  | .nilCheck x => do some (.nilc (← xo x))
  | .binOp op t x y _ => compBin P op t x y
  | .unOp op _ x => do some (.un op (← xo x))
  | .convert s d x => compConv P s d x
  | .makeInterface t x => do
    match P.underlying t with
    | some (.interface _) => none
    | some _ => some (.mkif t (← xo x))
    | none => none
  | .makeFunc fn first cs =>
    match fn with
    | .func f => if first.isEmpty then do some (.mkfn f (← cs.toList.mapM xo)) else none
    | _ => none
  | .makeMap _ r =>
    match r with
    | none => some .mkmap
    | some _ => none
  | .makeSlice t l c => do
    match P.underlying t with
    | some (.slice e) => do
      let i ← P.info? e
      let z ← zeroCells P e
      if z.length ≠ i.size ∨ i.size = 0 then none else
      some (.mkslice z i.bytes (← xo l) (← xo c))
    | _ => none
  | .slice t x lo hi mx => do
    match P.underlying t with
    | some (.array n e) => do some (.acut n (← sizeT P e) (← xo x) (← oxo lo) (← oxo hi) (← oxo mx))
    | some (.slice e) => do some (.cut (← sizeT P e) (← xo x) (← oxo lo) (← oxo hi) (← oxo mx))
    | some .string => if mx.isNone then do some (.scut (← xo x) (← oxo lo) (← oxo hi)) else none
    | _ => none
  | .fieldAddr s x f => do
    match P.underlying s with
    | some (.struct fs) => do
      let g ← fs[f]?
      let n ← sizeT P g.type
      if n = 0 then none else some (.faddr g.offset (← xo x))
    | _ => none
  | .field t x f => do
    match P.underlying t with
    | some (.struct fs) => do
      let g ← fs[f]?
      some (.fld g.offset (← shapeOf P g.type) (← xo x))
    | _ => none
  | .indexAddr t x i => do
    match P.underlying t with
    | some (.slice e) => do some (.iaddr (← sizeT P e) (← xo x) (← xo i))
    | some (.array n e) => do some (.aaddr n (← sizeT P e) (← xo x) (← xo i))
    | _ => none
  | .index t x i => do
    match P.underlying t with
    | some (.array n e) => do some (.idx n (← sizeT P e) (← shapeOf P e) (← xo x) (← xo i))
    | some .string => do some (.sidx (← xo x) (← xo i))
    | _ => none
  | .lookup t m k ok => do
    match P.underlying t with
    | some (.map kt et) => do
      let i ← P.info? et
      let z ← i.zero
      some (.look (← keyKinds P kt) (← avOf z) (← xo m) (← xo k) ok)
    | _ => none
  | .mapUpdate t m k v | .insert t m k v => do
    match P.underlying t with
    | some (.map kt _) => do some (.upd (← keyKinds P kt) (← xo m) (← xo k) (← xo v))
    | _ => none
  | .extract x i => do some (.ext (← xo x) i)
  | .range t x => do
    match P.underlying t with
    | some (.map _ _) => some (.rng (← xo x))
    | _ => none
  | .next x b => if b then none else do some (.nxt (← xo x))
  | .entry x => do some (.ent (← xo x))
  | .call c => do
    match c.callee with
    | .value f => do some (.call (← xo f) (← c.args.toList.mapM xo))
    | .builtin b => compBuiltin P b c.argTypes.toList c.args.toList
    | _ => none
  | _ => none
def compOper (P : Program) (ops : Array Oper) (o : Oper) : Option XOper := do
  let x ← compOp P o
  match o.guard with
  | none => some ⟨o.dst, x, none⟩
  | some (j, b) => do
    let d ← (ops[j]?).bind (·.dst)
    some ⟨o.dst, x, some (d, b)⟩
def freePair : Cls → Cls → Bool
  | .e, .e | .n, .e => false
  | _, _ => true
def XOp.opnds : XOp → List XO
  | .mv x | .box x | .load _ x | .nilc x | .un _ x | .conv _ x | .convs x | .bts x | .stb x | .faddr _ x | .fld _ _ x | .ext x _ | .mkif _ x | .len x | .slen x | .mlen x | .rng x | .nxt x | .ent x => [x]
  | .pick c a b => [c, a, b]
  | .alloc _ | .mkmap | .alen _ => []
  | .build _ ps | .bslice _ ps _ => ps.map (·.2.2)
  | .store _ a x | .bin _ a x | .eqf _ _ a x | .eqn _ _ a x | .iaddr _ a x | .aaddr _ _ a x | .idx _ _ _ a x | .sidx a x | .mkslice _ _ a x | .look _ _ a x _ | .del _ a x | .app _ _ a x | .copy _ a x => [a, x]
  | .cut _ x lo hi m3 | .acut _ _ x lo hi m3 => [x] ++ lo.toList ++ hi.toList ++ m3.toList
  | .scut x lo hi => [x] ++ lo.toList ++ hi.toList
  | .upd _ m k v => [m, k, v]
  | .mkfn _ cs => cs
  | .call f args => f :: args
  | .mn xs | .mx xs => xs
def XOper.looks (o : XOper) (t : Nat) : Bool :=
  o.op.opnds.any (fun x => match x with | .t n => n == t | _ => false) || (match o.guard with | some (d, _) => d == t | none => false)
def apartX (x y : XOper) : Bool :=
  (match x.dst with | some d => !y.looks d && y.dst != some d | none => true) && (match y.dst with | some d => !x.looks d | none => true)
def predsOf (o : Oper) : List Nat := (o.after.toList.filter (Region.binds .any ·)).map (·.on)
def ancsGo (acc : List (List Nat)) : List Oper → List (List Nat)
  | [] => acc
  | o :: r => ancsGo (acc ++ [(predsOf o ++ ((predsOf o).map fun p => acc.getD p []).flatten).eraseDups]) r
def orderOk (ops : List Oper) (xs : List XOper) (A : List (List Nat)) : Bool :=
  (List.range ops.length).all fun j =>
    (match ops[j]? with | some o => (predsOf o).all (fun p => Nat.blt p j) | none => true) &&
    (List.range j).all fun i => (A.getD j []).contains i || (match xs[i]?, xs[j]? with | some x, some y => freePair x.op.cls y.op.cls && apartX x y | _, _ => false)
def looseOf (xs : List XOper) (A : List (List Nat)) (j : Nat) : Option (Nat × List Nat × List Nat) :=
  match xs[j]? with
  | some x =>
    if x.op.cls ≠ .r then none else
    let es := (List.range xs.length).filter fun i => (match xs[i]? with | some y => y.op.cls == .e | none => false) && !(A.getD j []).contains i && !(A.getD i []).contains j
    let ns := (List.range xs.length).filter fun i => (match xs[i]? with | some y => y.op.cls == .n | none => false) && !(A.getD j []).contains i
    if es.isEmpty && ns.isEmpty then none else some (j, es, ns)
  | none => none
def makers (xs : List XOper) : List Nat := (List.range xs.length).filter fun i => match xs[i]? with | some y => y.op.cls == .n | none => false
def compCode (P : Program) : Code → Option XCode
  | .skip => some .skip
  | .region _ ops draw => do
    let xs ← ops.toList.mapM (compOper P ops)
    if draw then
      let A := ancsGo [] ops.toList
      if orderOk ops.toList xs A then some (.regd xs ((List.range xs.length).filterMap (looseOf xs A)) (makers xs)) else none
    else some (.reg xs)
  | .seq a b => do some (.seq (← compCode P a) (← compCode P b))
  | .cond c a b => do some (.cond (← xo c) (← compCode P a) (← compCode P b))
  | .block id c => do some (.block id (← compCode P c))
  | .loop c => do some (.loop (← compCode P c))
  | .exit id => some (.exit id)
  | .ret => some .ret
  | _ => none
def compRes (P : Program) : ResultVar → Option XRes
  | .tmp t => some (.t t)
  | .cell a t => do some (.c a (← shapeOf P t))
def dstOk (nt : Nat) (o : XOper) : Bool := match o.dst with
  | some d => Nat.blt d nt
  | none => true
def XCode.room (nt : Nat) : XCode → Bool
  | .reg ops => ops.all (dstOk nt)
  | .regd ops _ _ => ops.all (dstOk nt)
  | .seq a b => a.room nt && b.room nt
  | .cond _ a b => a.room nt && b.room nt
  | .block _ c => c.room nt
  | .loop c => c.room nt
  | .mrange pre it _ _ nx mo _ pr rest code => pre.all (dstOk nt) && rest.all (dstOk nt) && Nat.blt it nt && Nat.blt nx nt && Nat.blt mo nt && Nat.blt pr nt && code.room nt
  | _ => true
def compFunc (P : Program) (f : Nat) : Option XFunc := do
  let fn ← P.funcs[f]?
  let c ← fn.body
  if fn.name == "runtime.NumGoroutine" then none else
  let xc ← compCode P c
  if !xc.room fn.ntmps then none else
  some ⟨xc, fn.ntmps, fn.params.size + fn.nfree, ← fn.results.toList.mapM (compRes P)⟩
end Go.Eng
end
section
namespace Go.Eng
structure St where
  tm : Tr AV
  H : AHeap
def St.ev (s : Tr AV) : XO → Option AV
  | .t n => s.get n
  | .k v => some v
inductive AR where
  | fail
  | v (x : AV)
  | new (x : AV) (o : AObj)
  | eff (x : AV) (H : AHeap)
def AR.ofV : Option AV → AR
  | some x => .v x
  | none => .fail
def undefA : AV := .tup []
def AV.cells : AV → List AV
  | .agg l => l
  | v => [v]
def AV.oneCell : AV → Bool
  | .agg _ | .tup _ => false
  | _ => true
def wrapA (k : IntKind) (n : Int) : Int := k.wrap n
def fillA (cells : List AV) : List (Nat × Nat × AV) → Option (List AV)
  | [] => some cells
  | (o, n, v) :: r => if v.cells.length ≠ n ∨ o + n > cells.length then none else fillA (cells.take o ++ v.cells ++ cells.drop (o + n)) r
def evParts (ev : XO → Option AV) : List (Nat × Nat × XO) → Option (List (Nat × Nat × AV))
  | [] => some []
  | (o, n, x) :: r => do
    let v ← ev x
    some ((o, n, v) :: (← evParts ev r))
def evL (ev : XO → Option AV) : List XO → Option (List AV)
  | [] => some []
  | x :: r => do
    let v ← ev x
    some (v :: (← evL ev r))
def intCmpA (op : BinOp) (x y : Int) : Option AV :=
  match op with
  | .eql => some (.bool (x == y))
  | .neq => some (.bool (x != y))
  | .lss => some (.bool (decide (x < y)))
  | .leq => some (.bool (decide (x ≤ y)))
  | .gtr => some (.bool (decide (x > y)))
  | .geq => some (.bool (decide (x ≥ y)))
  | _ => none
def bitsA (op : BinOp) (k : IntKind) (x y : Int) : Option AV :=
  let a := BitVec.ofInt k.bits x
  let b := BitVec.ofInt k.bits y
  match op with
  | .and => some (.int k (wrapA k (a &&& b).toNat))
  | .or => some (.int k (wrapA k (a ||| b).toNat))
  | .xor => some (.int k (wrapA k (a ^^^ b).toNat))
  | .andNot => some (.int k (wrapA k (a &&& ~~~b).toNat))
  | _ => none
def strA (op : BinOp) (x y : List UInt8) : Option AV :=
  match op with
  | .add => if x.length + y.length < 2 ^ 40 then some (.str (x ++ y)) else none
  | .eql => some (.bool (x == y))
  | .neq => some (.bool !(x == y))
  | .lss => some (.bool (Op.bytesLess x y))
  | .leq => some (.bool (Op.bytesLess x y || x == y))
  | .gtr => some (.bool !(Op.bytesLess x y || x == y))
  | .geq => some (.bool !(Op.bytesLess x y))
  | _ => none
def binA (op : BinOp) (x y : AV) : Option AV :=
  match x, y with
  | .int k a, .int k' b =>
    match op with
    | .shl => if b < 0 then none else some (.int k (wrapA k (a * 2 ^ (min b.toNat k.bits))))
    | .shr => if b < 0 then none else some (.int k (a.fdiv (2 ^ (min b.toNat k.bits))))
    | _ =>
      if k ≠ k' then none else
      match op with
      | .add => some (.int k (wrapA k (a + b)))
      | .sub => some (.int k (wrapA k (a - b)))
      | .mul => some (.int k (wrapA k (a * b)))
      | .quo => if b = 0 then none else some (.int k (wrapA k (a.tdiv b)))
      | .rem => if b = 0 then none else some (.int k (a.tmod b))
      | .and | .or | .xor | .andNot => bitsA op k a b
      | _ => intCmpA op a b
  | .str a, .str b => strA op a b
  | _, _ => none
def litA : KK → AV → Option Lit
  | .b, .bool b => some (.bool b)
  | .i k, .int k' n => if k' = k ∧ (Lit.int k n).wf = true then some (.int k n) else none
  | .s, .str s => if s.length ≤ maxLen then some (.string s) else none
  | _, _ => none
def litsA : List KK → List AV → Option (List Lit)
  | [], [] => some []
  | k :: ks, x :: xs => do
    let l ← litA k x
    some (l :: (← litsA ks xs))
  | _, _ => none
def litEq : Lit → Lit → Bool
  | .bool a, .bool b => a == b
  | .int k a, .int k' b => k == k' && a == b
  | .string a, .string b => a == b
  | _, _ => false
def litsEq : List Lit → List Lit → Bool
  | [], [] => true
  | a :: l, b :: m => litEq a b && litsEq l m
  | _, _ => false
def keyA (K : KT) (x : AV) : Option (List Lit) :=
  match x with
  | .agg l => if K.agg then litsA K.ks l else none
  | x => if K.agg then none else litsA K.ks [x]
def eqnA : NK → AV → AV → Option Bool
  | .p, .nilp, .nilp => some true
  | .p, .nilp, .ptr .. | .p, .nilp, .iptr .. | .p, .ptr .., .nilp | .p, .iptr .., .nilp => some false
  | .p, .ptr i o, .ptr j p => if i = j then some (o == p) else none
  | .s, .nils, .nils => some true
  | .s, .nils, .sl .. | .s, .nils, .imm (_ :: _) .. | .s, .sl .., .nils | .s, .imm (_ :: _) .., .nils => some false
  | .m, .nilm, .nilm => some true
  | .m, .nilm, .map _ | .m, .map _, .nilm => some false
  | .f, .nilf, .nilf => some true
  | .f, .nilf, .fn .. | .f, .fn .., .nilf => some false
  | .i, .nili, .nili => some true
  | .i, .nili, .ifc .. | .i, .ifc .., .nili => some false
  | _, _, _ => none
def unA (op : UnOp) (x : AV) : Option AV :=
  match op, x with
  | .neg, .int k n => some (.int k (wrapA k (0 - n)))
  | .xor, .int k n => bitsA .xor k (if k.signed then -1 else k.max) n
  | .not, .bool b => some (.bool !b)
  | _, _ => none
def cellsAt (H : AHeap) (a : AV) : Option (List AV) :=
  match a with
  | .ptr i o => match H.get i with
    | some (.cells c _) => some (c.drop o)
    | _ => none
  | .iptr cs o => some (cs.drop o)
  | _ => none
def loadA (H : AHeap) (n : Option Nat) (a : AV) : Option AV :=
  match cellsAt H a with
  | none => none
  | some c => match n with
    | none => c[0]?
    | some n => if n ≤ c.length then some (.agg (c.take n)) else none
def overA (c : List AV) (o : Nat) (x : List AV) : List AV := c.take o ++ x ++ c.drop (o + x.length)
def storeA (H : AHeap) (n : Nat) (a x : AV) : Option AHeap :=
  let cs := x.cells
  if cs.length ≠ n ∨ !(cs.all AV.oneCell) then none else
  match a with
  | .ptr i o => match H.get i with
    | some (.cells c opn) => if o + n ≤ c.length then some (H.set i (some (.cells (overA c o cs) opn))) else none
    | _ => none
  | _ => none
def partA (off : Nat) (n : Option Nat) (cs : List AV) : Option AV :=
  match n with
  | none => cs[off]?
  | some n => if off + n ≤ cs.length then some (.agg ((cs.drop off).take n)) else none
def idxOk (i : Int) (len : Nat) : Bool := match i with
  | .ofNat n => Nat.blt n len
  | _ => false
def iaddrA (z : Nat) (x i : AV) : Option AV :=
  match x, i with
  | .sl b o l _, .int _ n => if idxOk n l then some (.ptr b (o + n.toNat * z)) else none
  | .imm cs l _, .int _ n => if idxOk n l then some (.iptr cs (n.toNat * z)) else none
  | _, _ => none
def aaddrA (len z : Nat) (x i : AV) : Option AV :=
  match x, i with
  | .ptr b o, .int _ n => if idxOk n len then some (.ptr b (o + n.toNat * z)) else none
  | .iptr cs o, .int _ n => if idxOk n len then some (.iptr cs (o + n.toNat * z)) else none
  | _, _ => none
def bndA (y : Nat) : AV → Option Nat
  | .int _ (.ofNat m) => if Nat.ble m y then some m else none
  | _ => none
def obnd (ev : XO → Option AV) (y dflt : Nat) : Option XO → Option Nat
  | none => some dflt
  | some x => (ev x).bind (bndA y)
def hiBnd (ev : XO → Option AV) (len m : Nat) : Option XO → Option XO → Option Nat
  | some x, _ => (ev x).bind (bndA m)
  | none, none => some len
  | none, some _ => none
def bounds (ev : XO → Option AV) (len cap : Nat) (lo hi mx : Option XO) : Option (Nat × Nat × Nat) :=
  (obnd ev cap cap mx).bind fun m => (hiBnd ev len m hi mx).bind fun h => (obnd ev h 0 lo).bind fun l => some (l, h, m)
def cutA (ev : XO → Option AV) (z : Nat) (x : AV) (lo hi mx : Option XO) : Option AV :=
  match x with
  | .nils => (bounds ev 0 0 lo hi mx).bind fun _ => some .nils
  | .sl i o l c =>
    if c < openAt then
      if l ≤ c then (bounds ev l c lo hi mx).bind fun (a, b, m) => some (.sl i (if m = a then o else o + a * z) (b - a) (m - a)) else none
    else
      -- what room there is behind the length is not known: no bound goes beyond it
      (bounds ev l l lo hi mx).bind fun (a, b, m) =>
        match mx with
        | none => if openAt ≤ c - a then some (.sl i (o + a * z) (b - a) (c - a)) else none
        | some _ => if m < openAt then some (.sl i (if m = a then o else o + a * z) (b - a) (m - a)) else none
  | .imm cs l full =>
      (bounds ev l l lo hi mx).bind fun (a, b, m) =>
        match mx with
        | none => if a = l then some (.imm [] 0 full) else some (.imm (cs.drop (a * z)) (b - a) (full && decide (b = l)))
        | some _ => if m = a then some (.imm [] 0 true) else some (.imm (cs.drop (a * z)) (b - a) (decide (m = b)))
  | _ => none
def acutA (ev : XO → Option AV) (n z : Nat) (x : AV) (lo hi mx : Option XO) : Option AV :=
  match x with
  | .ptr i o => if openAt ≤ n then none else (bounds ev n n lo hi mx).bind fun (a, b, m) => some (.sl i (if m = a then o else o + a * z) (b - a) (m - a))
  | _ => none
def scutA (ev : XO → Option AV) (x : AV) (lo hi : Option XO) : Option AV :=
  match x with
  | .str s => (bounds ev s.length s.length lo hi none).bind fun (a, b, _) => some (.str ((s.drop a).take (b - a)))
  | _ => none
def findE (K : KT) (key : List Lit) : List (AV × AV) → Nat → Option (Option (Nat × AV))
  | [], _ => some none
  | (k, v) :: r, i => match keyA K k, findE K key r (i + 1) with
    | some l, some x => if litsEq key l then some (some (i, v)) else some x
    | _, _ => none
def updE (K : KT) (key : List Lit) (k v : AV) (es : List (AV × AV)) : Option (List (AV × AV)) :=
  match findE K key es 0 with
  | none => none
  | some (some (i, _)) => some (es.set i (k, v))
  | some none => some (es ++ [(k, v)])
def delE (K : KT) (key : List Lit) (es : List (AV × AV)) : Option (List (AV × AV)) :=
  match findE K key es 0 with
  | none => none
  | some (some (i, _)) => some (es.eraseIdx i)
  | some none => some es
def entsA (H : AHeap) : AV → Option (List (AV × AV))
  | .nilm => some []
  | .map i => match H.get i with
    | some (.map es) => some es
    | some (.lmap es _) => some es
    | _ => none
  | _ => none
def lenA : AV → Option Nat
  | .nils => some 0
  | .sl _ _ l _ => some l
  | .imm _ l _ => some l
  | .str s => some s.length
  | _ => none
def srcA (H : AHeap) (z n : Nat) : AV → Option (List AV)
  | .nils => if n = 0 then some [] else none
  | .sl i o _ _ => match H.get i with
    | some (.cells c _) => if o + n * z ≤ c.length then some ((c.drop o).take (n * z)) else none
    | _ => none
  | .imm cs _ _ => if n * z ≤ cs.length then some (cs.take (n * z)) else none
  | .str s => if z = 1 then some ((s.take n).map fun b => .int .u8 b.toNat) else none
  | _ => none
def AHeap.add (H : AHeap) (o : AObj) : AHeap := ⟨H.m.set H.next (some o), H.next + 1⟩
def appA (H : AHeap) (z bytes : Nat) (x y : AV) : AR :=
  match lenA y with
  | none => .fail
  | some n =>
    match srcA H z n y with
    | none => .fail
    | some new =>
      if !(new.all AV.oneCell) ∨ bytes > 2 ^ 16 then .fail else
      match x with
      | .nils => if n = 0 then .eff .nils H else if n > 2 ^ 30 then .fail else
        .eff (.sl H.next 0 n openCap) (H.add (.cells new (some z)))
      | .imm cs l full =>
        if n = 0 then (if l = 0 then .fail else .eff x H) else
        if l + n > 2 ^ 30 ∨ !full ∨ l * z > cs.length then .fail else
        .eff (.sl H.next 0 (l + n) openCap) (H.add (.cells (cs.take (l * z) ++ new) (some z)))
      | .sl i o l c =>
        if l + n > 2 ^ 30 then .fail else
        match H.get i with
        | some (.cells cs opn) =>
          if n = 0 then .eff x H else
          if o + l * z > cs.length then .fail else
          if c < openAt then
            if l + n ≤ c then
              if o + (l + n) * z ≤ cs.length then .eff (.sl i o (l + n) c) (H.set i (some (.cells (overA cs (o + l * z) new) opn))) else .fail
            else .eff (.sl H.next 0 (l + n) openCap) (H.add (.cells ((cs.drop o).take (l * z) ++ new) (some z)))
          else if !(opn == some z) || !((openCap - c) * z == o) || z == 0 || c > openCap then .fail
          else if o + (l + n) * z ≤ cs.length then .eff (.sl i o (l + n) c) (H.set i (some (.cells (overA cs (o + l * z) new) opn)))
          else .eff (.sl H.next 0 (l + n) openCap) ((H.set i none).add (.cells ((cs.drop o).take (l * z) ++ new) (some z)))
        | _ => .fail
      | _ => .fail
def mkSliceA (H : AHeap) (z : List AV) (bytes : Nat) (l c : AV) : AR :=
  match l, c with
  | .int .i64 (.ofNat l), .int .i64 (.ofNat c) =>
    if l ≤ c ∧ c ≤ 2 ^ 24 ∧ bytes ≤ 2 ^ 16 then .eff (.sl H.next 0 l c) (H.add (.cells (List.replicate c z).flatten none)) else .fail
  | _, _ => .fail
def minA : List AV → Option AV
  | [] => none
  | x :: r => r.foldlM (fun a b => match a, b with | .int k p, .int _ q => some (.int k (if q < p then q else p)) | _, _ => none) x
def maxA : List AV → Option AV
  | [] => none
  | x :: r => r.foldlM (fun a b => match a, b with | .int k p, .int _ q => some (.int k (if q > p then q else p)) | _, _ => none) x
def bytesA : List AV → Option (List UInt8)
  | [] => some []
  | .int .u8 n :: r => (bytesA r).map (UInt8.ofNat n.toNat :: ·)
  | _ => none
def xop (ev : XO → Option AV) (H : AHeap) (n : Nat) : XOp → AR
  | .mv x => .ofV (ev x)
  | .pick c a b => match ev c with
    | some (.bool true) => .ofV (ev a)
    | some (.bool false) => .ofV (ev b)
    | _ => .fail
  | .alloc z => .new (.ptr n 0) (.cells z none)
  | .box x => match ev x with
    | some v => .new (.ptr n 0) (.cells v.cells none)
    | none => .fail
  | .build z ps => .ofV ((evParts ev ps).bind fun l => (fillA z l).map .agg)
  | .bslice z ps m => match (evParts ev ps).bind (fillA (List.replicate m z).flatten) with
    | some c => .new (.sl n 0 m m) (.cells c none)
    | none => .fail
  | .load m a => .ofV ((ev a).bind (loadA H m))
  | .store m a x => match ev a, ev x with
    | some a, some x => match storeA H m a x with
      | some H' => .eff undefA H'
      | none => .fail
    | _, _ => .fail
  | .nilc x => match ev x with
    | some v => match v with
      | .ptr .. | .iptr .. | .glob .. | .fn .. => .v v
      | _ => .fail
    | none => .fail
  | .bin op x y => match ev x, ev y with
    | some a, some b => .ofV (binA op a b)
    | _, _ => .fail
  | .eqf neg ks x y => match (ev x).bind (keyA ks), (ev y).bind (keyA ks) with
    | some a, some b => .v (.bool (litsEq a b != neg))
    | _, _ => .fail
  | .eqn neg k x y => match ev x, ev y with
    | some a, some b => match eqnA k a b with
      | some r => .v (.bool (r != neg))
      | none => .fail
    | _, _ => .fail
  | .un op x => .ofV ((ev x).bind (unA op))
  | .conv k x => match ev x with
    | some (.int _ m) => .v (.int k (wrapA k m))
    | _ => .fail
  | .convs x => match ev x with
    | some (.str s) => .v (.str s)
    | _ => .fail
  | .bts x => match ev x with
    | some v => match lenA v with
      | none => .fail
      | some l => match v with
        | .str _ => .fail
        | v => .ofV (((srcA H 1 l v).bind bytesA).map .str)
    | none => .fail
  | .stb x => match ev x with
    | some (.str s) => if s.length > 2 ^ 30 then .fail else .eff (.sl H.next 0 s.length openCap) (H.add (.cells (s.map fun b => .int .u8 b.toNat) (some 1)))
    | _ => .fail
  | .faddr o x => match ev x with
    | some (.ptr i p) => .v (.ptr i (p + o))
    | some (.iptr cs p) => .v (.iptr cs (p + o))
    | _ => .fail
  | .fld off m x => match ev x with
    | some (.agg cs) => .ofV (partA off m cs)
    | _ => .fail
  | .iaddr z x i => match ev x, ev i with
    | some x, some i => .ofV (iaddrA z x i)
    | _, _ => .fail
  | .aaddr l z x i => match ev x, ev i with
    | some x, some i => .ofV (aaddrA l z x i)
    | _, _ => .fail
  | .idx l z m x i => match ev x, ev i with
    | some (.agg cs), some (.int _ k) => if idxOk k l then .ofV (partA (k.toNat * z) m cs) else .fail
    | _, _ => .fail
  | .sidx x i => match ev x, ev i with
    | some (.str s), some (.int _ k) => if idxOk k s.length then .ofV ((s[k.toNat]?).map fun b => .int .u8 b.toNat) else .fail
    | _, _ => .fail
  | .cut z x lo hi mx => .ofV ((ev x).bind fun x => cutA ev z x lo hi mx)
  | .acut l z x lo hi mx => .ofV ((ev x).bind fun x => acutA ev l z x lo hi mx)
  | .scut x lo hi => .ofV ((ev x).bind fun x => scutA ev x lo hi)
  | .mkmap => .new (.map n) (.map [])
  | .mkslice z b l c => match ev l, ev c with
    | some l, some c => mkSliceA H z b l c
    | _, _ => .fail
  | .look ks zero m k ok => match (ev m).bind (entsA H), (ev k).bind (keyA ks) with
    | some es, some l => match findE ks l es 0 with
      | none => .fail
      | some (some (_, v)) => .v (if ok then .tup [v, .bool true] else v)
      | some none => .v (if ok then .tup [zero, .bool false] else zero)
    | _, _ => .fail
  | .upd ks m k v => match ev m, ev k, ev v with
    | some (.map i), some k, some v => match H.get i, keyA ks k with
      | some (.map es), some l => match updE ks l k v es with
        | some es' => .eff undefA (H.set i (some (.map es')))
        | none => .fail
      | _, _ => .fail
    | _, _, _ => .fail
  | .del ks m k => match ev m, ev k with
    | some (.map i), some k => match H.get i, keyA ks k with
      | some (.map es), some l => match delE ks l es with
        | some es' => .eff undefA (H.set i (some (.map es')))
        | none => .fail
      | _, _ => .fail
    | _, _ => .fail
  | .ext x i => match ev x with
    | some (.tup l) => .ofV l[i]?
    | _ => .fail
  | .mkfn f cs => match evL ev cs with
    | some l => .v (.fn f l)
    | none => .fail
  | .mkif t x => match ev x with
    | some v => .v (.ifc t v)
    | none => .fail
  | .call _ _ | .rng _ | .nxt _ | .ent _ => .fail
  | .app z b x y => match ev x, ev y with
    | some x, some y => appA H z b x y
    | _, _ => .fail
  | .len x => match ev x with
    | some (.nils) => .v (.int .i64 0)
    | some (.sl _ _ l _) => .v (.int .i64 l)
    | some (.imm _ l _) => .v (.int .i64 l)
    | _ => .fail
  | .slen x => match ev x with
    | some (.str s) => .v (.int .i64 s.length)
    | _ => .fail
  | .alen l => .v (.int .i64 l)
  | .mlen x => match (ev x).bind (entsA H) with
    | some es => .v (.int .i64 es.length)
    | none => .fail
  | .mn xs => .ofV ((evL ev xs).bind minA)
  | .mx xs => .ofV ((evL ev xs).bind maxA)
  | .copy z x y => match ev x, ev y with
    | some x, some y => match lenA x, lenA y with
      | some lx, some ly =>
        let m := Nat.min ly lx
        match srcA H z m y with
        | none => .fail
        | some new =>
          if !(new.all AV.oneCell) then .fail else
          match x with
          | .nils => .eff (.int .i64 0) H
          | .sl i o _ _ => match H.get i with
            | some (.cells c opn) => if o + m * z ≤ c.length then .eff (.int .i64 m) (H.set i (some (.cells (overA c o new) opn))) else .fail
            | _ => .fail
          | _ => .fail
      | _, _ => .fail
    | _, _ => .fail
def putT (tm : Tr AV) (dst : Option Nat) (v : AV) : Tr AV :=
  match dst with
  | some d => tm.set d (some v)
  | none => tm
def wantedA (tm : Tr AV) (o : XOper) : Option Bool :=
  match o.guard with
  | none => some true
  | some (d, b) => match tm.get d with
    | some (.bool c) => some (c == b)
    | some (.tup []) => some false
    | _ => none
def xval (cf : Nat → List AV → AHeap → Option (AV × AHeap)) (ev : XO → Option AV) (H : AHeap) (n : Nat) (y : XOp) : Option (AV × AHeap) :=
  match y with
  | .call f args => match ev f, evL ev args with
    | some (.fn g cs), some l => cf g (l ++ cs) H
    | _, _ => none
  | op => match xop ev H n op with
    | .fail => none
    | .v x => some (x, H)
    | .new x ob => some (x, H.set n (some ob))
    | .eff x H' => some (x, H')
def xstep (cf : Nat → List AV → AHeap → Option (AV × AHeap)) (s : St) (n : Nat) (o : XOper) : Option St :=
  match wantedA s.tm o with
  | some true => match xval cf (St.ev s.tm) s.H n o.op with
    | some (x, H) => some ⟨putT s.tm o.dst x, H⟩
    | none => none
  | some false => some { s with tm := putT s.tm o.dst undefA }
  | none => none
def xops (cf : Nat → List AV → AHeap → Option (AV × AHeap)) : List XOper → Nat → St → Option St
  | [], _, s => some s
  | o :: r, n, s => match xstep cf s n o with
    | some s' => xops cf r (n + 1) s'
    | none => none
inductive XE where
  | normal
  | exit (id : Nat)
  | ret
def xtrace (cf : Nat → List AV → AHeap → Option (AV × AHeap)) : List XOper → Nat → St → Option (List St)
  | [], _, s => some [s]
  | o :: r, n, s => match xstep cf s n o with
    | some s' => (xtrace cf r (n + 1) s').map (s :: ·)
    | none => none
mutual
def AV.beq : AV → AV → Bool
  | .bool a, .bool b => a == b
  | .int k a, .int k' b => k == k' && a == b
  | .str a, .str b => a == b
  | .ptr a b, .ptr c d => a == c && b == d
  | .nilp, .nilp | .nils, .nils | .nilm, .nilm | .nilf, .nilf | .nili, .nili => true
  | .sl a b c d, .sl a' b' c' d' => a == a' && b == b' && c == c' && d == d'
  | .map a, .map b => a == b
  | .fn f l, .fn g m => f == g && AV.beqL l m
  | .ifc t x, .ifc u y => t == u && AV.beq x y
  | .agg l, .agg m | .tup l, .tup m => AV.beqL l m
  | .imm l a b, .imm m c d => AV.beqL l m && a == c && b == d
  | .iptr l a, .iptr m b => AV.beqL l m && a == b
  | .glob a b, .glob c d => a == c && b == d
  | _, _ => false
def AV.beqL : List AV → List AV → Bool
  | [], [] => true
  | x :: l, y :: m => AV.beq x y && AV.beqL l m
  | _, _ => false
end
def AHeap.less (H : AHeap) (base : Nat) : List Nat → AHeap
  | [] => H
  | i :: r => AHeap.less (H.set (base + i) none) base r
def looseOk (ops : List XOper) (tr : List St) (base : Nat) (nn : List Nat) (l : Nat × List Nat × List Nat) : Bool :=
  match ops[l.1]?, tr[l.1]? with
  | some o, some s => match wantedA s.tm o with
    | some true => match xop (St.ev s.tm) s.H 0 o.op with
      | .v x => (l.1 :: (l.2.1 ++ l.2.1.map (· + 1))).all fun i => match tr[i]? with
        | some si => match xop (St.ev s.tm) ((si.H.less base l.2.2).less base (nn.filter fun k => Nat.ble i k)) 0 o.op with
          | .v y => AV.beq x y
          | _ => false
        | none => false
      | _ => false
    | some false => true
    | none => false
  | _, _ => false
def freshOk (ops : List XOper) (tr : List St) (base : Nat) (nn : List Nat) : Bool :=
  nn.all fun k => match ops[k]?, tr[k]? with
    | some o, some sk => (List.range tr.length).all fun i => (Nat.blt k i && (match wantedA sk.tm o with | some true => true | _ => false)) || (match tr[i]? with | some si => (si.H.get (base + k)).isNone | none => false)
    | _, _ => false
def bump (s : St) (m : Nat) : St := { s with H := { s.H with next := s.H.next + m } }
def xregionD (cf : Nat → List AV → AHeap → Option (AV × AHeap)) (ops : List XOper) (lo : List (Nat × List Nat × List Nat)) (nn : List Nat) (s : St) : Option St :=
  match xtrace cf ops s.H.next (bump s ops.length) with
  | some tr => if lo.all (looseOk ops tr s.H.next nn) && freshOk ops tr s.H.next nn then tr.getLast? else none
  | none => none
def loopF (body : St → Option (XE × St)) : Nat → St → Option (XE × St)
  | 0, _ => none
  | k + 1, s => match body s with
    | some (.normal, s') => loopF body k s'
    | r => r
def insAll {α : Type} (x : α) : List α → List (List α)
  | [] => [[x]]
  | y :: r => (x :: y :: r) :: (insAll x r).map (y :: ·)
def permsL {α : Type} : List α → List (List α)
  | [] => [[]]
  | x :: r => (permsL r).flatMap (insAll x)
def mrun (ok : St → Bool) (fin : St → St) (rnd : AV × AV → St → Option (XE × St)) (out : Nat) : List (AV × AV) → St → Option (XE × St)
  | [], s => if ok s then some (.normal, fin s) else none
  | e :: r, s => if ok s then
      match rnd e s with
      | some (.normal, s') => mrun ok fin rnd out r s'
      | some (.exit i, s') => if i = out then some (.normal, s') else some (.exit i, s')
      | r => r
    else none
def dropE (e : AV × AV) : List (AV × AV) → Option (List (AV × AV))
  | [] => none
  | x :: r => if AV.beq e.1 x.1 && AV.beq e.2 x.2 then some r else (dropE e r).map (x :: ·)
def permEq : List (AV × AV) → List (AV × AV) → Bool
  | [], [] => true
  | e :: r, l => match dropE e l with
    | some l' => permEq r l'
    | none => false
  | _, _ => false
def objEq : Option AObj → Option AObj → Bool
  | none, none => true
  | some (.cells c o), some (.cells c' o') => AV.beqL c c' && o == o'
  | some (.map es), some (.map es') => permEq es es'
  | some (.lmap es t), some (.lmap es' t') => permEq es es' && t == t'
  | _, _ => false
def Tr.noneB {α : Type} : Tr α → Bool
  | .e => true
  | .n l v r => l.noneB && v.isNone && r.noneB
def trEq : Tr AObj → Tr AObj → Bool
  | .e, t => t.noneB
  | t, .e => t.noneB
  | .n l v r, .n l' v' r' => trEq l l' && objEq v v' && trEq r r'
def tmMeet : Tr AV → Tr AV → Tr AV
  | .n l v r, .n l' v' r' => .n (tmMeet l l') (match v, v' with | some x, some y => if AV.beq x y then some x else none | _, _ => none) (tmMeet r r')
  | _, _ => .e
def XE.beq : XE → XE → Bool
  | .normal, .normal | .ret, .ret => true
  | .exit i, .exit j => i == j
  | _, _ => false
def meetR (e : XE) (s : St) : List (Option (XE × St)) → Option (XE × St)
  | [] => some (e, s)
  | some (e', s') :: r => if XE.beq e e' && trEq s.H.m s'.H.m then meetR e ⟨tmMeet s.tm s'.tm, ⟨s.H.m, Nat.max s.H.next s'.H.next⟩⟩ r else none
  | none :: _ => none
def meetAll : List (Option (XE × St)) → Option (XE × St)
  | some (e, s) :: r => meetR e s r
  | _ => none
def isLock (tl : Nat) : Option AObj → Bool
  | some (.lmap _ t) => t == tl
  | _ => false
def isIt (t : Nat) : Option AV → Bool
  | some (.ptr a b) => a == t && b == 0
  | _ => false
def mrounds (i it t tl nx mo out : Nat) (rnd : AV × AV → St → Option (XE × St)) (es : List (AV × AV)) (s : St) : Option (XE × St) :=
  meetAll ((permsL es).map fun r => mrun (fun s => isLock tl (s.H.get i) && isIt t (s.tm.get it)) (fun s => ⟨(s.tm.set nx none).set mo none, s.H⟩) rnd out r s)
def unlockA (i t : Nat) (r : XE × St) : Option (XE × St) :=
  match r.2.H.get i with
  | some (.lmap es t') => if t' = t then some (r.1, ⟨r.2.tm, r.2.H.set i (some (.map es))⟩) else none
  | _ => none
def xcode (cf : Nat → List AV → AHeap → Option (AV × AHeap)) (fuel : Nat) : XCode → St → Option (XE × St)
  | .skip, s => some (.normal, s)
  | .reg ops, s => (xops cf ops s.H.next (bump s ops.length)).map fun s' => (.normal, s')
  | .regd ops lo nn, s => (xregionD cf ops lo nn s).map fun s' => (.normal, s')
  | .seq a b, s => match xcode cf fuel a s with
    | some (.normal, s') => xcode cf fuel b s'
    | r => r
  | .cond c a b, s => match St.ev s.tm c with
    | some (.bool true) => xcode cf fuel a s
    | some (.bool false) => xcode cf fuel b s
    | _ => none
  | .block id c, s => match xcode cf fuel c s with
    | some (.exit i, s') => if i = id then some (.normal, s') else some (.exit i, s')
    | r => r
  | .loop c, s => loopF (xcode cf fuel c) fuel s
  | .exit id, s => some (.exit id, s)
  | .ret, s => some (.ret, s)
  | .mrange pre it m out nx mo nb pr rest code, s =>
    match xops cf pre s.H.next (bump s (pre.length + 1)) with
    | none => none
    | some s1 =>
      let rnd := fun (e : AV × AV) (s : St) =>
        match xops cf rest (s.H.next + 1) (bump ⟨((s.tm.set nx none).set mo none).set pr (some (.tup [e.1, e.2])), s.H⟩ (rest.length + 1)) with
        | none => none
        | some s2 => match xcode cf fuel code s2 with
          | some (.exit i, s3) => if i = nb then some (.normal, s3) else some (.exit i, s3)
          | r => r
      match St.ev s1.tm m with
      | some (.map i) =>
        match s1.H.get i with
        | some (.map es) => (mrounds i it s1.H.next s1.H.next nx mo out rnd es ⟨s1.tm.set it (some (.ptr s1.H.next 0)), ⟨s1.H.m.set i (some (.lmap es s1.H.next)), s1.H.next + 1⟩⟩).bind (unlockA i s1.H.next)
        | some (.lmap es tl) => mrounds i it s1.H.next tl nx mo out rnd es ⟨s1.tm.set it (some (.ptr s1.H.next 0)), ⟨s1.H.m, s1.H.next + 1⟩⟩
        | _ => none
      | _ => none
def argsT : List AV → Nat → Tr AV → Tr AV
  | [], _, t => t
  | x :: r, n, t => argsT r (n + 1) (t.set n (some x))
def resA (s : St) : XRes → Option AV
  | .t n => s.tm.get n
  | .c a n => (s.tm.get a).bind (loadA s.H n)
def resL (s : St) : List XRes → Option (List AV)
  | [] => some []
  | r :: l => do
    let x ← resA s r
    some (x :: (← resL s l))
def xfunc (cf : Nat → List AV → AHeap → Option (AV × AHeap)) (fuel : Nat) (fn : XFunc) (args : List AV) (H : AHeap) : Option (AV × AHeap) :=
  if args.length ≠ fn.np ∨ fn.nt < args.length then none else
  match xcode cf fuel fn.code ⟨argsT args 0 .e, H⟩ with
  | some (e, s) =>
    match e with
    | .exit _ => none
    | _ => match resL s fn.res with
      | some [x] => some (x, s.H)
      | some l => some (.tup l, s.H)
      | none => none
  | none => none
def xcall (F : Nat → Option XFunc) (fuel : Nat) : Nat → Nat → List AV → AHeap → Option (AV × AHeap)
  | 0, _, _, _ => none
  | k + 1, f, args, H => match F f with
    | some fn => xfunc (xcall F fuel k) fuel fn args H
    | none => none
end Go.Eng
end
section
namespace Go.Eng
def TmR (E : Env) (w : World) (tm : Tr AV) (tmps : Array Value) : Prop := ∀ t x, tm.get t = some x → ∃ u, tmps[t]? = some u ∧ AVRel E w x u
theorem TmR.mono {E E' : Env} {w w' : World} (x : Env.Ext E E' w w') {tm : Tr AV} {tmps : Array Value} (h : TmR E w tm tmps) : TmR E' w' tm tmps :=
  fun t v hv => let ⟨u, h1, h2⟩ := h t v hv; ⟨u, h1, AVRel.mono x _ _ h2⟩
theorem TmR.put {E : Env} {w : World} {tm : Tr AV} {a : Act} (h : TmR E w tm a.tmps) {dst : Option Nat} {x : AV} {u : Value} (hx : AVRel E w x u)
    (hd : ∀ d, dst = some d → d < a.tmps.size) : TmR E w (putT tm dst x) (a.put dst u).tmps := by
  cases dst with
  | none => exact h
  | some d =>
    intro t v hv
    simp only [putT, Tr.get_set] at hv
    have hlt := hd d rfl
    by_cases e : t = d
    · subst e
      rw [if_pos rfl] at hv
      cases hv
      exact ⟨u, by simp [Act.put, hlt], hx⟩
    · rw [if_neg e] at hv
      obtain ⟨u', h1, h2⟩ := h t v hv
      exact ⟨u', by simp only [Act.put]; rw [Array.getElem?_setIfInBounds_ne (fun q => e q.symm)]; exact h1, h2⟩
section
variable {E : Env} {w : World}
theorem avOf1_rel {v : Value} {x : AV} (h : avOf1 v = some x) : AVRel E w x v := by
  unfold avOf1 at h
  split at h <;> first | (cases h; simp [AVRel]; done) | (cases h; exact ⟨_, rfl, rfl⟩) | cases h
theorem mapM_avOf1 : ∀ {l : List Value} {xs : List AV}, l.mapM avOf1 = some xs → AVRelL E w xs l
  | [], xs, h => by simp at h; subst h; simp [AVRelL]
  | v :: l, xs, h => by
    rw [List.mapM_cons] at h
    simp only [bind, Option.bind_eq_some_iff, pure, Option.some.injEq] at h
    obtain ⟨x, hx, ys, hys, rfl⟩ := h
    simp only [AVRelL]
    exact ⟨v, l, rfl, avOf1_rel hx, mapM_avOf1 hys⟩
theorem avOf_rel {v : Value} {x : AV} (h : avOf v = some x) : AVRel E w x v := by
  unfold avOf at h
  split at h
  · rename_i cs
    simp only [Option.map_eq_some_iff] at h
    obtain ⟨l, hl, rfl⟩ := h
    simp only [AVRel]
    exact ⟨cs, rfl, mapM_avOf1 hl⟩
  · rename_i vs
    split at h
    · rename_i he
      cases h
      simp only [AVRel]
      refine ⟨vs, rfl, ?_⟩
      have : vs = #[] := by simpa using he
      subst this
      simp [AVRelL]
    · cases h
  · exact avOf1_rel h
theorem ev_rel {tm : Tr AV} {a : Act} (hT : TmR E w tm a.tmps) {o : Operand} {y : XO} {x : AV} (hy : xo o = some y) (hx : St.ev tm y = some x) : AVRel E w x (a.eval o) := by
  cases o with
  | tmp t =>
    simp only [xo, Option.some.injEq] at hy
    subst hy
    simp only [St.ev] at hx
    obtain ⟨u, h1, h2⟩ := hT t x hx
    have : a.eval (.tmp t) = u := by simp [Act.eval, h1]
    rw [this]; exact h2
  | const v =>
    simp only [xo, Option.map_eq_some_iff] at hy
    obtain ⟨z, hz, rfl⟩ := hy
    simp only [St.ev, Option.some.injEq] at hx
    subst hx
    exact avOf_rel hz
  | func f =>
    simp only [xo, Option.some.injEq] at hy
    subst hy
    simp only [St.ev, Option.some.injEq] at hx
    subst hx
    simp only [AVRel, Act.eval]
    exact ⟨#[], rfl, by simp [AVRelL]⟩
  | global g =>
    simp only [xo, Option.some.injEq] at hy
    subst hy
    simp only [St.ev, Option.some.injEq] at hx
    subst hx
    simp [AVRel, Act.eval]
theorem evL_rel {tm : Tr AV} {a : Act} (hT : TmR E w tm a.tmps) : ∀ {os : List Operand} {ys : List XO} {xs : List AV}, os.mapM xo = some ys → evL (St.ev tm) ys = some xs → AVRelL E w xs (os.map a.eval)
  | [], ys, xs, h, h' => by
    simp at h; subst h
    simp [evL] at h'; subst h'
    simp [AVRelL]
  | o :: os, ys, xs, h, h' => by
    rw [List.mapM_cons] at h
    simp only [bind, Option.bind_eq_some_iff, pure, Option.some.injEq] at h
    obtain ⟨y, hy, zs, hzs, rfl⟩ := h
    simp only [evL, bind, Option.bind_eq_some_iff, pure, Option.some.injEq] at h'
    obtain ⟨x, hx, xs', hxs, rfl⟩ := h'
    simp only [List.map_cons, AVRelL]
    exact ⟨_, _, rfl, ev_rel hT hy hx, evL_rel hT hzs hxs⟩
theorem AVRel.int_inv {k : IntKind} {n : Int} {u : Value} (h : AVRel E w (.int k n) u) : u = .int k n := by simpa [AVRel] using h
theorem AVRel.bool_inv {b : Bool} {u : Value} (h : AVRel E w (.bool b) u) : u = .bool b := by simpa [AVRel] using h
theorem AVRel.str_inv {s : List UInt8} {u : Value} (h : AVRel E w (.str s) u) : u = .string ⟨s.toArray⟩ := by
  simp only [AVRel] at h
  obtain ⟨t, rfl, ht⟩ := h
  congr 1
  cases t
  simp only at ht
  subst ht
  rfl
theorem AVRel.cells_rel {x : AV} {u : Value} (h : AVRel E w x u) : AVRelL E w x.cells u.cells.toList := by
  cases x with
  | agg l =>
    simp only [AVRel] at h
    obtain ⟨us, rfl, h2⟩ := h
    exact h2
  | _ =>
    have hu : u.cells = #[u] := by
      simp only [AVRel] at h
      first
        | (subst h; rfl)
        | (rcases h with ⟨rfl, rfl, _, _, rfl, _⟩ | ⟨_, _, _, _, rfl, _⟩ <;> rfl)
        | (obtain ⟨_, rfl, _⟩ := h; rfl)
        | (obtain ⟨_, _, rfl⟩ := h; rfl)
        | (obtain ⟨_, _, _, _, rfl, _⟩ := h; rfl)
        | (obtain ⟨_, _, _, rfl, _⟩ := h; rfl)
    rw [hu]
    simp only [AV.cells, AVRelL]
    exact ⟨u, [], rfl, h, rfl⟩
theorem AVRel.oneCell {x : AV} {u : Value} (h : AVRel E w x u) (hx : x.oneCell = true) : u.oneCell' = true := by
  cases x <;> simp only [AVRel] at h <;> first
    | (simp [AV.oneCell] at hx; done)
    | (subst h; rfl)
    | (rcases h with ⟨rfl, rfl, _, _, rfl, _⟩ | ⟨_, _, _, _, rfl, _⟩ <;> rfl)
    | (obtain ⟨_, rfl, _⟩ := h; rfl)
    | (obtain ⟨_, _, rfl⟩ := h; rfl)
    | (obtain ⟨_, _, _, _, rfl, _⟩ := h; rfl)
    | (obtain ⟨_, _, _, rfl, _⟩ := h; rfl)
theorem AVRelL.oneCell : ∀ {l : List AV} {us : List Value}, AVRelL E w l us → l.all AV.oneCell = true → ∀ u ∈ us, u.oneCell' = true
  | [], us, h, _ => by simp only [AVRelL] at h; subst h; simp
  | x :: l, us, h, ha => by
    simp only [AVRelL] at h
    obtain ⟨u, us', rfl, h2, h3⟩ := h
    simp only [List.all_cons, Bool.and_eq_true] at ha
    intro v hv
    simp only [List.mem_cons] at hv
    rcases hv with rfl | hv
    · exact AVRel.oneCell h2 ha.1
    · exact AVRelL.oneCell h3 ha.2 v hv
section
variable {P : Program}
theorem byteList (s : List UInt8) : (ByteArray.mk s.toArray).toList = s := by
  rw [ByteArray.toList_eq]
theorem bits_sound {op : BinOp} {k : IntKind} {a b : Int} {x : AV} (h : bitsA op k a b = some x) : ∃ u, (Op.intBits op k a b).run P w = .ok u w ∧ AVRel E w x u := by
  unfold bitsA at h
  cases op <;> simp only [Option.some.injEq, reduceCtorEq] at h <;> (subst h; exact ⟨_, rfl, by simp [AVRel, wrapA]⟩)
theorem cmp_sound {op : BinOp} {a b : Int} {x : AV} (h : intCmpA op a b = some x) : ∃ u, (Op.intCmp op a b).run P w = .ok u w ∧ AVRel E w x u := by
  unfold intCmpA at h
  cases op <;> simp only [Option.some.injEq, reduceCtorEq] at h <;> (subst h; exact ⟨_, rfl, by simp [AVRel]⟩)
theorem str_sound {op : BinOp} {a b : List UInt8} {x : AV} (h : strA op a b = some x) :
    ∃ u, (Op.stringOp op ⟨a.toArray⟩ ⟨b.toArray⟩).run P w = .ok u w ∧ AVRel E w x u := by
  unfold strA at h
  have ha := byteList a
  have hb := byteList b
  have sa : (ByteArray.mk a.toArray).size = a.length := by simp [ByteArray.size]
  have sb : (ByteArray.mk b.toArray).size = b.length := by simp [ByteArray.size]
  cases op <;> simp only [Option.some.injEq, reduceCtorEq] at h
  case add =>
    split at h
    · rename_i hl
      cases h
      refine ⟨.string (⟨a.toArray⟩ ++ ⟨b.toArray⟩), ?_, ?_⟩
      · simp only [Op.stringOp, sa, sb]
        rw [if_neg (by simp [IntKind.max, IntKind.signed, IntKind.bits]; omega)]
        rfl
      · simp only [AVRel]
        exact ⟨_, rfl, by simp [ByteArray.data_append]⟩
    · cases h
  all_goals
    subst h
    simp only [Op.stringOp, ha, hb]
    refine ⟨.bool _, rfl, ?_⟩
    simp [AVRel]
theorem bin_sound {op : BinOp} {t : TypeId} {x y r : AV} {u v : Value} (hu : AVRel E w x u) (hv : AVRel E w y v) (h : binA op x y = some r) : ∃ z, (binOp op t u v).run P w = .ok z w ∧ AVRel E w r z := by
  unfold binA at h
  split at h
  · rename_i k a k' b
    obtain rfl := hu.int_inv
    obtain rfl := hv.int_inv
    split at h
    · split at h
      · cases h
      · rename_i hn
        cases h
        refine ⟨.int k (k.wrap (a * 2 ^ min b.toNat k.bits)), ?_, by simp [AVRel, wrapA]⟩
        simp only [binOp, Op.shift]
        rw [if_neg hn]
        rfl
    · split at h
      · cases h
      · rename_i hn
        cases h
        refine ⟨.int k (a.fdiv (2 ^ min b.toNat k.bits)), ?_, by simp [AVRel]⟩
        simp only [binOp, Op.shift]
        rw [if_neg hn]
        rfl
    · rename_i n1 n2
      split at h
      · cases h
      · rename_i hk
        have hk' : k = k' := by
          by_cases e : k = k'
          · exact e
          · exact absurd e hk
        subst hk'
        have hkk : ∀ X Y : Sem Value, (if k ≠ k then X else Y) = Y := fun X Y => by simp
        cases op <;> simp only [Option.some.injEq, reduceCtorEq] at h <;> simp only [binOp, hkk] <;> first
          | (exact absurd rfl n1)
          | (exact absurd rfl n2)
          | exact bits_sound h
          | exact cmp_sound h
          | (subst h; exact ⟨_, rfl, by simp [AVRel, wrapA]⟩)
          | (split at h
             · cases h
             · rename_i hz
               cases h
               simp only [Op.intDiv, if_neg hz, wrapA]
               exact ⟨.int k _, rfl, by simp [AVRel]⟩)
  · rename_i a b
    obtain rfl := hu.str_inv
    obtain rfl := hv.str_inv
    have hd : (binOp op t (.string ⟨a.toArray⟩) (.string ⟨b.toArray⟩)) = Op.stringOp op ⟨a.toArray⟩ ⟨b.toArray⟩ := by
      cases op <;> rfl
    rw [hd]
    exact str_sound h
  · cases h
theorem un_sound {op : UnOp} {x r : AV} {u : Value} (hu : AVRel E w x u) (h : unA op x = some r) : ∃ z, (Op.unary op u).run P w = .ok z w ∧ AVRel E w r z := by
  unfold unA at h
  split at h
  · cases h
    obtain rfl := hu.int_inv
    exact ⟨_, rfl, by simp [AVRel, wrapA]⟩
  · obtain rfl := hu.int_inv
    exact bits_sound h
  · cases h
    obtain rfl := hu.bool_inv
    exact ⟨_, rfl, by simp [AVRel]⟩
  · cases h
end
end
end Go.Eng
end
section
namespace Go.Eng
section
variable {E : Env} {w : World} {P : Program}
theorem litA_sound {k : KK} {x : AV} {u : Value} {l : Lit} (h : litA k x = some l) (hu : AVRel E w x u) :
    (k = .b ∧ ∃ b, u = .bool b ∧ l = .bool b) ∨ (∃ q n, k = .i q ∧ u = .int q n ∧ (Lit.int q n).wf = true ∧ l = .int q n) ∨ (k = .s ∧ ∃ s : ByteArray, u = .string s ∧ s.size ≤ maxLen ∧ l = .string s.data.toList) := by
  unfold litA at h
  split at h
  · cases h
    exact .inl ⟨rfl, _, hu.bool_inv, rfl⟩
  · split at h
    · rename_i q k' n hq
      cases h
      obtain ⟨rfl, hw⟩ := hq
      exact .inr (.inl ⟨_, _, rfl, hu.int_inv, hw, rfl⟩)
    · cases h
  · rename_i s
    split at h
    · rename_i hs
      cases h
      refine .inr (.inr ⟨rfl, _, hu.str_inv, ?_, rfl⟩)
      simpa [ByteArray.size] using hs
    · cases h
  · cases h
theorem litsA_length : ∀ {ks : List KK} {xs : List AV} {ls : List Lit}, litsA ks xs = some ls → ks.length = xs.length ∧ ls.length = xs.length
  | [], [], _, h => by simp [litsA] at h; subst h; simp
  | [], _ :: _, _, h => by simp [litsA] at h
  | _ :: _, [], _, h => by simp [litsA] at h
  | k :: ks, x :: xs, ls, h => by
    simp only [litsA, bind, Option.bind_eq_some_iff, Option.some.injEq] at h
    obtain ⟨l, hl, m, hm, rfl⟩ := h
    have := litsA_length hm
    simp [this.1, this.2]
theorem litsA_one {k : KK} {xs : List AV} {ls : List Lit} (h : litsA [k] xs = some ls) : ∃ x l, xs = [x] ∧ litA k x = some l ∧ ls = [l] := by
  match xs, h with
  | [x], h =>
    simp only [litsA, bind, Option.bind_eq_some_iff, Option.some.injEq] at h
    obtain ⟨l, hl, m, rfl, rfl⟩ := h
    exact ⟨x, l, rfl, hl, rfl⟩
  | [], h => simp [litsA] at h
  | _ :: _ :: _, h =>
    simp only [litsA, bind, Option.bind_eq_some_iff, Option.some.injEq] at h
    obtain ⟨_, _, _, hq, _⟩ := h
    simp at hq
theorem litsA_append : ∀ {ks js : List KK} {xs : List AV} {ls : List Lit}, litsA (ks ++ js) xs = some ls →
    ∃ l1 l2, litsA ks (xs.take ks.length) = some l1 ∧ litsA js (xs.drop ks.length) = some l2 ∧ ls = l1 ++ l2
  | [], js, xs, ls, h => ⟨[], ls, by simp [litsA], by simpa using h, rfl⟩
  | k :: ks, js, [], ls, h => by simp [litsA] at h
  | k :: ks, js, x :: xs, ls, h => by
    simp only [List.cons_append, litsA, bind, Option.bind_eq_some_iff, Option.some.injEq] at h
    obtain ⟨l, hl, m, hm, rfl⟩ := h
    obtain ⟨l1, l2, h1, h2, rfl⟩ := litsA_append hm
    exact ⟨l :: l1, l2, by simp [litsA, hl, h1], by simpa using h2, rfl⟩
theorem kinds_lits : ∀ (d : Nat) (t : TypeId) (ks : List KK), kindsOf P d t = some ks → ∀ (xs : List AV) (us : List Value) (ls : List Lit), litsA ks xs = some ls → AVRelL E w xs us → P.keyLits d t us = some ls
  | 0, _, _, h => by simp [kindsOf] at h
  | d + 1, t, ks, h => by
    intro xs us ls hl hr
    unfold kindsOf at h
    unfold Program.keyLits
    cases hu : P.underlying t with
    | none => simp [hu] at h
    | some td =>
      simp only [hu] at h
      cases td <;> simp only [Option.some.injEq, reduceCtorEq] at h
      case bool =>
        subst h
        obtain ⟨x, l, rfl, hl1, rfl⟩ := litsA_one hl
        simp only [AVRelL] at hr
        obtain ⟨u, _, rfl, h2, rfl⟩ := hr
        rcases litA_sound hl1 h2 with ⟨_, b, rfl, rfl⟩ | ⟨q, n, hk, _⟩ | ⟨hk, _⟩
        · rfl
        · cases hk
        · cases hk
      case int q =>
        subst h
        obtain ⟨x, l, rfl, hl1, rfl⟩ := litsA_one hl
        simp only [AVRelL] at hr
        obtain ⟨u, _, rfl, h2, rfl⟩ := hr
        rcases litA_sound hl1 h2 with ⟨hk, _⟩ | ⟨q', n, hk, rfl, hw, rfl⟩ | ⟨hk, _⟩
        · cases hk
        · cases hk
          simp [hw]
        · cases hk
      case string =>
        subst h
        obtain ⟨x, l, rfl, hl1, rfl⟩ := litsA_one hl
        simp only [AVRelL] at hr
        obtain ⟨u, _, rfl, h2, rfl⟩ := hr
        rcases litA_sound hl1 h2 with ⟨hk, _⟩ | ⟨q', n, hk, _⟩ | ⟨_, s, rfl, hs, rfl⟩
        · cases hk
        · cases hk
        · simp [hs]
      case array n e =>
        cases hk : kindsOf P d e with
        | none => simp [hk] at h
        | some kse =>
          simp only [hk] at h
          split at h
          · rename_i hc
            cases h
            obtain ⟨hc1, hc2⟩ := hc
            have hlen := litsA_length hl
            have hus := hr.length
            have h0 : us.length = P.cellsOf t := by
              rw [hus, ← hlen.1, ← hc2]
              simp
            simp only [if_pos h0]
            have key : ∀ (m : Nat) (xs : List AV) (us : List Value) (ls : List Lit), litsA (List.replicate m kse).flatten xs = some ls → AVRelL E w xs us →
                ∃ as, (List.range m).mapM (fun i => P.keyLits d e ((us.drop (i * P.cellsOf e)).take (P.cellsOf e))) = some as ∧ as.flatten = ls := by
              intro m
              induction m with
              | zero =>
                intro xs us ls h1 h2
                refine ⟨[], by simp, ?_⟩
                cases xs with
                | nil => simp [litsA] at h1; subst h1; rfl
                | cons => simp [litsA] at h1
              | succ m ih =>
                intro xs us ls h1 h2
                rw [List.replicate_succ, List.flatten_cons] at h1
                obtain ⟨l1, l2, e1, e2, rfl⟩ := litsA_append h1
                have r1 : P.keyLits d e (us.take (P.cellsOf e)) = some l1 := by
                  rw [hc1] at e1
                  exact kinds_lits d e kse hk _ _ _ e1 (h2.take _)
                rw [hc1] at e2
                obtain ⟨as, ha, hf⟩ := ih _ _ _ e2 (h2.drop _)
                refine ⟨l1 :: as, ?_, by simp [hf]⟩
                rw [List.range_succ_eq_map, List.mapM_cons]
                simp only [Nat.zero_mul, List.drop_zero, r1, bind, Option.bind_some, List.mapM_map]
                have : (fun i => P.keyLits d e ((us.drop (i.succ * P.cellsOf e)).take (P.cellsOf e))) = fun i => P.keyLits d e (((us.drop (P.cellsOf e)).drop (i * P.cellsOf e)).take (P.cellsOf e)) := by
                  funext i
                  rw [List.drop_drop, Nat.succ_mul, Nat.add_comm]
                rw [show (fun i => P.keyLits d e ((us.drop (i * P.cellsOf e)).take (P.cellsOf e))) ∘ Nat.succ = fun i => P.keyLits d e (((us.drop (P.cellsOf e)).drop (i * P.cellsOf e)).take (P.cellsOf e)) from this, ha]
                rfl
            obtain ⟨as, ha, hf⟩ := key n xs us ls hl hr
            simp [ha, hf]
          · cases h
      case struct fs =>
        cases hk : fs.toList.mapM fun f => kindsOf P d f.type with
        | none => simp [hk] at h
        | some kss =>
          simp only [hk] at h
          split at h
          · rename_i hc
            cases h
            obtain ⟨hc1, hc2⟩ := hc
            have hlen := litsA_length hl
            have hus := hr.length
            have h0 : us.length = P.cellsOf t := by rw [hus, ← hlen.1, hc2]
            have key : ∀ (fl : List Field) (kss : List (List KK)) (b : Nat), fl.mapM (fun f => kindsOf P d f.type) = some kss → offsOk P b fl kss = true →
                ∀ (xs : List AV) (ls : List Lit), litsA kss.flatten xs = some ls → AVRelL E w xs (us.drop b) →
                (∀ f ∈ fl, (f.name != "_") = true) ∧ ∃ as, fl.mapM (fun f => P.keyLits d f.type ((us.drop f.offset).take (P.cellsOf f.type))) = some as ∧ as.flatten = ls := by
              intro fl
              induction fl with
              | nil =>
                intro kss b hm ho xs ls h1 h2
                simp at hm
                subst hm
                refine ⟨by simp, [], by simp, ?_⟩
                cases xs with
                | nil => simp [litsA] at h1; subst h1; rfl
                | cons => simp [litsA] at h1
              | cons f fl ih =>
                intro kss b hm ho xs ls h1 h2
                rw [List.mapM_cons] at hm
                simp only [bind, Option.bind_eq_some_iff, pure, Option.some.injEq] at hm
                obtain ⟨k1, hk1, kr, hkr, rfl⟩ := hm
                simp only [offsOk, Bool.and_eq_true, beq_iff_eq] at ho
                obtain ⟨⟨⟨ho1, ho2⟩, ho3⟩, ho4⟩ := ho
                rw [List.flatten_cons] at h1
                obtain ⟨l1, l2, e1, e2, rfl⟩ := litsA_append h1
                have r1 : P.keyLits d f.type ((us.drop f.offset).take (P.cellsOf f.type)) = some l1 := by
                  rw [ho2] at e1
                  rw [ho1]
                  exact kinds_lits d f.type k1 hk1 _ _ _ e1 (h2.take _)
                have h2' := h2.drop k1.length
                rw [List.drop_drop] at h2'
                obtain ⟨hn, as, ha, hf⟩ := ih kr (b + k1.length) hkr ho4 _ _ e2 h2'
                refine ⟨?_, l1 :: as, ?_, by simp [hf]⟩
                · intro g hg
                  rcases List.mem_cons.1 hg with rfl | hg
                  · exact ho3
                  · exact hn g hg
                · rw [List.mapM_cons]
                  simp [r1, ha]
            obtain ⟨hn, as, ha, hf⟩ := key fs.toList kss 0 hk hc1 xs ls hl (by simpa using hr)
            have hall : fs.all (·.name != "_") = true := by
              rw [← Array.all_toList, List.all_eq_true]
              exact hn
            simp only [if_pos (show us.length = P.cellsOf t ∧ fs.all (·.name != "_") = true from ⟨h0, hall⟩)]
            simp [ha, hf]
          · cases h
theorem keyA_sound {t : TypeId} {K : KT} (hK : keyKinds P t = some K) {x : AV} {u : Value} {l : List Lit} (h : keyA K x = some l) (hu : AVRel E w x u) :
    u.formed P t = true ∧ P.keyLits 9 t u.cells.toList = some l ∧ P.keyTypeAt 9 t = true := by
  simp only [keyKinds, bind, Option.bind_eq_some_iff] at hK
  obtain ⟨a, ha, ks, hks, hK⟩ := hK
  split at hK
  · rename_i hc
    cases hK
    obtain ⟨hc1, hc2⟩ := hc
    have hl : litsA ks x.cells = some l ∧ (a = true ↔ ∃ l, x = .agg l) := by
      unfold keyA at h
      split at h
      · split at h
        · rename_i hag
          exact ⟨h, fun _ => ⟨_, rfl⟩, fun _ => hag⟩
        · cases h
      · rename_i hx
        split at h
        · cases h
        · rename_i hna
          refine ⟨?_, ?_⟩
          · cases x <;> first | exact h | exact absurd rfl (hx _)
          · constructor
            · intro q; exact absurd q hna
            · rintro ⟨m, rfl⟩; exact absurd rfl (hx m)
    refine ⟨?_, kinds_lits 9 t ks hks _ _ _ hl.1 hu.cells_rel, hc1⟩
    cases x with
    | agg m =>
      have hat := hl.2.2 ⟨m, rfl⟩
      have hlen := (litsA_length hl.1).1
      simp only [AVRel] at hu
      obtain ⟨us, rfl, hus⟩ := hu
      have hsz : us.size = P.cellsOf t := by
        have := hus.length
        simp only [AV.cells] at hlen
        rw [← Array.length_toList, this, ← hlen, hc2 hat]
      simp only [isAggT] at ha
      split at ha
      · rename_i hu'
        simp [Value.formed, hu', hsz]
      · rename_i hu'
        simp [Value.formed, hu', hsz]
      · cases ha; simp at hat
      · cases ha
    | _ =>
      have hat : a ≠ true := fun q => by
        obtain ⟨m, hm⟩ := hl.2.1 q
        cases hm
      have hnot : (match P.underlying t with | some (.struct _) | some (.array _ _) => false | _ => true) = true := by
        simp only [isAggT] at ha
        split at ha <;> first | (cases ha; exact absurd rfl hat) | simp_all
      unfold keyA at h
      simp only at h
      split at h
      · cases h
      · have hl1 := hl.1
        simp only [AV.cells] at hl1
        have hk : ∃ k, ks = [k] := by
          have := (litsA_length hl1).1
          match ks, this with
          | [k], _ => exact ⟨k, rfl⟩
        obtain ⟨k, rfl⟩ := hk
        simp only [litsA, bind, Option.bind_eq_some_iff, Option.some.injEq] at hl1
        obtain ⟨q, hq, _⟩ := hl1
        rcases litA_sound hq hu with ⟨_, b, rfl, _⟩ | ⟨_, n, _, rfl, _⟩ | ⟨_, s, rfl, _⟩ <;> exact hnot
  · cases hK
theorem litEq_iff {k : KK} {x y : AV} {a b : Lit} (h : litA k x = some a) (h' : litA k y = some b) : litEq a b = true ↔ a = b := by
  unfold litA at h h'
  cases k <;> split at h <;> (try cases h) <;> (try (split at h' <;> (try cases h') <;> (try simp [litEq])))
  all_goals (try (split at h <;> (try cases h)))
  all_goals (try (split at h' <;> (try cases h')))
  all_goals (try simp_all [litEq])
theorem litsEq_iff : ∀ {ks : List KK} {xs ys : List AV} {a b : List Lit}, litsA ks xs = some a → litsA ks ys = some b → (litsEq a b = true ↔ a = b)
  | [], [], [], a, b, h, h' => by simp [litsA] at h h'; subst h; subst h'; simp [litsEq]
  | [], _ :: _, _, _, _, h, _ => by simp [litsA] at h
  | [], _, _ :: _, _, _, _, h => by simp [litsA] at h
  | _ :: _, [], _, _, _, h, _ => by simp [litsA] at h
  | _ :: _, _, [], _, _, _, h => by simp [litsA] at h
  | k :: ks, x :: xs, y :: ys, a, b, h, h' => by
    simp only [litsA, bind, Option.bind_eq_some_iff, Option.some.injEq] at h h'
    obtain ⟨l, hl, m, hm, rfl⟩ := h
    obtain ⟨l', hl', m', hm', rfl⟩ := h'
    simp only [litsEq, Bool.and_eq_true, List.cons.injEq, litEq_iff hl hl', litsEq_iff hm hm']
theorem keyA_lits {K : KT} {x : AV} {l : List Lit} (h : keyA K x = some l) : ∃ xs, litsA K.ks xs = some l := by
  unfold keyA at h
  split at h
  · split at h
    · exact ⟨_, h⟩
    · cases h
  · split at h
    · cases h
    · exact ⟨_, h⟩
theorem equal_sound {t : TypeId} {K : KT} (hK : keyKinds P t = some K) {x y : AV} {u v : Value} {l m : List Lit} (hx : keyA K x = some l) (hy : keyA K y = some m)
    (hu : AVRel E w x u) (hv : AVRel E w y v) : (Op.equal t u v).run P w = .ok (litsEq l m) w := by
  obtain ⟨f1, k1, ht⟩ := keyA_sound hK hx hu
  obtain ⟨f2, k2, _⟩ := keyA_sound hK hy hv
  obtain ⟨r, hr, hi⟩ := run_equalIn_deep (P := P) 9991 9 t ht w 9 9 u v l m f1 f2 k1 k2
  obtain ⟨xs, hxs⟩ := keyA_lits hx
  obtain ⟨ys, hys⟩ := keyA_lits hy
  have : r = litsEq l m := by
    rw [Bool.eq_iff_iff, hi, litsEq_iff hxs hys]
  rw [← this]
  exact hr
end
end Go.Eng
end
section
namespace Go.Eng
section
variable {E : Env} {w : World} {P : Program}
theorem isAggT_run {t : TypeId} {b : Bool} (h : isAggT P t = some b) : (isAgg t).run P w = .ok b w := by
  unfold isAggT at h
  cases hu : P.underlying t with
  | none => simp [hu] at h
  | some d =>
    rw [hu] at h
    cases d <;> simp at h <;> subst h <;> simp [isAgg, run_underlying hu]
theorem size_run {t : TypeId} {n : Nat} (h : sizeT P t = some n) : (sizeOf t).run P w = .ok n w := by
  simp only [sizeT, Option.map_eq_some_iff] at h
  obtain ⟨i, hi, rfl⟩ := h
  simp [sizeOf, typeInfo, hi]
theorem shape_inv {t : TypeId} {s : Option Nat} (h : shapeOf P t = some s) : ∃ a, isAggT P t = some a ∧ (sizeOf t).run P w = .ok (P.cellsOf t) w ∧ s = if a then some (P.cellsOf t) else none := by
  simp only [shapeOf, bind, Option.bind_eq_some_iff, Option.some.injEq] at h
  obtain ⟨a, ha, i, hi, rfl⟩ := h
  exact ⟨a, ha, run_sizeOf w hi, rfl⟩
theorem part_sound {t : TypeId} {s : Option Nat} (hs : shapeOf P t = some s) {l : List AV} {us : Array Value} (hu : AVRelL E w l us.toList) {off : Nat} {x : AV} (h : partA off s l = some x) :
    ∃ u, (part t us off).run P w = .ok u w ∧ AVRel E w x u := by
  obtain ⟨a, ha, hz, rfl⟩ := shape_inv (w := w) hs
  have hr := isAggT_run (w := w) ha
  cases a with
  | false =>
    simp only [partA, Bool.false_eq_true, if_false] at h
    obtain ⟨u, h1, h2⟩ := hu.get h
    have h1' : us[off]? = some u := by rw [← Array.getElem?_toList]; exact h1
    exact ⟨u, by simp [part, hr, h1'], h2⟩
  | true =>
    simp only [partA, if_true] at h
    split at h
    · cases h
      refine ⟨.agg (us.extract off (off + P.cellsOf t)), by simp [part, hr, hz], ?_⟩
      simp only [AVRel]
      refine ⟨_, rfl, ?_⟩
      rw [Array.toList_extract, List.extract_eq_take_drop]
      have := (hu.drop off).take (P.cellsOf t)
      simpa using this
    · cases h
theorem fold_set (off : Nat) : ∀ (vs : List Value) (k : Nat) (cs : Array Value), off + k + vs.length ≤ cs.size →
    ((vs.zipIdx k).foldl (fun cs (c, j) => cs.setIfInBounds (off + j) c) cs).toList = cs.toList.take (off + k) ++ vs ++ cs.toList.drop (off + k + vs.length)
  | [], k, cs, _ => by simp
  | v :: vs, k, cs, h => by
    simp only [List.length_cons] at h
    rw [List.zipIdx_cons, List.foldl_cons, fold_set off vs (k + 1) _ (by simp; omega)]
    simp only [Array.toList_setIfInBounds]
    have hk : off + k < cs.toList.length := by simp; omega
    rw [List.drop_set_of_lt (by omega), show off + (k + 1) = off + k + 1 by omega, List.take_add_one, List.take_set_of_le (by omega)]
    simp only [List.length_cons, List.getElem?_set_self hk, Option.toList_some, List.append_assoc, List.singleton_append, List.cons_append]
    rw [List.nil_append, show off + k + 1 + vs.length = off + k + (vs.length + 1) by omega]
theorem fill_sound {tm : Tr AV} {a : Act} (hT : TmR E w tm a.tmps) {place : Nat → Option (Nat × Nat)} : ∀ {ps : List (Nat × Operand)} {qs : List (Nat × Nat × XO)} {l : List (Nat × Nat × AV)} {zs r : List AV} {cells : Array Value},
    partsX place ps = some qs → evParts (St.ev tm) qs = some l → fillA zs l = some r → AVRelL E w zs cells.toList →
    ∃ c', Instr.fill place cells (ps.map fun p => (p.1, a.eval p.2)) = some c' ∧ AVRelL E w r c'.toList
  | [], qs, l, zs, r, cells, h1, h2, h3, h4 => by
    simp [partsX] at h1; subst h1
    simp [evParts] at h2; subst h2
    simp [fillA] at h3; subst h3
    exact ⟨cells, by simp [Instr.fill], h4⟩
  | (i, x) :: ps, qs, l, zs, r, cells, h1, h2, h3, h4 => by
    simp only [partsX, List.mapM_cons, bind, Option.bind_eq_some_iff, pure, Option.some.injEq] at h1
    obtain ⟨q, ⟨⟨o, n⟩, hp, y, hy, rfl⟩, qs', hqs, rfl⟩ := h1
    simp only [evParts, bind, Option.bind_eq_some_iff, Option.some.injEq] at h2
    obtain ⟨v, hv, l', hl, rfl⟩ := h2
    simp only [fillA] at h3
    split at h3
    · cases h3
    · rename_i hc
      have hrel := ev_rel hT hy hv
      have hcr := hrel.cells_rel
      have hlen := hcr.length
      simp only [not_or, Decidable.not_not] at hc
      have hzl := h4.length
      have hsz : (a.eval x).cells.size = n := by rw [← Array.length_toList, hlen]; exact hc.1
      have hcs : cells.size = zs.length := by rw [← Array.length_toList, hzl]
      have hle : o + n ≤ cells.size := by rw [hcs]; omega
      obtain ⟨c', hc1, hc2⟩ := fill_sound hT hqs hl h3 (cells := ((a.eval x).cells.zipIdx.foldl (fun cs (c, j) => cs.setIfInBounds (o + j) c) cells)) (by
        rw [← Array.foldl_toList, Array.toList_zipIdx, fold_set o _ 0 cells (by simp; omega)]
        simp only [Nat.add_zero]
        refine AVRelL.append (AVRelL.append (h4.take o) hcr) ?_
        have := h4.drop (o + n)
        rwa [Array.length_toList, hsz])
      refine ⟨c', ?_, hc2⟩
      simp only [List.map_cons, Instr.fill, hp]
      rw [if_neg (by rw [hsz]; simp; omega)]
      exact hc1
theorem zero_sound {t : TypeId} {zs : List AV} (h : zeroCells P t = some zs) : ∃ i z, P.info? t = some i ∧ i.zero = some z ∧ AVRelL E w zs z.cells.toList := by
  simp only [zeroCells, bind, Option.bind_eq_some_iff] at h
  obtain ⟨i, hi, z, hz, v, hv, h⟩ := h
  have hr := avOf_rel (E := E) (w := w) hv
  refine ⟨i, z, hi, hz, ?_⟩
  have := hr.cells_rel
  cases v <;> simp only [Option.some.injEq] at h <;> subst h <;> exact this
theorem add_plain (b o n : Nat) : (⟨b, o, none⟩ : Addr).add n = ⟨b, o + n, none⟩ := by
  unfold Addr.add
  split
  · simp_all
  · rfl
theorem idxOk_iff {i : Int} {n : Nat} (h : idxOk i n = true) : 0 ≤ i ∧ i < n ∧ i.toNat < n := by
  unfold idxOk at h
  split at h
  · rename_i m
    have : m < n := by simpa using h
    refine ⟨by simp, ?_, ?_⟩
    · show (m : Int) < n
      omega
    · simpa using this
  · cases h
theorem iaddr_sound {t e : TypeId} {z : Nat} (hu : P.underlying t = some (.slice e)) (hz : sizeT P e = some z) {x i r : AV} {u v : Value} (hx : AVRel E w x u) (hi : AVRel E w i v) (h : iaddrA z x i = some r) :
    ∃ q, (Instr.indexAt t u v).run P w = .ok q w ∧ AVRel E w r q := by
  have hs := size_run (w := w) hz
  unfold iaddrA at h
  split at h
  · rename_i b o l c k n
    split at h
    · rename_i hn
      cases h
      obtain ⟨h1, h2, h3⟩ := idxOk_iff hn
      obtain rfl := hi.int_inv
      simp only [AVRel] at hx
      obtain ⟨L, a, c', hρ, rfl, hsl, hle⟩ := hx
      have ha : a = ⟨L.b, L.s + o, none⟩ := by
        rcases hsl with ⟨_, hcc, h0 | ha⟩ | ⟨_, _, ha | ⟨h0, _⟩⟩
        · omega
        · exact ha
        · exact ha
        · omega
      subst ha
      refine ⟨.pointer (some ((⟨L.b, L.s + o, none⟩ : Addr).add (n.toNat * z))), ?_, ?_⟩
      · simp [Instr.indexAt, asIntOf, run_underlying hu, h1, h2, hs]
      · rw [add_plain]
        simp only [AVRel]
        exact ⟨L, hρ, by simp [Nat.add_assoc]⟩
    · cases h
  · rename_i cs l f k n
    split at h
    · rename_i hn
      cases h
      obtain ⟨h1, h2, h3⟩ := idxOk_iff hn
      obtain rfl := hi.int_inv
      simp only [AVRel] at hx
      rcases hx with ⟨rfl, _⟩ | ⟨b, s, c, us, rfl, hI, hc, hr, hle, hf⟩
      · omega
      refine ⟨.pointer (some ((⟨b, s, none⟩ : Addr).add (n.toNat * z))), ?_, ?_⟩
      · simp [Instr.indexAt, asIntOf, run_underlying hu, h1, h2, hs]
      · rw [add_plain]
        simp only [AVRel]
        exact ⟨b, s, us, rfl, hI, hc, hr⟩
    · cases h
  · cases h
theorem aaddr_sound {t e : TypeId} {len z : Nat} (hu : P.underlying t = some (.array len e)) (hz : sizeT P e = some z) {x i r : AV} {u v : Value} (hx : AVRel E w x u) (hi : AVRel E w i v) (h : aaddrA len z x i = some r) :
    ∃ q, (Instr.indexAt t u v).run P w = .ok q w ∧ AVRel E w r q := by
  have hs := size_run (w := w) hz
  unfold aaddrA at h
  split at h
  · rename_i b o k n
    split at h
    · rename_i hn
      cases h
      obtain ⟨h1, h2, h3⟩ := idxOk_iff hn
      obtain rfl := hi.int_inv
      simp only [AVRel] at hx
      obtain ⟨L, hρ, rfl⟩ := hx
      refine ⟨.pointer (some ((⟨L.b, L.s + o, none⟩ : Addr).add (n.toNat * z))), ?_, ?_⟩
      · simp [Instr.indexAt, asIntOf, run_underlying hu, h1, h2, hs, Instr.sureAddr]
      · rw [add_plain]
        simp only [AVRel]
        exact ⟨L, hρ, by simp [Nat.add_assoc]⟩
    · cases h
  · rename_i cs o k n
    split at h
    · rename_i hn
      cases h
      obtain ⟨h1, h2, h3⟩ := idxOk_iff hn
      obtain rfl := hi.int_inv
      simp only [AVRel] at hx
      obtain ⟨b, s, us, rfl, hI, hc, hr⟩ := hx
      refine ⟨.pointer (some ((⟨b, s + o, none⟩ : Addr).add (n.toNat * z))), ?_, ?_⟩
      · simp [Instr.indexAt, asIntOf, run_underlying hu, h1, h2, hs, Instr.sureAddr]
      · rw [add_plain]
        simp only [AVRel]
        exact ⟨b, s, us, by simp [Nat.add_assoc], hI, hc, hr⟩
    · cases h
  · cases h
theorem bnd_sound {y y' n : Nat} {x : AV} {v : Value} {code : BoundsCode} (hx : AVRel E w x v) (h : bndA y x = some n) (hy : y ≤ y') : (Instr.sliceBound v y' code).run P w = .ok n w ∧ n ≤ y := by
  unfold bndA at h
  split at h
  · rename_i k m
    obtain rfl := hx.int_inv
    split at h
    · rename_i hm
      cases h
      have hm' : n ≤ y := by simpa using hm
      refine ⟨?_, hm'⟩
      have h1 : (0 : Int) ≤ Int.ofNat n := by simp
      have hm'' : n ≤ y' := by omega
      simp only [Instr.sliceBound, asIntOf, Sem.run_bind]
      simp [hm'']
    · cases h
  · cases h
theorem oxo_some {o : Option Operand} {y : Option XO} (h : oxo o = some y) : (o = none ∧ y = none) ∨ ∃ p q, o = some p ∧ y = some q ∧ xo p = some q := by
  cases o with
  | none => simp [oxo] at h; exact .inl ⟨rfl, h.symm⟩
  | some p =>
    simp only [oxo, Option.map_eq_some_iff] at h
    obtain ⟨q, hq, rfl⟩ := h
    exact .inr ⟨p, q, rfl, rfl, hq⟩
theorem bounds_sound {tm : Tr AV} {a : Act} (hT : TmR E w tm a.tmps) {lo hi mx : Option Operand} {lo' hi' mx' : Option XO} (h1 : oxo lo = some lo') (h2 : oxo hi = some hi') (h3 : oxo mx = some mx')
    {isS : Bool} {len cap cap' l h m : Nat} (hb : bounds (St.ev tm) len cap lo' hi' mx' = some (l, h, m)) (hcap : cap ≤ cap') :
    (Instr.sliceBounds isS len cap' (lo.map a.eval) (hi.map a.eval) (mx.map a.eval)).run P w = .ok (l, h, if mx'.isNone then cap' else m) w ∧
      l ≤ h ∧ (h ≤ m ∨ h = len) ∧ m ≤ cap ∧ (mx'.isNone = true → m = cap) ∧ (mx'.isNone = false → h ≤ m) := by
  simp only [bounds, Option.bind_eq_some_iff, Option.some.injEq, Prod.mk.injEq] at hb
  obtain ⟨m', hm, h', hh, l', hl, rfl, rfl, rfl⟩ := hb
  have em : (match mx.map a.eval with
      | some v => Instr.sliceBound v cap' (if isS then .slice3Acap else .slice3Alen)
      | none => pure cap' : Sem Nat).run P w = .ok (if mx'.isNone then cap' else m') w ∧ m' ≤ cap ∧ (mx'.isNone = true → m' = cap) := by
    rcases oxo_some h3 with ⟨rfl, rfl⟩ | ⟨p, q, rfl, rfl, hq⟩
    · simp only [obnd, Option.some.injEq] at hm
      subst hm
      exact ⟨rfl, Nat.le_refl _, fun _ => rfl⟩
    · simp only [obnd, Option.bind_eq_some_iff] at hm
      obtain ⟨x, hx, hm⟩ := hm
      have := bnd_sound (P := P) (code := if isS then .slice3Acap else .slice3Alen) (ev_rel hT hq hx) hm hcap
      exact ⟨this.1, this.2, fun e => by cases e⟩
  have hmm : m' ≤ (if mx'.isNone then cap' else m') := by
    split
    · omega
    · exact Nat.le_refl _
  generalize hgq : (if mx'.isNone then cap' else m') = m'' at *
  have eh : (match hi.map a.eval, mx.map a.eval with
      | some v, some _ => Instr.sliceBound v m'' .slice3B
      | some v, none => Instr.sliceBound v m'' (if isS then .sliceAcap else .sliceAlen)
      | none, none => pure len
      | none, some _ => stuck "Slice: max without high" : Sem Nat).run P w = .ok h' w ∧ (h' ≤ m' ∨ h' = len) ∧ (mx'.isNone = false → h' ≤ m') := by
    rcases oxo_some h2 with ⟨rfl, rfl⟩ | ⟨p, q, rfl, rfl, hq⟩
    · rcases oxo_some h3 with ⟨rfl, rfl⟩ | ⟨p', q', rfl, rfl, hq'⟩
      · simp only [hiBnd, Option.some.injEq] at hh
        subst hh
        exact ⟨rfl, .inr rfl, fun e => by cases e⟩
      · simp [hiBnd] at hh
    · have hh' : (St.ev tm q).bind (bndA m') = some h' := by
        rcases oxo_some h3 with ⟨rfl, rfl⟩ | ⟨p', q', rfl, rfl, hq'⟩ <;> exact hh
      simp only [Option.bind_eq_some_iff] at hh'
      obtain ⟨x, hx, hh'⟩ := hh'
      rcases oxo_some h3 with ⟨rfl, rfl⟩ | ⟨p', q', rfl, rfl, hq'⟩
      · have := bnd_sound (P := P) (code := if isS then .sliceAcap else .sliceAlen) (ev_rel hT hq hx) hh' hmm
        exact ⟨this.1, .inl this.2, fun _ => this.2⟩
      · have := bnd_sound (P := P) (code := .slice3B) (ev_rel hT hq hx) hh' hmm
        exact ⟨this.1, .inl this.2, fun _ => this.2⟩
  have el : (match lo.map a.eval with
      | some v => Instr.sliceBound v h' (if (mx.map a.eval).isSome then .slice3C else .sliceB)
      | none => pure 0 : Sem Nat).run P w = .ok l' w ∧ l' ≤ h' := by
    rcases oxo_some h1 with ⟨rfl, rfl⟩ | ⟨p, q, rfl, rfl, hq⟩
    · simp only [obnd, Option.some.injEq] at hl
      subst hl
      exact ⟨rfl, Nat.zero_le _⟩
    · simp only [obnd, Option.bind_eq_some_iff] at hl
      obtain ⟨x, hx, hl⟩ := hl
      exact bnd_sound (P := P) (code := if (mx.map a.eval).isSome then .slice3C else .sliceB) (ev_rel hT hq hx) hl (Nat.le_refl _)
  refine ⟨?_, el.2, eh.2.1, em.2.1, em.2.2, eh.2.2⟩
  have em1 := em.1
  have eh1 := eh.1
  have el1 := el.1
  clear em eh el hm hh hl h1 h2 h3 hgq hmm
  cases lo <;> cases hi <;> cases mx <;> simp only [Option.map_none, Option.map_some, Option.isSome_none, Option.isSome_some, if_true, Bool.false_eq_true, if_false] at em1 eh1 el1 <;>
    simp_all [Instr.sliceBounds]
theorem cut_sound {tm : Tr AV} {a : Act} (hT : TmR E w tm a.tmps) {lo hi mx : Option Operand} {lo' hi' mx' : Option XO} (h1 : oxo lo = some lo') (h2 : oxo hi = some hi') (h3 : oxo mx = some mx')
    {t e : TypeId} {z : Nat} (hu : P.underlying t = some (.slice e)) (hz : sizeT P e = some z) {x r : AV} {u : Value} (hx : AVRel E w x u) (h : cutA (St.ev tm) z x lo' hi' mx' = some r) :
    ∃ q, (Instr.sliceAt t u (lo.map a.eval) (hi.map a.eval) (mx.map a.eval)).run P w = .ok q w ∧ AVRel E w r q := by
  have hs := size_run (w := w) hz
  unfold cutA at h
  split at h
  · simp only [Option.bind_eq_some_iff, Option.some.injEq] at h
    obtain ⟨⟨l, b, m⟩, hb, rfl⟩ := h
    obtain ⟨b1, b2, b3, b4, b5, b6⟩ := bounds_sound (P := P) hT h1 h2 h3 (isS := true) hb (Nat.le_refl _)
    simp only [AVRel] at hx
    subst hx
    have hm0 : m = 0 := by omega
    have hb0 : b = 0 := by omega
    have hl0 : l = 0 := by omega
    subst hm0; subst hb0; subst hl0
    refine ⟨.slice none 0 0, ?_, by simp [AVRel]⟩
    simp [Instr.sliceAt, Instr.slice, run_underlying hu, b1, hs]
  · rename_i i o l c
    simp only [AVRel] at hx
    obtain ⟨L, ad, c', hρ, rfl, hsl, hle⟩ := hx
    split at h
    · rename_i hc
      split at h
      · rename_i hlc
        simp only [Option.bind_eq_some_iff, Option.some.injEq] at h
        obtain ⟨⟨p, b, m⟩, hb, rfl⟩ := h
        obtain ⟨b1, b2, b3, b4, b5, b6⟩ := bounds_sound (P := P) hT h1 h2 h3 (isS := true) hb (Nat.le_refl _)
        have hmq : (if mx'.isNone then c else m) = m := by
          split
          · rename_i q; rw [b5 q]
          · rfl
        rw [hmq] at b1
        have hbm : b ≤ m := by
          cases hq : mx'.isNone with
          | true => have := b5 hq; omega
          | false => exact b6 hq
        obtain ⟨rfl, hadr⟩ : c' = c ∧ (c = 0 ∨ ad = ⟨L.b, L.s + o, none⟩) := by
          rcases hsl with ⟨_, q1, q2⟩ | ⟨q, _⟩
          · exact ⟨q1, q2⟩
          · omega
        refine ⟨.slice (if m = p then some ad else (some ad).map (·.add (p * z))) (b - p) (m - p), ?_, ?_⟩
        · simp [Instr.sliceAt, Instr.slice, run_underlying hu, b1, hs]
        · simp only [AVRel]
          refine ⟨L, (if m = p then ad else ad.add (p * z)), m - p, hρ, by split <;> rfl, .inl ⟨by omega, rfl, ?_⟩, by omega⟩
          rcases hadr with h0 | rfl
          · exact .inl (by omega)
          · by_cases e : m = p
            · exact .inl (by omega)
            · rw [if_neg e, if_neg e, add_plain]
              exact .inr (by simp [Nat.add_assoc])
      · cases h
    · rename_i hc
      simp only [Option.bind_eq_some_iff] at h
      obtain ⟨⟨p, b, m⟩, hb, h⟩ := h
      obtain ⟨b1, b2, b3, b4, b5, b6⟩ := bounds_sound (P := P) hT h1 h2 h3 (isS := true) hb hle
      have hbl : b ≤ l := by omega
      cases mx' with
      | none =>
        simp only at h
        split at h
        · rename_i hop
          cases h
          simp only [Option.isNone_none, if_true] at b1
          refine ⟨.slice (if c' = p then some ad else (some ad).map (·.add (p * z))) (b - p) (c' - p), ?_, ?_⟩
          · simp [Instr.sliceAt, Instr.slice, run_underlying hu, b1, hs]
          · simp only [AVRel]
            refine ⟨L, (if c' = p then ad else ad.add (p * z)), c' - p, hρ, by split <;> rfl, .inr ⟨hop, ?_⟩, by omega⟩
            have hoa : 0 < openAt := by unfold openAt; decide
            rcases hsl with ⟨q, _⟩ | ⟨_, ⟨k, k1, k2⟩, hadr⟩
            · omega
            · refine ⟨⟨k + p, by omega, by omega⟩, ?_⟩
              by_cases e : c' = p
              · exact .inr ⟨by omega, by omega⟩
              · rcases hadr with rfl | ⟨q1, q2⟩
                · rw [if_neg e, add_plain]
                  exact .inl (by simp [Nat.add_assoc])
                · omega
        · cases h
      | some q0 =>
        simp only at h
        split at h
        · rename_i hop
          cases h
          simp only [Option.isNone_some, Bool.false_eq_true, if_false] at b1 b6
          have hbm := b6 trivial
          refine ⟨.slice (if m = p then some ad else (some ad).map (·.add (p * z))) (b - p) (m - p), ?_, ?_⟩
          · simp [Instr.sliceAt, Instr.slice, run_underlying hu, b1, hs]
          · simp only [AVRel]
            refine ⟨L, (if m = p then ad else ad.add (p * z)), m - p, hρ, by split <;> rfl, .inl ⟨by omega, rfl, ?_⟩, by omega⟩
            by_cases e : m = p
            · exact .inl (by omega)
            · rcases hsl with ⟨q, _⟩ | ⟨_, _, rfl | ⟨q1, q2⟩⟩
              · omega
              · rw [if_neg e, if_neg e, add_plain]
                exact .inr (by simp [Nat.add_assoc])
              · omega
        · cases h
  · rename_i cs l full
    simp only [AVRel] at hx
    rcases hx with ⟨rfl, rfl, a, c, rfl, hf⟩ | ⟨bk, s, c, us, rfl, hI, hcell, hrel, hle, hf⟩
    · simp only [Option.bind_eq_some_iff] at h
      obtain ⟨⟨p, b, m⟩, hb, h⟩ := h
      obtain ⟨b1, b2, b3, b4, b5, b6⟩ := bounds_sound (P := P) hT h1 h2 h3 (isS := true) hb (Nat.zero_le c)
      have hb0 : b = 0 := by omega
      have hp0 : p = 0 := by omega
      subst hb0
      subst hp0
      cases mx' with
      | none =>
        simp only [Option.isNone_none, if_true] at b1
        refine ⟨.slice (if c = 0 then a else a.map (·.add (0 * z))) (0 - 0) (c - 0), ?_, ?_⟩
        · simp [Instr.sliceAt, Instr.slice, run_underlying hu, b1, hs]
        · simp only at h
          split at h <;> cases h <;> simp only [AVRel] <;> exact .inl ⟨by simp, by simp, _, c, rfl, fun q => hf (by simpa using q)⟩
      | some q0 =>
        simp only [Option.isNone_some, Bool.false_eq_true, if_false] at b1 b6
        refine ⟨.slice (if m = 0 then a else a.map (·.add (0 * z))) (0 - 0) (m - 0), ?_, ?_⟩
        · simp [Instr.sliceAt, Instr.slice, run_underlying hu, b1, hs]
        · simp only at h
          split at h <;> cases h <;> simp only [AVRel] <;> exact .inl ⟨by simp, by simp, _, m, rfl, fun q => by first | omega | simpa using q⟩
    simp only [Option.bind_eq_some_iff] at h
    obtain ⟨⟨p, b, m⟩, hb, h⟩ := h
    obtain ⟨b1, b2, b3, b4, b5, b6⟩ := bounds_sound (P := P) hT h1 h2 h3 (isS := true) hb hle
    have hbl : b ≤ l := by omega
    have hdrop : ∀ k, (∀ (j : Nat) (u : Value), (us.drop k)[j]? = some u → w.cell? ⟨bk, s + k + j, none⟩ = some u) := fun k j u hj => by
      rw [List.getElem?_drop] at hj
      have := hcell (k + j) u hj
      rwa [← Nat.add_assoc] at this
    cases mx' with
    | none =>
      simp only [Option.isNone_none, if_true] at b1
      refine ⟨.slice (if c = p then some ⟨bk, s, none⟩ else (some ⟨bk, s, none⟩ : Option Addr).map (·.add (p * z))) (b - p) (c - p), ?_, ?_⟩
      · simp [Instr.sliceAt, Instr.slice, run_underlying hu, b1, hs]
      · simp only at h
        split at h
        · rename_i e
          cases h
          simp only [AVRel]
          refine .inr ⟨bk, (if c = p then s else s + p * z), c - p, [], ?_, hI, by simp, by simp [AVRelL], by omega, fun q => by have := hf q; omega⟩
          have : b - p = 0 := by omega
          rw [this]
          split
          · rfl
          · simp [add_plain]
        · rename_i e
          cases h
          simp only [AVRel]
          refine .inr ⟨bk, s + p * z, c - p, us.drop (p * z), ?_, hI, hdrop _, hrel.drop _, by omega, fun q => by simp at q; have := hf q.1; omega⟩
          rw [if_neg (by omega)]
          simp [add_plain]
    | some q0 =>
      simp only [Option.isNone_some, Bool.false_eq_true, if_false] at b1 b6
      have hbm := b6 trivial
      refine ⟨.slice (if m = p then some ⟨bk, s, none⟩ else (some ⟨bk, s, none⟩ : Option Addr).map (·.add (p * z))) (b - p) (m - p), ?_, ?_⟩
      · simp [Instr.sliceAt, Instr.slice, run_underlying hu, b1, hs]
      · simp only at h
        split at h
        · rename_i e
          cases h
          simp only [AVRel]
          refine .inr ⟨bk, s, m - p, [], ?_, hI, by simp, by simp [AVRelL], by omega, fun q => by omega⟩
          have : b - p = 0 := by omega
          rw [this, if_pos e]
        · rename_i e
          cases h
          simp only [AVRel]
          refine .inr ⟨bk, s + p * z, m - p, us.drop (p * z), ?_, hI, hdrop _, hrel.drop _, by omega, fun q => by simp at q; omega⟩
          rw [if_neg e]
          simp [add_plain]
  · cases h
theorem acut_sound {tm : Tr AV} {a : Act} (hT : TmR E w tm a.tmps) {lo hi mx : Option Operand} {lo' hi' mx' : Option XO} (h1 : oxo lo = some lo') (h2 : oxo hi = some hi') (h3 : oxo mx = some mx')
    {t e : TypeId} {n z : Nat} (hu : P.underlying t = some (.array n e)) (hz : sizeT P e = some z) {x r : AV} {u : Value} (hx : AVRel E w x u) (h : acutA (St.ev tm) n z x lo' hi' mx' = some r) :
    ∃ q, (Instr.sliceAt t u (lo.map a.eval) (hi.map a.eval) (mx.map a.eval)).run P w = .ok q w ∧ AVRel E w r q := by
  have hs := size_run (w := w) hz
  unfold acutA at h
  split at h
  · rename_i i o
    split at h
    · cases h
    · rename_i hn
      simp only [Option.bind_eq_some_iff, Option.some.injEq] at h
      obtain ⟨⟨p, b, m⟩, hb, rfl⟩ := h
      obtain ⟨b1, b2, b3, b4, b5, b6⟩ := bounds_sound (P := P) hT h1 h2 h3 (isS := false) hb (Nat.le_refl _)
      have hmq : (if mx'.isNone then n else m) = m := by
        split
        · rename_i q; rw [b5 q]
        · rfl
      rw [hmq] at b1
      have hbm : b ≤ m := by
        cases hq : mx'.isNone with
        | true => have := b5 hq; omega
        | false => exact b6 hq
      simp only [AVRel] at hx
      obtain ⟨L, hρ, rfl⟩ := hx
      refine ⟨.slice (some (if m = p then ⟨L.b, L.s + o, none⟩ else (⟨L.b, L.s + o, none⟩ : Addr).add (p * z))) (b - p) (m - p), ?_, ?_⟩
      · simp [Instr.sliceAt, run_underlying hu, b1, hs, Instr.sureAddr]
      · simp only [AVRel]
        refine ⟨L, (if m = p then ⟨L.b, L.s + o, none⟩ else (⟨L.b, L.s + o, none⟩ : Addr).add (p * z)), m - p, hρ, rfl, .inl ⟨by omega, rfl, ?_⟩, by omega⟩
        by_cases e : m = p
        · exact .inl (by omega)
        · rw [if_neg e, if_neg e, add_plain]
          exact .inr (by simp [Nat.add_assoc])
  · cases h
theorem scut_sound {tm : Tr AV} {a : Act} (hT : TmR E w tm a.tmps) {lo hi : Option Operand} {lo' hi' : Option XO} (h1 : oxo lo = some lo') (h2 : oxo hi = some hi')
    {t : TypeId} (hu : P.underlying t = some .string) {x r : AV} {u : Value} (hx : AVRel E w x u) (h : scutA (St.ev tm) x lo' hi' = some r) :
    ∃ q, (Instr.sliceAt t u (lo.map a.eval) (hi.map a.eval) none).run P w = .ok q w ∧ AVRel E w r q := by
  unfold scutA at h
  split at h
  · rename_i s
    simp only [Option.bind_eq_some_iff, Option.some.injEq] at h
    obtain ⟨⟨p, b, m⟩, hb, rfl⟩ := h
    obtain ⟨b1, b2, b3, b4, b5, b6⟩ := bounds_sound (P := P) (mx := none) hT h1 h2 rfl (isS := false) hb (Nat.le_refl _)
    obtain rfl := hx.str_inv
    have hsz : (ByteArray.mk s.toArray).size = s.length := by simp [ByteArray.size]
    refine ⟨.string ((ByteArray.mk s.toArray).extract p b), ?_, ?_⟩
    · simp only [Option.map_none] at b1
      simp [Instr.sliceAt, Instr.slice, run_underlying hu, hsz, b1]
    · simp only [AVRel]
      refine ⟨_, rfl, ?_⟩
      rw [ByteArray.data_extract]
      simp [List.extract_eq_take_drop]
  · cases h
end
end Go.Eng
end
section
namespace Go.Eng
section
variable {E : Env} {w : World} {P : Program}
theorem cellsAt_sound {H : AHeap} (hR : Rel E H w) {x : AV} {c : List AV} {u : Value} (h : cellsAt H x = some c) (hx : AVRel E w x u) :
    ∃ b o us, u = .pointer (some ⟨b, o, none⟩) ∧ AVRelL E w c us ∧ ∀ (j : Nat) (v : Value), us[j]? = some v → w.cell? ⟨b, o + j, none⟩ = some v := by
  unfold cellsAt at h
  split at h
  · rename_i i o
    split at h
    · rename_i cs opn hg
      cases h
      obtain ⟨L, hρ, hO, _⟩ := hR.obj _ _ hg
      simp only [AVRel] at hx
      obtain ⟨L', hρ', rfl⟩ := hx
      rw [hρ] at hρ'
      cases hρ'
      obtain ⟨C, t, fz, us, hb, hr, hc, _⟩ := hO
      refine ⟨L.b, L.s + o, us.drop o, rfl, hr.drop o, ?_⟩
      intro j v hj
      rw [List.getElem?_drop] at hj
      simp only [World.cell?, hb, Option.isSome_none, Bool.false_eq_true, if_false]
      rw [Nat.add_assoc]
      exact hc _ _ hj
    · cases h
  · rename_i cs o
    cases h
    simp only [AVRel] at hx
    obtain ⟨b, s, us, rfl, hI, hc, hr⟩ := hx
    refine ⟨b, s + o, us.drop o, rfl, hr.drop o, ?_⟩
    intro j v hj
    rw [List.getElem?_drop] at hj
    rw [Nat.add_assoc]
    exact hc _ _ hj
  · cases h
theorem load_sound {H : AHeap} (hR : Rel E H w) {t : TypeId} {s : Option Nat} (hs : shapeOf P t = some s) {x r : AV} {u : Value} (hx : AVRel E w x u) (h : loadA H s x = some r) :
    ∃ q, (Instr.loadAt t u).run P w = .ok q w ∧ AVRel E w r q := by
  obtain ⟨a, ha, hz, rfl⟩ := shape_inv (w := w) hs
  have hag := isAggT_run (w := w) ha
  unfold loadA at h
  split at h
  · cases h
  · rename_i c hc
    obtain ⟨b, o, us, rfl, hr, hcell⟩ := cellsAt_sound hR hc hx
    cases a with
    | false =>
      simp only [Bool.false_eq_true, if_false] at h
      obtain ⟨v, h1, h2⟩ := hr.get h
      refine ⟨v, ?_, h2⟩
      have := hcell 0 v h1
      simp only [Nat.add_zero] at this
      simp [Instr.loadAt, Instr.sureAddr, loadVar, hag, this]
    | true =>
      simp only [if_true] at h
      split at h
      · rename_i hle
        cases h
        have hl := hr.length
        have hrun := run_loadCells_list (P := P) w ⟨b, o, none⟩ (us.take (P.cellsOf t)) (fun j v hj => by
          rw [add_plain]
          refine hcell j v ?_
          rw [List.getElem?_take] at hj
          split at hj
          · exact hj
          · cases hj)
        rw [List.length_take, Nat.min_eq_left (by omega)] at hrun
        refine ⟨.agg (us.take (P.cellsOf t)).toArray, ?_, ?_⟩
        · simp [Instr.loadAt, Instr.sureAddr, loadVar, hag, hz, hrun]
        · simp only [AVRel]
          exact ⟨_, rfl, by simpa using hr.take _⟩
      · cases h
set_option maxHeartbeats 2000000 in
theorem eqnIn_sound (dd : Nat) {k : NK} {t : TypeId} {d : TypeDesc} (hu : P.underlying t = some d)
    (hk : match k with | .p => ∃ e, d = .pointer e ∧ (sizeT P e).getD 0 ≠ 0 | .s => ∃ e, d = .slice e | .m => ∃ a b, d = .map a b | .f => ∃ a b c, d = .func a b c | .i => ∃ ms, d = .interface ms)
    {x y : AV} {r : Bool} {u v : Value} (hx : AVRel E w x u) (hy : AVRel E w y v) (h : eqnA k x y = some r) : (Op.equalIn (dd + 1) t u v).run P w = .ok r w := by
  cases k <;> simp only at hk
  case p =>
    obtain ⟨e, rfl, hz⟩ := hk
    cases x <;> cases y <;> simp only [eqnA, Option.some.injEq, reduceCtorEq] at h <;> simp only [AVRel] at hx hy
    case nilp.nilp => subst hx; subst hy; subst h; simp [Op.equalIn, run_underlying hu]
    case nilp.ptr => obtain ⟨L, _, rfl⟩ := hy; subst hx; subst h; simp [Op.equalIn, run_underlying hu]
    case nilp.iptr => obtain ⟨_, _, _, rfl, _⟩ := hy; subst hx; subst h; simp [Op.equalIn, run_underlying hu]
    case ptr.nilp => obtain ⟨L, _, rfl⟩ := hx; subst hy; subst h; simp [Op.equalIn, run_underlying hu]
    case iptr.nilp => obtain ⟨_, _, _, rfl, _⟩ := hx; subst hy; subst h; simp [Op.equalIn, run_underlying hu]
    case ptr.ptr i o j p =>
      split at h
      · rename_i e
        subst e
        cases h
        obtain ⟨L, h1, rfl⟩ := hx
        obtain ⟨L', h2, rfl⟩ := hy
        rw [h1] at h2
        cases h2
        cases hq : P.info? e with
        | none => simp [sizeT, hq] at hz
        | some i' =>
          have hz' : i'.size ≠ 0 := by simpa [sizeT, hq] using hz
          have : (sameAddr (⟨L.b, L.s + o, none⟩ : Addr) ⟨L.b, L.s + p, none⟩).run P w = .ok (o == p) w := by
            simp only [sameAddr, beq_self_eq_true, if_true]
            have : ((⟨L.b, L.s + o, none⟩ : Addr) == ⟨L.b, L.s + p, none⟩) = (o == p) := by
              rw [Bool.eq_iff_iff]
              simp
            rw [this]
            rfl
          simp [Op.equalIn, run_underlying hu, sizeOf, typeInfo, hq, hz', this]
      · cases h
  case s =>
    obtain ⟨e, rfl⟩ := hk
    cases x <;> cases y <;> simp only [eqnA, Option.some.injEq, reduceCtorEq] at h <;> simp only [AVRel] at hx hy
    case nils.nils => subst hx; subst hy; subst h; simp [Op.equalIn, run_underlying hu]
    case nils.sl => obtain ⟨_, _, _, _, rfl, _⟩ := hy; subst hx; subst h; simp [Op.equalIn, run_underlying hu]
    case nils.imm cs _ _ =>
      cases cs with
      | nil => cases h
      | cons c0 cs0 =>
        rcases hy with ⟨_, q, _⟩ | ⟨_, _, _, _, rfl, _⟩
        · cases q
        · simp only [Option.some.injEq] at h
          subst hx; subst h; simp [Op.equalIn, run_underlying hu]
    case sl.nils => obtain ⟨_, _, _, _, rfl, _⟩ := hx; subst hy; subst h; simp [Op.equalIn, run_underlying hu]
    case imm.nils cs _ _ =>
      cases cs with
      | nil => cases h
      | cons c0 cs0 =>
        rcases hx with ⟨_, q, _⟩ | ⟨_, _, _, _, rfl, _⟩
        · cases q
        · simp only [Option.some.injEq] at h
          subst hy; subst h; simp [Op.equalIn, run_underlying hu]
  case m =>
    obtain ⟨a, b, rfl⟩ := hk
    cases x <;> cases y <;> simp only [eqnA, Option.some.injEq, reduceCtorEq] at h <;> simp only [AVRel] at hx hy
    case nilm.nilm => subst hx; subst hy; subst h; simp [Op.equalIn, run_underlying hu]
    case nilm.map => obtain ⟨L, _, rfl⟩ := hy; subst hx; subst h; simp [Op.equalIn, run_underlying hu]
    case map.nilm => obtain ⟨L, _, rfl⟩ := hx; subst hy; subst h; simp [Op.equalIn, run_underlying hu]
  case f =>
    obtain ⟨a, b, c, rfl⟩ := hk
    cases x <;> cases y <;> simp only [eqnA, Option.some.injEq, reduceCtorEq] at h <;> simp only [AVRel] at hx hy
    case nilf.nilf => subst hx; subst hy; subst h; simp [Op.equalIn, run_underlying hu]
    case nilf.fn => obtain ⟨_, rfl, _⟩ := hy; subst hx; subst h; simp [Op.equalIn, run_underlying hu]
    case fn.nilf => obtain ⟨_, rfl, _⟩ := hx; subst hy; subst h; simp [Op.equalIn, run_underlying hu]
  case i =>
    obtain ⟨ms, rfl⟩ := hk
    cases x <;> cases y <;> simp only [eqnA, Option.some.injEq, reduceCtorEq] at h <;> simp only [AVRel] at hx hy
    case nili.nili => subst hx; subst hy; subst h; simp [Op.equalIn, run_underlying hu]
    case nili.ifc => obtain ⟨_, rfl, _⟩ := hy; subst hx; subst h; simp [Op.equalIn, run_underlying hu]
    case ifc.nili => obtain ⟨_, rfl, _⟩ := hx; subst hy; subst h; simp [Op.equalIn, run_underlying hu]
theorem eqn_sound {k : NK} {t : TypeId} {d : TypeDesc} (hu : P.underlying t = some d)
    (hk : match k with | .p => ∃ e, d = .pointer e ∧ (sizeT P e).getD 0 ≠ 0 | .s => ∃ e, d = .slice e | .m => ∃ a b, d = .map a b | .f => ∃ a b c, d = .func a b c | .i => ∃ ms, d = .interface ms)
    {x y : AV} {r : Bool} {u v : Value} (hx : AVRel E w x u) (hy : AVRel E w y v) (h : eqnA k x y = some r) : (Op.equal t u v).run P w = .ok r w :=
  eqnIn_sound 9999 hu hk hx hy h
theorem getMap_run {r : Nat} {es : Array MapEntry} {clock : Nat} (hb : w.heap[r]? = some (.map es clock)) : (getObj r).run P w = .ok (.map es clock) w := by
  simp [getObj, Sem.run, hb]
theorem sameNow_sound {t : TypeId} {K : KT} {d : TypeDesc} (hK : keyKinds P t = some K) (hu : P.underlying t = some d) (hna : K.agg = false) {x y : AV} {u v : Value} {l m : List Lit}
    (hx : keyA K x = some l) (hy : keyA K y = some m) (hu1 : AVRel E w x u) (hv : AVRel E w y v) : Instr.sameNow d u v = some (litsEq l m) := by
  have hx0 := hx
  simp only [keyKinds, bind, Option.bind_eq_some_iff] at hK
  obtain ⟨a, ha, ks, hks, hK⟩ := hK
  split at hK
  · cases hK
    simp only at hna
    subst hna
    have one : ∀ {z : AV} {q : List Lit}, keyA ⟨false, ks⟩ z = some q → litsA ks [z] = some q := by
      intro z q hz
      unfold keyA at hz
      split at hz
      · simp at hz
      · simpa using hz
    have h1 := one hx
    have h2 := one hy
    have hk : ∃ k, ks = [k] := by
      have := (litsA_length h1).1
      match ks, this with
      | [k], _ => exact ⟨k, rfl⟩
    obtain ⟨k, rfl⟩ := hk
    obtain ⟨_, p, e1, hp, rfl⟩ := litsA_one h1
    obtain ⟨_, q, e2, hq, rfl⟩ := litsA_one h2
    cases e1; cases e2
    unfold kindsOf at hks
    rw [hu] at hks
    rcases litA_sound hp hu1 with ⟨rfl, b, rfl, rfl⟩ | ⟨q', n, rfl, rfl, _, rfl⟩ | ⟨rfl, s, rfl, _, rfl⟩
    · rcases litA_sound hq hv with ⟨_, b', rfl, rfl⟩ | ⟨_, _, hk', _⟩ | ⟨hk', _⟩
      · cases d <;> simp only [Option.some.injEq, List.cons.injEq, reduceCtorEq, and_true, and_false, false_and] at hks
        · simp [Instr.sameNow, litsEq, litEq]
        · simp [isAggT, hu] at ha
        · simp [isAggT, hu] at ha
      · cases hk'
      · cases hk'
    · rcases litA_sound hq hv with ⟨hk', _⟩ | ⟨q'', n', hk', rfl, _, rfl⟩ | ⟨hk', _⟩
      · cases hk'
      · cases hk'
        cases d <;> simp only [Option.some.injEq, List.cons.injEq, reduceCtorEq, and_true, and_false, false_and] at hks
        · simp [Instr.sameNow, litsEq, litEq]
        · simp [isAggT, hu] at ha
        · simp [isAggT, hu] at ha
      · cases hk'
    · rcases litA_sound hq hv with ⟨hk', _⟩ | ⟨_, _, hk', _⟩ | ⟨_, s', rfl, _, rfl⟩
      · cases hk'
      · cases hk'
      · cases d <;> simp only [Option.some.injEq, List.cons.injEq, reduceCtorEq, and_true, and_false, false_and] at hks
        · simp only [Instr.sameNow, litsEq, litEq, Bool.and_true, beq_toListBytes, ByteArray.toList_eq]
        · simp [isAggT, hu] at ha
        · simp [isAggT, hu] at ha
  · cases hK
end
end Go.Eng
end
section
namespace Go.Eng
section
variable {E : Env} {w : World} {P : Program}
def FoundR (E : Env) (w : World) : Option (Nat × AV) → Option (Nat × Value) → Prop
  | none, r => r = none
  | some (i, v), r => ∃ u, r = some (i, u) ∧ AVRel E w v u
theorem findNow_sound {t : TypeId} {K : KT} {d : TypeDesc} (hK : keyKinds P t = some K) (hu : P.underlying t = some d) (hna : K.agg = false) {x : AV} {u : Value} {l : List Lit}
    (hx : keyA K x = some l) (hxu : AVRel E w x u) : ∀ {es : List (AV × AV)} {rows : List MapEntry} {i : Nat} {r : Option (Nat × AV)}, EntR E w es rows → findE K l es i = some r →
    ∃ r', Instr.findNow d u rows i = some r' ∧ FoundR E w r r'
  | [], rows, i, r, hE, h => by
    simp only [EntR] at hE
    subst hE
    simp only [findE, Option.some.injEq] at h
    subst h
    exact ⟨none, rfl, rfl⟩
  | (k, v) :: es, rows, i, r, hE, h => by
    simp only [EntR] at hE
    obtain ⟨e, rows', rfl, hk, hv, hE'⟩ := hE
    simp only [findE] at h
    split at h
    · rename_i m r1 hm hr1
      have hs := sameNow_sound hK hu hna hx hm hxu hk
      split at h
      · rename_i hq
        cases h
        refine ⟨some (i, e.val), ?_, e.val, rfl, hv⟩
        simp only [Instr.findNow, hs, hq]
      · rename_i hq
        cases h
        have hq' : litsEq l m = false := by simpa using hq
        obtain ⟨r', h1, h2⟩ := findNow_sound hK hu hna hx hxu hE' hr1
        exact ⟨r', by simp only [Instr.findNow, hs, hq']; exact h1, h2⟩
    · cases h
theorem findAsking_sound {t : TypeId} {K : KT} (hK : keyKinds P t = some K) {x : AV} {u : Value} {l : List Lit}
    (hx : keyA K x = some l) (hxu : AVRel E w x u) : ∀ {es : List (AV × AV)} {rows : List MapEntry} {i : Nat} {r : Option (Nat × AV)}, EntR E w es rows → findE K l es i = some r →
    ∃ r', (Instr.findAsking t u rows i).run P w = .ok r' w ∧ FoundR E w r r'
  | [], rows, i, r, hE, h => by
    simp only [EntR] at hE
    subst hE
    simp only [findE, Option.some.injEq] at h
    subst h
    exact ⟨none, rfl, rfl⟩
  | (k, v) :: es, rows, i, r, hE, h => by
    simp only [EntR] at hE
    obtain ⟨e, rows', rfl, hk, hv, hE'⟩ := hE
    simp only [findE] at h
    split at h
    · rename_i m r1 hm hr1
      have hs := equal_sound hK hx hm hxu hk
      split at h
      · rename_i hq
        cases h
        refine ⟨some (i, e.val), ?_, e.val, rfl, hv⟩
        simp [Instr.findAsking, hs, hq]
      · rename_i hq
        cases h
        have hq' : litsEq l m = false := by simpa using hq
        obtain ⟨r', h1, h2⟩ := findAsking_sound hK hx hxu hE' hr1
        refine ⟨r', ?_, h2⟩
        simp [Instr.findAsking, hs, hq', h1]
    · cases h
theorem find_sound {t : TypeId} {K : KT} (hK : keyKinds P t = some K) {x : AV} {u : Value} {l : List Lit}
    (hx : keyA K x = some l) (hxu : AVRel E w x u) {es : List (AV × AV)} {rows : List MapEntry} {r : Option (Nat × AV)} (hE : EntR E w es rows) (h : findE K l es 0 = some r) :
    ∃ r', (Instr.findKey t u rows).run P w = .ok r' w ∧ FoundR E w r r' := by
  have hK0 := hK
  simp only [keyKinds, bind, Option.bind_eq_some_iff] at hK0
  obtain ⟨a, ha, ks, hks, hK0⟩ := hK0
  split at hK0
  · rename_i hc
    cases hK0
    cases hu : P.underlying t with
    | none => simp [isAggT, hu] at ha
    | some d =>
      cases a with
      | false =>
        obtain ⟨r', h1, h2⟩ := findNow_sound hK hu rfl hx hxu hE h
        exact ⟨r', by simp [Instr.findKey, run_underlying hu, h1], h2⟩
      | true =>
        obtain ⟨r', h1, h2⟩ := findAsking_sound hK hx hxu (i := 0) hE h
        refine ⟨r', ?_, h2⟩
        cases rows with
        | nil => simpa [Instr.findKey, run_underlying hu, Instr.findNow, Instr.findAsking] using h1
        | cons e rows =>
          have hn : Instr.findNow d u (e :: rows) 0 = none := by
            cases d <;> simp [isAggT, hu] at ha <;> simp [Instr.findNow, Instr.sameNow]
          simp [Instr.findKey, run_underlying hu, hn, h1]
  · cases hK0
theorem check_sound {t : TypeId} {K : KT} (hK : keyKinds P t = some K) {x : AV} {u : Value} {l : List Lit} (hx : keyA K x = some l) (hxu : AVRel E w x u) (em : Bool) :
    (Instr.checkKey em 10000 t u).run P w = .ok () w := by
  obtain ⟨f1, k1, ht⟩ := keyA_sound hK hx hxu
  exact run_checkKey_deep (P := P) em 9991 9 t ht w 9 u l f1 k1
theorem EntR.length : ∀ {es : List (AV × AV)} {rows : List MapEntry}, EntR E w es rows → rows.length = es.length
  | [], rows, h => by simp only [EntR] at h; subst h; rfl
  | (_, _) :: _, rows, h => by
    simp only [EntR] at h
    obtain ⟨e, rows', rfl, _, _, h4⟩ := h
    simp [EntR.length h4]
theorem litA_cases {k : KK} {x : AV} {l : Lit} (h : litA k x = some l) :
    (∃ b, x = .bool b ∧ l = .bool b ∧ k = .b) ∨ (∃ q n, x = .int q n ∧ l = .int q n ∧ k = .i q) ∨ (∃ s, x = .str s ∧ l = .string s ∧ k = .s) := by
  unfold litA at h
  split at h
  · cases h; exact .inl ⟨_, rfl, rfl, rfl⟩
  · split at h
    · rename_i hq
      cases h
      obtain ⟨rfl, _⟩ := hq
      exact .inr (.inl ⟨_, _, rfl, rfl, rfl⟩)
    · cases h
  · split at h
    · cases h; exact .inr (.inr ⟨_, rfl, rfl, rfl⟩)
    · cases h
  · cases h
theorem litA_inj {k : KK} {x y : AV} {l : Lit} (h : litA k x = some l) (h' : litA k y = some l) : x = y := by
  rcases litA_cases h with ⟨b, rfl, rfl, rfl⟩ | ⟨q, n, rfl, rfl, rfl⟩ | ⟨s, rfl, rfl, rfl⟩ <;>
    rcases litA_cases h' with ⟨b', rfl, e, _⟩ | ⟨q', n', rfl, e, _⟩ | ⟨s', rfl, e, _⟩ <;> cases e <;> rfl
theorem litsA_inj : ∀ {ks : List KK} {xs ys : List AV} {l : List Lit}, litsA ks xs = some l → litsA ks ys = some l → xs = ys
  | [], [], [], _, _, _ => rfl
  | [], _ :: _, _, _, h, _ => by simp [litsA] at h
  | [], _, _ :: _, _, _, h => by simp [litsA] at h
  | _ :: _, [], _, _, h, _ => by simp [litsA] at h
  | _ :: _, _, [], _, _, h => by simp [litsA] at h
  | k :: ks, x :: xs, y :: ys, l, h, h' => by
    simp only [litsA, bind, Option.bind_eq_some_iff, Option.some.injEq] at h h'
    obtain ⟨a, ha, m, hm, rfl⟩ := h
    obtain ⟨a', ha', m', hm', e⟩ := h'
    simp only [List.cons.injEq] at e
    obtain ⟨rfl, rfl⟩ := e
    rw [litA_inj ha ha', litsA_inj hm hm']
theorem keyA_inj {K : KT} {x y : AV} {l : List Lit} (h : keyA K x = some l) (h' : keyA K y = some l) : x = y := by
  unfold keyA at h h'
  split at h
  · split at h
    · rename_i hag
      split at h'
      · rw [if_pos hag] at h'
        rw [litsA_inj h h']
      · rw [if_pos hag] at h'
        cases h'
    · cases h
  · split at h
    · cases h
    · rename_i hag
      split at h'
      · rw [if_neg hag] at h'
        cases h'
      · rw [if_neg hag] at h'
        have := litsA_inj h h'
        simpa using this
theorem findE_get {K : KT} {l : List Lit} : ∀ {es : List (AV × AV)} {i j : Nat} {v : AV}, findE K l es i = some (some (j, v)) → ∃ k m, i ≤ j ∧ es[j - i]? = some (k, v) ∧ keyA K k = some m ∧ litsEq l m = true
  | [], _, _, _, h => by simp [findE] at h
  | (k, v') :: es, i, j, v, h => by
    simp only [findE] at h
    split at h
    · rename_i m r1 hm hr1
      split at h
      · rename_i hq
        cases h
        exact ⟨k, m, Nat.le_refl _, by simp, hm, hq⟩
      · cases h
        obtain ⟨k', m', h1, h2, h3, h4⟩ := findE_get hr1
        exact ⟨k', m', by omega, by rw [show j - i = (j - (i + 1)) + 1 by omega, List.getElem?_cons_succ]; exact h2, h3, h4⟩
    · cases h
theorem findE_good {K : KT} {l : List Lit} : ∀ {es : List (AV × AV)} {i : Nat} {r : Option (Nat × AV)}, findE K l es i = some r → ∀ p ∈ es, ∃ m, keyA K p.1 = some m ∧ (r = none → litsEq l m = false)
  | [], _, _, _, p, hp => by simp at hp
  | (k, v') :: es, i, r, h, p, hp => by
    simp only [findE] at h
    split at h
    · rename_i m r1 hm hr1
      rcases List.mem_cons.1 hp with rfl | hp
      · refine ⟨m, hm, fun hn => ?_⟩
        subst hn
        split at h
        · cases h
        · rename_i hq
          simpa using hq
      · obtain ⟨m', h1, h2⟩ := findE_good hr1 p hp
        refine ⟨m', h1, fun hn => h2 ?_⟩
        subst hn
        split at h
        · cases h
        · cases h; rfl
    · cases h
theorem findE_ex {K : KT} {l : List Lit} : ∀ {es : List (AV × AV)} {i : Nat}, (∀ p ∈ es, ∃ m, keyA K p.1 = some m) → ∃ r, findE K l es i = some r
  | [], _, _ => ⟨none, rfl⟩
  | (k, v) :: es, i, h => by
    obtain ⟨m, hm⟩ := h (k, v) (by simp)
    obtain ⟨r, hr⟩ := findE_ex (l := l) (es := es) (i := i + 1) (fun p hp => h p (by simp [hp]))
    simp only at hm
    simp only [findE, hm, hr]
    split
    · exact ⟨_, rfl⟩
    · exact ⟨_, rfl⟩
theorem MapR.length {es : List (AV × AV)} {rows : Array MapEntry} {clock : Nat} (h : MapR E w es rows clock) : rows.toList.length = es.length := by
  obtain ⟨es', h1, h2, _⟩ := h
  rw [h1.length, h2.length_eq]
theorem distinct_mem : ∀ {es : List (AV × AV)}, es.Pairwise (fun a b => a.1 ≠ b.1) → ∀ {k v v' : AV}, (k, v) ∈ es → (k, v') ∈ es → v = v'
  | [], _, _, _, _, h, _ => by simp at h
  | p :: es, hp, k, v, v', h, h' => by
    obtain ⟨h1, h2⟩ := List.pairwise_cons.1 hp
    rcases List.mem_cons.1 h with e | e <;> rcases List.mem_cons.1 h' with e' | e'
    · rw [← e] at e'
      cases e'; rfl
    · exact absurd (by rw [← e]) (h1 _ e')
    · exact absurd (by rw [← e']) (h1 _ e)
    · exact distinct_mem h2 e e'
theorem findE_perm {K : KT} {l : List Lit} {es es' : List (AV × AV)} (hl : ∃ x, keyA K x = some l) (hp : es'.Perm es) (hd : es.Pairwise (fun a b => a.1 ≠ b.1)) {r : Option (Nat × AV)} (h : findE K l es 0 = some r) :
    ∃ r', findE K l es' 0 = some r' ∧ (r = none → r' = none) ∧ (∀ j v, r = some (j, v) → ∃ j', r' = some (j', v)) := by
  have hg := findE_good h
  obtain ⟨r', hr'⟩ := findE_ex (K := K) (l := l) (es := es') (i := 0) (fun p hq => by
    obtain ⟨m, hm, _⟩ := hg p (hp.mem_iff.1 hq)
    exact ⟨m, hm⟩)
  refine ⟨r', hr', fun hn => ?_, fun j v hjv => ?_⟩
  · cases r' with
    | none => rfl
    | some q =>
      obtain ⟨j, v⟩ := q
      obtain ⟨k, m, _, hk, hm, hq⟩ := findE_get hr'
      obtain ⟨m', hm', hno⟩ := hg (k, v) (hp.mem_iff.1 (List.mem_of_getElem? hk))
      simp only at hm'
      rw [hm] at hm'
      cases hm'
      rw [hno hn] at hq
      cases hq
  · subst hjv
    obtain ⟨k, m, _, hk, hm, hq⟩ := findE_get h
    have hmem : (k, v) ∈ es' := hp.mem_iff.2 (List.mem_of_getElem? hk)
    have hg' := findE_good hr'
    cases r' with
    | none =>
      obtain ⟨m', hm', hno⟩ := hg' _ hmem
      simp only at hm'
      rw [hm] at hm'
      cases hm'
      rw [hno rfl] at hq
      cases hq
    | some q =>
      obtain ⟨j', v'⟩ := q
      obtain ⟨k', m', _, hk', hm', hq'⟩ := findE_get hr'
      obtain ⟨x, hx⟩ := hl
      obtain ⟨a1, b1⟩ := keyA_lits hx
      obtain ⟨a2, b2⟩ := keyA_lits hm
      obtain ⟨a3, b3⟩ := keyA_lits hm'
      have e1 : l = m := (litsEq_iff b1 b2).1 hq
      have e2 : l = m' := (litsEq_iff b1 b3).1 hq'
      subst e1
      subst e2
      obtain rfl := keyA_inj hm hm'
      obtain rfl := distinct_mem hd (hp.mem_iff.1 hmem) (hp.mem_iff.1 (List.mem_of_getElem? hk'))
      exact ⟨j', rfl⟩
theorem ents_sound {H : AHeap} (hR : Rel E H w) {x : AV} {u : Value} {es : List (AV × AV)} (h : entsA H x = some es) (hx : AVRel E w x u) :
    (u = .map none ∧ es = []) ∨ ∃ b rows clock, u = .map (some b) ∧ w.heap[b]? = some (.map rows clock) ∧ MapR E w es rows clock := by
  unfold entsA at h
  split at h
  · cases h
    simp only [AVRel] at hx
    exact .inl ⟨hx, rfl⟩
  · rename_i i
    simp only [AVRel] at hx
    obtain ⟨L', hρ', rfl⟩ := hx
    split at h
    · rename_i es' hg
      cases h
      obtain ⟨L, hρ, hO, _⟩ := hR.obj _ _ hg
      rw [hρ] at hρ'
      cases hρ'
      obtain ⟨rows, clock, hb, hE⟩ := hO
      exact .inr ⟨_, rows, clock, rfl, hb, hE⟩
    · rename_i es' t hg
      cases h
      obtain ⟨L, hρ, hO, _⟩ := hR.obj _ _ hg
      rw [hρ] at hρ'
      cases hρ'
      obtain ⟨rows, clock, hb, hE, _⟩ := hO
      exact .inr ⟨_, rows, clock, rfl, hb, hE⟩
    · cases h
  · cases h
theorem look_sound {H : AHeap} (hR : Rel E H w) {t kt et : TypeId} {i : TypeInfo} {z : Value} {K : KT} (hu : P.underlying t = some (.map kt et)) (hK : keyKinds P kt = some K) (hi : P.info? et = some i) (hz : i.zero = some z)
    {zero m k r : AV} (hzero : AVRel E w zero z) {um uk : Value} (hm : AVRel E w m um) (hk : AVRel E w k uk) {ok : Bool} {es : List (AV × AV)} {l : List Lit} (he : entsA H m = some es) (hl : keyA K k = some l)
    (h : (match findE K l es 0 with | none => AR.fail | some (some (_, v)) => .v (if ok then .tup [v, .bool true] else v) | some none => .v (if ok then .tup [zero, .bool false] else zero)) = .v r) :
    ∃ q, (Instr.lookup t um uk ok).run P w = .ok q w ∧ AVRel E w r q := by
  have hzr : (zeroValue et).run P w = .ok z w := by simp [zeroValue, typeInfo, hi, hz]
  have tupR : ∀ (a : AV) (u : Value) (b : Bool), AVRel E w a u → AVRel E w (.tup [a, .bool b]) (.tuple #[u, .bool b]) := by
    intro a u b ha
    simp only [AVRel, AVRelL]
    exact ⟨_, rfl, u, [.bool b], rfl, ha, .bool b, [], rfl, rfl, rfl⟩
  rcases ents_sound hR he hm with ⟨rfl, rfl⟩ | ⟨b, rows, clock, rfl, hb, hE⟩
  · have hc := check_sound (w := w) hK hl hk true
    simp only [findE, AR.v.injEq] at h
    subst h
    have hf : (Instr.findKey kt uk []).run P w = .ok none w := by
      obtain ⟨r', h1, h2⟩ := find_sound (w := w) (E := E) (P := P) hK hl hk (es := []) (rows := []) (r := none) (by simp [EntR]) rfl
      simp only [FoundR] at h2
      rw [h1, h2]
    cases ok
    · exact ⟨z, by simp [Instr.lookup, run_underlying hu, hc, hf, hzr], by simpa using hzero⟩
    · exact ⟨.tuple #[z, .bool false], by simp [Instr.lookup, run_underlying hu, hc, hf, hzr], by simpa using tupR _ _ _ hzero⟩
  · have hc := check_sound (w := w) hK hl hk rows.isEmpty
    have hg := getMap_run (P := P) hb
    cases hf0 : findE K l es 0 with
    | none => simp [hf0] at h
    | some r0 =>
      obtain ⟨es', hE', hp, hd, _⟩ := hE
      obtain ⟨r1, hf1, n1, n2⟩ := findE_perm ⟨_, hl⟩ hp hd hf0
      obtain ⟨r', h1, h2⟩ := find_sound (P := P) hK hl hk hE' hf1
      cases r0 with
      | none =>
        obtain rfl := n1 rfl
        simp only [FoundR] at h2
        subst h2
        simp only [hf0, AR.v.injEq] at h
        subst h
        cases ok
        · exact ⟨z, by simp [Instr.lookup, run_underlying hu, hg, hc, h1, hzr], by simpa using hzero⟩
        · exact ⟨.tuple #[z, .bool false], by simp [Instr.lookup, run_underlying hu, hg, hc, h1, hzr], by simpa using tupR _ _ _ hzero⟩
      | some p =>
        obtain ⟨j, v⟩ := p
        obtain ⟨j', rfl⟩ := n2 j v rfl
        simp only [FoundR] at h2
        obtain ⟨u, rfl, hv⟩ := h2
        simp only [hf0, AR.v.injEq] at h
        subst h
        cases ok
        · exact ⟨u, by simp [Instr.lookup, run_underlying hu, hg, hc, h1], by simpa using hv⟩
        · exact ⟨.tuple #[u, .bool true], by simp [Instr.lookup, run_underlying hu, hg, hc, h1], by simpa using tupR _ _ _ hv⟩
theorem bytesR : ∀ (l : List UInt8), AVRelL E w (l.map fun b => AV.int .u8 b.toNat) (l.map fun b => Value.int .u8 b.toNat)
  | [] => by simp [AVRelL]
  | b :: l => by
    simp only [List.map_cons, AVRelL]
    exact ⟨_, _, rfl, by simp [AVRel], bytesR l⟩
theorem row_sound {H : AHeap} (hR : Rel E H w) {i o l c : Nat} {u : Value} (hx : AVRel E w (.sl i o l c) u) {cs : List AV} {opn : Option Nat} (hg : H.get i = some (.cells cs opn)) :
    ∃ L ad c' C t fz us, E.ρ i = some L ∧ u = .slice (some ad) l c' ∧ SlR L o l c ad c' ∧ l ≤ c' ∧ w.heap[L.b]? = some (.cells C t fz) ∧ AVRelL E w cs us ∧
      (∀ (j : Nat) (v : Value), us[j]? = some v → C[L.s + j]? = some v) ∧ L.s + span L cs.length opn ≤ C.size ∧ (∀ j, j < span L cs.length opn → ¬ (fz.1 ≤ L.s + j ∧ L.s + j < fz.2)) ∧ fits L cs.length opn := by
  obtain ⟨L, hρ, hO, _⟩ := hR.obj _ _ hg
  simp only [AVRel] at hx
  obtain ⟨L', ad, c', hρ', rfl, hsl, hle⟩ := hx
  rw [hρ] at hρ'
  cases hρ'
  obtain ⟨C, t, fz, us, h1, h2, h3, h4, h5⟩ := hO
  exact ⟨L, ad, c', C, t, fz, us, hρ, rfl, hsl, hle, h1, h2, h3, h4, h5⟩
theorem SlR.addr {L : Loc} {o l c : Nat} {a : Addr} {c' : Nat} (h : SlR L o l c a c') (hl : l ≤ c') (h0 : l ≠ 0) : a = ⟨L.b, L.s + o, none⟩ := by
  rcases h with ⟨_, hcc, h0' | ha⟩ | ⟨_, _, ha | ⟨h0', _⟩⟩
  · omega
  · exact ha
  · exact ha
  · omega
theorem loadCells_sound {b o : Nat} {us : List Value} {n : Nat} (h : ∀ (j : Nat) (v : Value), us[j]? = some v → w.cell? ⟨b, o + j, none⟩ = some v) (hn : n = us.length) :
    (loadCells ⟨b, o, none⟩ n).run P w = .ok us.toArray w := by
  subst hn
  refine run_loadCells_list (P := P) w ⟨b, o, none⟩ us (fun j v hj => ?_)
  rw [add_plain]
  exact h j v hj
theorem loadCells_zero (a : Addr) : (loadCells a 0).run P w = .ok #[] w := rfl
theorem src_sound {H : AHeap} (hR : Rel E H w) {z n : Nat} {x : AV} {u : Value} {c : List AV} (h : srcA H z n x = some c) (hx : AVRel E w x u) (hl : ∀ l, lenA x = some l → n ≤ l) :
    ∃ us, (Builtin.firstCells z n u).run P w = .ok us w ∧ AVRelL E w c us.toList := by
  unfold srcA at h
  split at h
  · split at h
    · cases h
      simp only [AVRel] at hx
      subst hx
      exact ⟨#[], rfl, by simp [AVRelL]⟩
    · cases h
  · rename_i i o l c0
    split at h
    · rename_i cs opn hg
      split at h
      · rename_i hle
        cases h
        obtain ⟨L, ad, c', C, t, fz, us, hρ, rfl, hsl, hlc, hb, hr, hcell, _⟩ := row_sound hR hx hg
        have hnl := hl l rfl
        simp only [Builtin.firstCells]
        by_cases h0 : l = 0
        · have : n = 0 := by omega
          subst this
          simp only [Nat.zero_mul, List.take_zero]
          exact ⟨#[], loadCells_zero ad, by simp [AVRelL]⟩
        · obtain rfl := hsl.addr hlc h0
          have hus := hr.length
          refine ⟨((us.drop o).take (n * z)).toArray, loadCells_sound (fun j v hj => ?_) ?_, by simpa using (hr.drop o).take (n * z)⟩
          · rw [List.getElem?_take] at hj
            split at hj
            · rw [List.getElem?_drop] at hj
              simp only [World.cell?, hb, Option.isSome_none, Bool.false_eq_true, if_false]
              rw [Nat.add_assoc]
              exact hcell _ _ hj
            · cases hj
          · simp
            omega
      · cases h
    · cases h
  · rename_i cs l f
    split at h
    · rename_i hle
      cases h
      simp only [AVRel] at hx
      rcases hx with ⟨rfl, rfl, a, c, rfl, hf⟩ | ⟨b, s, c', us, rfl, hI, hcell, hr, hle', hf⟩
      · have h0 : n * z = 0 := by simpa using hle
        cases a with
        | none => exact ⟨#[], rfl, by simp [AVRelL]⟩
        | some ad =>
          simp only [Builtin.firstCells, h0]
          exact ⟨#[], loadCells_zero ad, by simp [AVRelL]⟩
      have hus := hr.length
      simp only [Builtin.firstCells]
      refine ⟨(us.take (n * z)).toArray, loadCells_sound (fun j v hj => ?_) ?_, by simpa using hr.take (n * z)⟩
      · rw [List.getElem?_take] at hj
        split at hj
        · exact hcell _ _ hj
        · cases hj
      · simp
        omega
    · cases h
  · rename_i s
    split at h
    · cases h
      obtain rfl := hx.str_inv
      simp only [Builtin.firstCells]
      refine ⟨_, rfl, ?_⟩
      rw [ByteArray.data_extract]
      have := bytesR (E := E) (w := w) (s.take n)
      simpa [List.extract_eq_take_drop] using this
    · cases h
  · cases h
theorem len_sound {x : AV} {u : Value} {n : Nat} (h : lenA x = some n) (hx : AVRel E w x u) : (Builtin.lenOf u).run P w = .ok n w := by
  cases x <;> simp only [lenA, Option.some.injEq, reduceCtorEq] at h <;> subst h
  case str s => obtain rfl := hx.str_inv; simp [Builtin.lenOf, ByteArray.size]
  case sl => simp only [AVRel] at hx; obtain ⟨_, _, _, _, rfl, _⟩ := hx; rfl
  case nils => simp only [AVRel] at hx; subst hx; rfl
  case imm => simp only [AVRel] at hx; rcases hx with ⟨rfl, rfl, _, _, rfl, _⟩ | ⟨_, _, _, _, rfl, _⟩ <;> rfl
theorem bytesExt {a b : ByteArray} (h : a.data.toList = b.data.toList) : a = b := by
  cases a with
  | mk x => cases b with
    | mk y => exact congrArg ByteArray.mk (Array.toList_inj.1 h)
theorem bytesLoop (f : Value → ByteArray → Sem (ForInStep ByteArray)) (hf : ∀ n s, (f (.int .u8 n) s).run P w = .ok (.yield (s.push (UInt8.ofNat n.toNat))) w) :
    ∀ (l : List AV) (us : List Value) (bs : List UInt8) (acc : ByteArray), AVRelL E w l us → bytesA l = some bs →
    ∃ r : ByteArray, (forIn us acc f).run P w = .ok r w ∧ r.data.toList = acc.data.toList ++ bs
  | [], us, bs, acc, hr, hb => by
    simp only [AVRelL] at hr; subst hr
    simp only [bytesA, Option.some.injEq] at hb; subst hb
    exact ⟨acc, by simp, by simp⟩
  | x :: l, us, bs, acc, hr, hb => by
    simp only [AVRelL] at hr
    obtain ⟨u, us', rfl, hu, hr'⟩ := hr
    cases x <;> try (simp [bytesA] at hb; done)
    case int k n =>
      cases k <;> try (simp [bytesA] at hb; done)
      simp only [bytesA, Option.map_eq_some_iff] at hb
      obtain ⟨bs', hb', rfl⟩ := hb
      obtain rfl := hu.int_inv
      obtain ⟨r, h1, h2⟩ := bytesLoop f hf l us' bs' (acc.push (UInt8.ofNat n.toNat)) hr' hb'
      refine ⟨r, ?_, ?_⟩
      · rw [List.forIn_cons]
        simp [hf, h1]
      · rw [h2]
        simp [ByteArray.push]
theorem bts_sound {H : AHeap} (hR : Rel E H w) {x r : AV} {u : Value} {n : Nat} (hns : ∀ s, x ≠ .str s) (hl : lenA x = some n) (h : ((srcA H 1 n x).bind bytesA).map AV.str = some r) (hx : AVRel E w x u) :
    ∃ q, (Conv.bytesToString u).run P w = .ok q w ∧ AVRel E w r q := by
  simp only [Option.map_eq_some_iff, Option.bind_eq_some_iff] at h
  obtain ⟨bs, ⟨c, hc, hbs⟩, rfl⟩ := h
  obtain ⟨us, h1, h2⟩ := src_sound (P := P) hR hc hx (fun l hq => by rw [hl] at hq; cases hq; exact Nat.le_refl _)
  obtain ⟨res, hr1, hr2⟩ := bytesLoop (P := P) (w := w) (fun c s => match c with
      | .int .u8 n => pure (ForInStep.yield (s.push (UInt8.ofNat n.toNat)))
      | _ => do
        stuck "bytesToString: byte expected"
        pure (ForInStep.yield s)) (fun n s => rfl) c us.toList bs ByteArray.empty h2 hbs
  have hq : AVRel E w (.str bs) (.string res) := by
    simp only [AVRel]
    exact ⟨res, rfl, by simpa using hr2⟩
  refine ⟨.string res, ?_, hq⟩
  cases x <;> simp only [lenA, Option.some.injEq, reduceCtorEq] at hl
  case str s => exact absurd rfl (hns s)
  case nils =>
    simp only [AVRel] at hx
    subst hx
    subst hl
    simp only [srcA, if_true, Option.some.injEq] at hc
    subst hc
    simp only [bytesA, Option.some.injEq] at hbs
    subst hbs
    have : res = ByteArray.empty := by
      exact bytesExt (by simpa using hr2)
    subst this
    rfl
  case sl i o l c' =>
    subst hl
    simp only [AVRel] at hx
    obtain ⟨_, a, _, _, rfl, _⟩ := hx
    simp only [Builtin.firstCells, Nat.mul_one] at h1
    simp only [Conv.bytesToString, Sem.run_bind, h1, Result.andThen_ok]
    rw [← Array.forIn_toList]
    exact congrArg (fun r : Result ByteArray => r.andThen fun a w' => Sem.run P (pure (Value.string a)) w') hr1
  case imm cs l f =>
    subst hl
    simp only [AVRel] at hx
    rcases hx with ⟨rfl, rfl, a, c0, rfl, _⟩ | ⟨_, _, _, _, rfl, _⟩
    · cases a with
      | none =>
        simp only [srcA, Nat.zero_mul, List.length_nil, Nat.le_refl, if_true, Option.some.injEq, List.take_nil] at hc
        subst hc
        simp only [bytesA, Option.some.injEq] at hbs
        subst hbs
        have : res = ByteArray.empty := by
          exact bytesExt (by simpa using hr2)
        subst this
        rfl
      | some ad =>
        simp only [Builtin.firstCells, Nat.mul_one] at h1
        simp only [Conv.bytesToString, Sem.run_bind, h1, Result.andThen_ok]
        rw [← Array.forIn_toList]
        exact congrArg (fun r : Result ByteArray => r.andThen fun a w' => Sem.run P (pure (Value.string a)) w') hr1
    simp only [Builtin.firstCells, Nat.mul_one] at h1
    simp only [Conv.bytesToString, Sem.run_bind, h1, Result.andThen_ok]
    rw [← Array.forIn_toList]
    exact congrArg (fun r : Result ByteArray => r.andThen fun a w' => Sem.run P (pure (Value.string a)) w') hr1
end
end Go.Eng
end
section
namespace Go.Eng
section
variable {E : Env} {w : World} {P : Program}
theorem ofV_v {o : Option AV} {r : AV} (h : AR.ofV o = .v r) : o = some r := by
  cases o <;> simp [AR.ofV] at h
  subst h; rfl
theorem execV {s : Sem Value} {u : Value} {w' : World} (h : s.run P w = .ok u w') : (do pure (Next.value (← s)) : Sem Next).run P w = .ok (.value u) w' := by simp [h]
theorem tail_of_execV {s : Sem Value} {r : AV} (h : ∃ q, s.run P w = .ok q w ∧ AVRel E w r q) :
    ∃ u, (do pure (Next.value (← s)) : Sem Next).run P w = .ok (.value u) w ∧ AVRel E w r u :=
  let ⟨q, h1, h2⟩ := h; ⟨q, execV h1, h2⟩
theorem bindSome {α β : Type} {o : Option α} {f : α → Option β} {r : β} (h : o.bind f = some r) : ∃ x, o = some x ∧ f x = some r := by
  cases o <;> simp at h
  exact ⟨_, rfl, h⟩
theorem int2_sound {op : Value → Value → Sem Value} {f : AV → AV → Option AV}
    (hf : ∀ (x y r : AV) (u v : Value), AVRel E w x u → AVRel E w y v → f x y = some r → ∃ q, (op u v).run P w = .ok q w ∧ AVRel E w r q) :
    ∀ (l : List AV) (us : List Value) (x r : AV) (u : Value), AVRelL E w l us → AVRel E w x u → l.foldlM f x = some r → ∃ q, (us.foldlM op u).run P w = .ok q w ∧ AVRel E w r q
  | [], us, x, r, u, hr, hx, h => by
    simp only [AVRelL] at hr; subst hr
    simp at h; subst h
    exact ⟨u, rfl, hx⟩
  | y :: l, us, x, r, u, hr, hx, h => by
    simp only [AVRelL] at hr
    obtain ⟨v, us', rfl, hv, hr'⟩ := hr
    rw [List.foldlM_cons] at h
    obtain ⟨z, hz, h⟩ := bindSome h
    obtain ⟨q, h1, h2⟩ := hf _ _ _ _ _ hx hv hz
    obtain ⟨q', h3, h4⟩ := int2_sound hf l us' z r q hr' h2 h
    exact ⟨q', by simp [List.foldlM_cons, h1, h3], h4⟩
theorem mn_sound {l : List AV} {us : Array Value} {r : AV} (hr : AVRelL E w l us.toList) (h : minA l = some r) (a : Array TypeId) (t : TypeId) : ∃ q, (Builtin.min_ a t us).run P w = .ok q w ∧ AVRel E w r q := by
  unfold minA at h
  unfold Builtin.min_
  cases l with
  | nil => simp at h
  | cons x l =>
    simp only [AVRelL] at hr
    obtain ⟨u, us', e, hx, hr'⟩ := hr
    simp only [e]
    refine int2_sound (fun x y r u v hu hv hxy => ?_) l us' x r u hr' hx h
    split at hxy
    · cases hxy
      obtain rfl := hu.int_inv
      obtain rfl := hv.int_inv
      exact ⟨_, rfl, by simp [AVRel]⟩
    · cases hxy
theorem mx_sound {l : List AV} {us : Array Value} {r : AV} (hr : AVRelL E w l us.toList) (h : maxA l = some r) (a : Array TypeId) (t : TypeId) : ∃ q, (Builtin.max_ a t us).run P w = .ok q w ∧ AVRel E w r q := by
  unfold maxA at h
  unfold Builtin.max_
  cases l with
  | nil => simp at h
  | cons x l =>
    simp only [AVRelL] at hr
    obtain ⟨u, us', e, hx, hr'⟩ := hr
    simp only [e]
    refine int2_sound (fun x y r u v hu hv hxy => ?_) l us' x r u hr' hx h
    split at hxy
    · cases hxy
      obtain rfl := hu.int_inv
      obtain rfl := hv.int_inv
      exact ⟨_, rfl, by simp [AVRel]⟩
    · cases hxy
theorem idx_sound {t e : TypeId} {len z : Nat} {s : Option Nat} (hu : P.underlying t = some (.array len e)) (hz : sizeT P e = some z) (hs : shapeOf P e = some s) {x i r : AV} {u v : Value} {cs : List AV} {k : IntKind} {n : Int}
    (hxe : x = .agg cs) (hie : i = .int k n) (hx : AVRel E w x u) (hi : AVRel E w i v) (hn : idxOk n len = true) (h : partA (n.toNat * z) s cs = some r) : ∃ q, (Instr.index t u v).run P w = .ok q w ∧ AVRel E w r q := by
  subst hxe; subst hie
  have hsz := size_run (w := w) hz
  obtain ⟨h1, h2, h3⟩ := idxOk_iff hn
  obtain rfl := hi.int_inv
  simp only [AVRel] at hx
  obtain ⟨us, rfl, hr⟩ := hx
  obtain ⟨q, hq, hq'⟩ := part_sound (P := P) hs hr h
  exact ⟨q, by simp [Instr.index, asIntOf, run_underlying hu, h1, h2, hsz, hq], hq'⟩
theorem sidx_sound {t : TypeId} (hu : P.underlying t = some .string) {s : List UInt8} {u v : Value} {k : IntKind} {n : Int} {r : AV} (hx : AVRel E w (.str s) u) (hi : AVRel E w (.int k n) v) (hn : idxOk n s.length = true)
    (h : (s[n.toNat]?).map (fun b => AV.int .u8 b.toNat) = some r) : ∃ q, (Instr.index t u v).run P w = .ok q w ∧ AVRel E w r q := by
  obtain ⟨h1, h2, h3⟩ := idxOk_iff hn
  obtain rfl := hi.int_inv
  obtain rfl := hx.str_inv
  simp only [Option.map_eq_some_iff] at h
  obtain ⟨b, hb, rfl⟩ := h
  have hb' : (ByteArray.mk s.toArray)[n.toNat]? = some b := by
    have hlt : n.toNat < (ByteArray.mk s.toArray).size := by simpa [ByteArray.size] using h3
    rw [getElem?_pos (ByteArray.mk s.toArray) n.toNat hlt]
    congr 1
    rw [List.getElem?_eq_getElem h3] at hb
    cases hb
    rfl
  refine ⟨.int .u8 b.toNat, ?_, by simp [AVRel]⟩
  simp [Instr.index, asIntOf, run_underlying hu, h1, hb']
theorem built_of {tm : Tr AV} {a : Act} (hT : TmR E w tm a.tmps) {t : TypeId} {ps : Array (Nat × Operand)} {z : List AV} {place : Nat → Option (Nat × Nat)} {qs : List (Nat × Nat × XO)} {l : List (Nat × Nat × AV)} {r : List AV}
    (hz : zeroCells P t = some z) (hq : partsX place ps.toList = some qs) (hl : evParts (St.ev tm) qs = some l) (hr : fillA z l = some r)
    (hp : ∀ i zv, P.info? t = some i → i.zero = some zv → P.built t ((ps.map fun (i, x) => (i, a.eval x)).toList) = Instr.fill place zv.cells ((ps.map fun (i, x) => (i, a.eval x)).toList)) :
    ∃ q, (Instr.build t (ps.map fun (i, x) => (i, a.eval x))).run P w = .ok q w ∧ AVRel E w (.agg r) q := by
  obtain ⟨i, zv, hi, hzv, hrel⟩ := zero_sound (E := E) (w := w) hz
  obtain ⟨c', h1, h2⟩ := fill_sound hT hq hl hr hrel
  refine ⟨.agg c', run_build w t _ c' ?_, ?_⟩
  · rw [hp i zv hi hzv]
    simpa using h1
  · simp only [AVRel]
    exact ⟨c', rfl, h2⟩
def eqRun (op : BinOp) (t : TypeId) (x z : Operand) (u v : Value) : Sem Value := do eqGuard op t x z u v; binOp op t u v
theorem eqop_bool {op : BinOp} (hop : op = .eql ∨ op = .neq) {t : TypeId} (x z : Operand) {b b' r : Bool} (he : (Op.equal t (.bool b) (.bool b')).run P w = .ok r w) :
    (eqRun op t x z (.bool b) (.bool b')).run P w = .ok (.bool (r != (op == .neq))) w := by
  rcases hop with rfl | rfl
  · have : (BinOp.eql == BinOp.neq) = false := rfl
    simp [eqRun, eqGuard, binOp, he, this]
  · have : (BinOp.neq == BinOp.neq) = true := rfl
    simp [eqRun, eqGuard, binOp, he, this]
theorem eqop_agg {op : BinOp} (hop : op = .eql ∨ op = .neq) {t : TypeId} (hg : P.eqGuardType P.depth t = false) (x z : Operand) {us vs : Array Value} {r : Bool} (he : (Op.equal t (.agg us) (.agg vs)).run P w = .ok r w) :
    (eqRun op t x z (.agg us) (.agg vs)).run P w = .ok (.bool (r != (op == .neq))) w := by
  have hgd : ∀ op, (eqGuard op t x z (.agg us) (.agg vs)).run P w = .ok () w := by
    intro op
    unfold eqGuard
    cases op <;> simp [program, Sem.run, hg]
  rcases hop with rfl | rfl
  · have : (BinOp.eql == BinOp.neq) = false := rfl
    simp [eqRun, hgd, binOp, he, this]
  · have : (BinOp.neq == BinOp.neq) = true := rfl
    simp [eqRun, hgd, binOp, he, this]
def holdsNil : Value → Bool
  | .pointer _ | .slice .. | .map _ | .func .. | .nilFunc | .iface .. | .nilIface => true
  | _ => false
theorem eqop_nil {op : BinOp} (hop : op = .eql ∨ op = .neq) {t : TypeId} (x z : Operand) {u v : Value} {r : Bool} (hu : holdsNil u = true) (hv : holdsNil v = true)
    (hc : u = .nilIface → v = .nilIface → ((x matches .const _) || (z matches .const _)) = true) (he : (Op.equal t u v).run P w = .ok r w) :
    (eqRun op t x z u v).run P w = .ok (.bool (r != (op == .neq))) w := by
  have hgd : ∀ op, (eqGuard op t x z u v).run P w = .ok () w := by
    intro op
    unfold eqGuard
    cases u <;> simp [holdsNil] at hu <;> cases v <;> simp [holdsNil] at hv <;> cases op <;> first | rfl | (have := hc rfl rfl; cases x <;> cases z <;> first | rfl | (simp at this))
  have h1 : binOp .eql t u v = (do pure (.bool (← Op.equal t u v))) := by
    cases u <;> simp [holdsNil] at hu <;> cases v <;> simp [holdsNil] at hv <;> rfl
  have h2 : binOp .neq t u v = (do pure (.bool (!(← Op.equal t u v)))) := by
    cases u <;> simp [holdsNil] at hu <;> cases v <;> simp [holdsNil] at hv <;> rfl
  rcases hop with rfl | rfl
  · have : (BinOp.eql == BinOp.neq) = false := rfl
    simp [eqRun, hgd, h1, he, this]
  · have : (BinOp.neq == BinOp.neq) = true := rfl
    simp [eqRun, hgd, h2, he, this]
def nilable : AV → Bool
  | .nilp | .ptr .. | .iptr .. | .nils | .sl .. | .imm .. | .nilm | .map _ | .nilf | .fn .. | .nili | .ifc .. => true
  | _ => false
theorem eqnA_holds {k : NK} {x y : AV} {r : Bool} (h : eqnA k x y = some r) {u v : Value} (hx : AVRel E w x u) (hy : AVRel E w y v) :
    holdsNil u = true ∧ holdsNil v = true ∧ (u = .nilIface → k = .i) := by
  have hold : ∀ (x : AV) (u : Value), AVRel E w x u → nilable x = true → holdsNil u = true ∧ (u = .nilIface → x = .nili) := by
    intro x u hx hm
    cases x <;> simp only [nilable, Bool.false_eq_true] at hm <;> simp only [AVRel] at hx
    case nilp => subst hx; exact ⟨rfl, fun e => by cases e⟩
    case ptr => obtain ⟨_, _, rfl⟩ := hx; exact ⟨rfl, fun e => by cases e⟩
    case iptr => obtain ⟨_, _, _, rfl, _⟩ := hx; exact ⟨rfl, fun e => by cases e⟩
    case nils => subst hx; exact ⟨rfl, fun e => by cases e⟩
    case sl => obtain ⟨_, _, _, _, rfl, _⟩ := hx; exact ⟨rfl, fun e => by cases e⟩
    case imm =>
      rcases hx with ⟨_, _, a, _, rfl, _⟩ | ⟨_, _, _, _, rfl, _⟩
      · cases a <;> exact ⟨rfl, fun e => by cases e⟩
      · exact ⟨rfl, fun e => by cases e⟩
    case nilm => subst hx; exact ⟨rfl, fun e => by cases e⟩
    case map => obtain ⟨_, _, rfl⟩ := hx; exact ⟨rfl, fun e => by cases e⟩
    case nilf => subst hx; exact ⟨rfl, fun e => by cases e⟩
    case fn => obtain ⟨_, rfl, _⟩ := hx; exact ⟨rfl, fun e => by cases e⟩
    case nili => subst hx; exact ⟨rfl, fun _ => rfl⟩
    case ifc => obtain ⟨_, rfl, _⟩ := hx; exact ⟨rfl, fun e => by cases e⟩
  have mx : nilable x = true := by
    cases x <;> first | rfl | (cases k <;> simp [eqnA] at h)
  have my : nilable y = true := by
    cases y <;> first | rfl | (cases k <;> cases x <;> simp [eqnA] at h)
  refine ⟨(hold x u hx mx).1, (hold y v hy my).1, fun e => ?_⟩
  have hx' := (hold x u hx mx).2 e
  subst hx'
  cases k <;> first | rfl | (cases y <;> simp [eqnA] at h)
theorem eqf_sound {op : BinOp} (hop : op = .eql ∨ op = .neq) {t : TypeId} {K : KT} (hK : keyKinds P t = some K)
    (hty : (P.underlying t = some .bool) ∨ (((∃ fs, P.underlying t = some (.struct fs)) ∨ ∃ n e, P.underlying t = some (.array n e)) ∧ P.eqGuardType P.depth t = false))
    (x z : Operand) {p q : AV} {u v : Value} {l m : List Lit} (hl : keyA K p = some l) (hm : keyA K q = some m) (rp : AVRel E w p u) (rq : AVRel E w q v) :
    (eqRun op t x z u v).run P w = .ok (.bool (litsEq l m != (op == .neq))) w := by
  have he := equal_sound (P := P) hK hl hm rp rq
  rcases hty with hb | ⟨hs, hg⟩
  · have shp : ∀ {p : AV} {l : List Lit} {u : Value}, keyA K p = some l → AVRel E w p u → ∃ b, u = .bool b := by
      intro p l u hl rp
      obtain ⟨f1, k1, _⟩ := keyA_sound (P := P) hK hl rp
      unfold Program.keyLits at k1
      rw [hb] at k1
      cases u <;> simp only [Value.cells, Value.formed, hb, Bool.false_eq_true, reduceCtorEq] at k1 f1
      exact ⟨_, rfl⟩
    obtain ⟨b, rfl⟩ := shp hl rp
    obtain ⟨b', rfl⟩ := shp hm rq
    exact eqop_bool hop x z he
  · have shp : ∀ {p : AV} {l : List Lit} {u : Value}, keyA K p = some l → AVRel E w p u → ∃ us, u = .agg us := by
      intro p l u hl rp
      obtain ⟨f1, k1, _⟩ := keyA_sound (P := P) hK hl rp
      rcases hs with ⟨fs, hs⟩ | ⟨n', e, hs⟩
      · cases u <;> simp only [Value.formed, hs, Bool.false_eq_true] at f1
        exact ⟨_, rfl⟩
      · cases u <;> simp only [Value.formed, hs, Bool.false_eq_true] at f1
        exact ⟨_, rfl⟩
    obtain ⟨b, rfl⟩ := shp hl rp
    obtain ⟨b', rfl⟩ := shp hm rq
    exact eqop_agg hop hg x z he
theorem bin_run {op : BinOp} {t : TypeId} (x z : Operand) {p q r : AV} {u v : Value} (rp : AVRel E w p u) (rq : AVRel E w q v) (h : binA op p q = some r) : ∃ g, (eqRun op t x z u v).run P w = .ok g w ∧ AVRel E w r g := by
  obtain ⟨g, h1, h2⟩ := bin_sound (P := P) (t := t) rp rq h
  refine ⟨g, ?_, h2⟩
  have hg : (eqGuard op t x z u v).run P w = .ok () w := by
    unfold binA at h
    split at h
    · rw [rp.int_inv, rq.int_inv]
      cases op <;> rfl
    · rw [rp.str_inv, rq.str_inv]
      cases op <;> rfl
    · cases h
  simp [eqRun, hg, h1]
theorem bin_op_sound {tm : Tr AV} {a : Act} (hT : TmR E w tm a.tmps) {op : BinOp} {t : TypeId} {x z : Operand} {y : XOp} (hc : compBin P op t x z = some y) {H : AHeap} {n : Nat} {r : AV} (h : xop (St.ev tm) H n y = .v r) :
    ∃ g, (eqRun op t x z (a.eval x) (a.eval z)).run P w = .ok g w ∧ AVRel E w r g := by
  unfold compBin at hc
  simp only [bind] at hc
  obtain ⟨x', hx', hc⟩ := bindSome hc
  obtain ⟨z', hz', hc⟩ := bindSome hc
  have hbin : some (XOp.bin op x' z') = some y → ∃ g, (eqRun op t x z (a.eval x) (a.eval z)).run P w = .ok g w ∧ AVRel E w r g := by
    intro hc
    cases hc
    simp only [xop] at h
    split at h
    · rename_i p q hp hq
      exact bin_run x z (ev_rel hT hx' hp) (ev_rel hT hz' hq) (ofV_v h)
    · cases h
  have heqf : (op = .eql ∨ op = .neq) → ∀ K, keyKinds P t = some K → ((P.underlying t = some .bool) ∨ (((∃ fs, P.underlying t = some (.struct fs)) ∨ ∃ n e, P.underlying t = some (.array n e)) ∧ P.eqGuardType P.depth t = false)) →
      some (XOp.eqf (op == .neq) K x' z') = some y → ∃ g, (eqRun op t x z (a.eval x) (a.eval z)).run P w = .ok g w ∧ AVRel E w r g := by
    intro hop K hK hty hc
    cases hc
    simp only [xop] at h
    split at h
    · rename_i l m hl hm
      obtain ⟨p, hp, hl⟩ := bindSome hl
      obtain ⟨q, hq, hm⟩ := bindSome hm
      cases h
      exact ⟨_, eqf_sound hop hK hty x z hl hm (ev_rel hT hx' hp) (ev_rel hT hz' hq), by simp [AVRel]⟩
    · cases h
  have heqn : (op = .eql ∨ op = .neq) → ∀ k d, P.underlying t = some d → (match k with | NK.p => ∃ e, d = .pointer e ∧ (sizeT P e).getD 0 ≠ 0 | .s => ∃ e, d = .slice e | .m => ∃ a b, d = .map a b | .f => ∃ a b c, d = .func a b c | .i => ∃ ms, d = .interface ms) →
      (k = .i → (isNilConst x || isNilConst z) = true) →
      some (XOp.eqn (op == .neq) k x' z') = some y → ∃ g, (eqRun op t x z (a.eval x) (a.eval z)).run P w = .ok g w ∧ AVRel E w r g := by
    intro hop k d hd hk hi hc
    cases hc
    simp only [xop] at h
    split at h
    · rename_i p q hp hq
      split at h
      · rename_i b hb
        cases h
        have rp := ev_rel hT hx' hp
        have rq := ev_rel hT hz' hq
        obtain ⟨h1, h2, h3⟩ := eqnA_holds hb rp rq
        refine ⟨_, eqop_nil hop x z h1 h2 (fun e _ => ?_) (eqn_sound (P := P) hd hk rp rq hb), by simp [AVRel]⟩
        have hh := hi (h3 e)
        simp only [Bool.or_eq_true] at hh ⊢
        rcases hh with hh | hh
        · left; cases x <;> simp_all [isNilConst]
        · right; cases z <;> simp_all [isNilConst]
      · cases h
    · cases h
  have main : (op = .eql ∨ op = .neq) → (match P.underlying t with
        | some (.int _) | some .string => some (XOp.bin op x' z')
        | some .bool => (keyKinds P t).bind fun K => some (.eqf (op == .neq) K x' z')
        | some (.struct _) | some (.array _ _) => if P.eqGuardType P.depth t then none else (keyKinds P t).bind fun K => some (.eqf (op == .neq) K x' z')
        | some (.slice _) => some (.eqn (op == .neq) .s x' z')
        | some (.map _ _) => some (.eqn (op == .neq) .m x' z')
        | some (.func ..) => some (.eqn (op == .neq) .f x' z')
        | some (.pointer e) => if (sizeT P e).getD 0 ≠ 0 then some (.eqn (op == .neq) .p x' z') else none
        | some (.interface _) => if isNilConst x || isNilConst z then some (.eqn (op == .neq) .i x' z') else none
        | _ => none) = some y → ∃ g, (eqRun op t x z (a.eval x) (a.eval z)).run P w = .ok g w ∧ AVRel E w r g := by
    intro hop hc
    split at hc
    · exact hbin hc
    · exact hbin hc
    · rename_i hu
      obtain ⟨K, hK, hc⟩ := bindSome hc
      exact heqf hop K hK (.inl hu) hc
    · rename_i fs hu
      split at hc
      · cases hc
      · rename_i hg
        obtain ⟨K, hK, hc⟩ := bindSome hc
        exact heqf hop K hK (.inr ⟨.inl ⟨_, hu⟩, by simpa using hg⟩) hc
    · rename_i n' e hu
      split at hc
      · cases hc
      · rename_i hg
        obtain ⟨K, hK, hc⟩ := bindSome hc
        exact heqf hop K hK (.inr ⟨.inr ⟨_, _, hu⟩, by simpa using hg⟩) hc
    · rename_i e hu
      exact heqn hop .s _ hu ⟨e, rfl⟩ (fun q => by cases q) hc
    · rename_i e f hu
      exact heqn hop .m _ hu ⟨e, f, rfl⟩ (fun q => by cases q) hc
    · rename_i e f g hu
      exact heqn hop .f _ hu ⟨e, f, g, rfl⟩ (fun q => by cases q) hc
    · rename_i e hu
      split at hc
      · rename_i hz
        exact heqn hop .p _ hu ⟨e, rfl, hz⟩ (fun q => by cases q) hc
      · cases hc
    · rename_i ms hu
      split at hc
      · rename_i hz
        exact heqn hop .i _ hu ⟨ms, rfl⟩ (fun _ => hz) hc
      · cases hc
    · cases hc
  cases op with
  | eql => exact main (.inl rfl) hc
  | neq => exact main (.inr rfl) hc
  | _ => exact hbin hc
theorem conv_sound {H : AHeap} (hR : Rel E H w) {tm : Tr AV} {a : Act} (hT : TmR E w tm a.tmps) {s d : TypeId} {x : Operand} {y : XOp} (hc : compConv P s d x = some y) {n : Nat} {r : AV} (h : xop (St.ev tm) H n y = .v r) :
    ∃ g, (convert s d (a.eval x)).run P w = .ok g w ∧ AVRel E w r g := by
  unfold compConv at hc
  simp only [bind] at hc
  obtain ⟨x', hx', hc⟩ := bindSome hc
  split at hc
  · rename_i k k' hs hd
    cases hc
    simp only [xop] at h
    split at h
    · rename_i q m hv
      cases h
      have e := (ev_rel hT hx' hv).int_inv
      exact ⟨_, by simp [convert, run_underlying hs, run_underlying hd, e, Conv.intToInt]; rfl, by simp [AVRel, wrapA]⟩
    · cases h
  · rename_i hs hd
    cases hc
    simp only [xop] at h
    split at h
    · rename_i q hv
      cases h
      have hr := ev_rel hT hx' hv
      have e := hr.str_inv
      exact ⟨a.eval x, by simp [convert, run_underlying hs, run_underlying hd, e], hr⟩
    · cases h
  · rename_i e hs hd
    split at hc
    · rename_i he
      cases hc
      simp only [xop] at h
      split at h
      · rename_i v hv
        split at h
        · cases h
        · rename_i l hl
          have hr := ev_rel hT hx' hv
          split at h
          · cases h
          · rename_i hns
            obtain ⟨g, h1, h2⟩ := bts_sound (P := P) hR (fun s e => hns s e) hl (ofV_v h) hr
            refine ⟨g, ?_, h2⟩
            have hsl : ∃ b l c, a.eval x = .slice b l c := by
              cases v <;> simp only [lenA, reduceCtorEq] at hl <;> simp only [AVRel] at hr
              case str => exact absurd rfl (hns _)
              case sl => obtain ⟨_, _, _, _, e, _⟩ := hr; exact ⟨_, _, _, e⟩
              case nils => exact ⟨_, _, _, hr⟩
              case imm =>
                rcases hr with ⟨_, _, _, _, e, _⟩ | ⟨_, _, _, _, e, _⟩ <;> exact ⟨_, _, _, e⟩
            obtain ⟨b, l', c, ex⟩ := hsl
            rw [ex] at h1 ⊢
            simp [convert, run_underlying hs, run_underlying hd, run_underlying he, h1]
      · cases h
    · cases hc
  · cases hc
theorem toList_one {α : Type} {a : Array α} {x : α} (h : a.toList = [x]) : a = #[x] := Array.toList_inj.1 h
theorem toList_two {α : Type} {a : Array α} {x y : α} (h : a.toList = [x, y]) : a = #[x, y] := Array.toList_inj.1 h
theorem builtin_v_sound {H : AHeap} (hR : Rel E H w) {tm : Tr AV} {a : Act} (hT : TmR E w tm a.tmps) {b : Builtin} {ats : Array TypeId} {args : Array Operand} {y : XOp} (hc : compBuiltin P b ats.toList args.toList = some y)
    {n : Nat} {r : AV} (h : xop (St.ev tm) H n y = .v r) (ty : TypeId) :
    ∃ u, (∀ cs : Array Bool, (builtin b ats ty cs (args.map a.eval)).run P w = .ok (.value u) w) ∧ AVRel E w r u := by
  have tl : ∀ {s : Sem Value} {r : AV}, (∃ q, s.run P w = .ok q w ∧ AVRel E w r q) → ∃ u, (∀ _ : Array Bool, (do pure (Next.value (← s)) : Sem Next).run P w = .ok (.value u) w) ∧ AVRel E w r u :=
    fun ⟨q, h1, h2⟩ => ⟨q, fun _ => execV h1, h2⟩
  unfold compBuiltin at hc
  split at hc
  · rename_i t x e1 e2
    have e1 := toList_one e1
    have e2 := toList_one e2
    subst e1; subst e2
    simp only [builtin]
    refine tl ?_
    simp only [bind] at hc
    obtain ⟨d, hd, hc⟩ := bindSome hc
    split at hc
    · obtain ⟨x', hx', hc⟩ := bindSome hc
      cases hc
      simp only [xop] at h
      split at h
      · rename_i s hv
        cases h
        have e := (ev_rel hT hx' hv).str_inv
        have hsz : (ByteArray.mk s.toArray).size = s.length := by simp [ByteArray.size]
        exact ⟨.int .i64 s.length, by simp [Builtin.len_, run_underlying hd, e, goInt, hsz], by simp [AVRel]⟩
      · cases h
    · obtain ⟨x', hx', hc⟩ := bindSome hc
      cases hc
      simp only [xop] at h
      split at h
      · rename_i hv
        cases h
        have e := ev_rel hT hx' hv
        simp only [AVRel] at e
        exact ⟨.int .i64 0, by simp [Builtin.len_, run_underlying hd, e, goInt], by simp [AVRel]⟩
      · rename_i i o l c hv
        cases h
        have e := ev_rel hT hx' hv
        simp only [AVRel] at e
        obtain ⟨_, _, _, _, e, _⟩ := e
        exact ⟨.int .i64 l, by simp [Builtin.len_, run_underlying hd, e, goInt], by simp [AVRel]⟩
      · rename_i cs l f hv
        cases h
        have e := ev_rel hT hx' hv
        simp only [AVRel] at e
        rcases e with ⟨rfl, _, _, _, e, _⟩ | ⟨_, _, _, _, e, _⟩
        · exact ⟨.int .i64 0, by simp [Builtin.len_, run_underlying hd, e, goInt], by simp [AVRel]⟩
        · exact ⟨.int .i64 l, by simp [Builtin.len_, run_underlying hd, e, goInt], by simp [AVRel]⟩
      · cases h
    · rename_i k e
      cases hc
      simp only [xop, AR.v.injEq] at h
      subst h
      exact ⟨.int .i64 k, by simp [Builtin.len_, run_underlying hd, goInt], by simp [AVRel]⟩
    · rename_i k e
      obtain ⟨x', hx', hc⟩ := bindSome hc
      cases hc
      simp only [xop] at h
      split at h
      · rename_i es hes
        cases h
        obtain ⟨v, hv, hes⟩ := bindSome hes
        rcases ents_sound hR hes (ev_rel hT hx' hv) with ⟨e, rfl⟩ | ⟨bk, rows, clock, e, hb, hE⟩
        · exact ⟨.int .i64 0, by simp [Builtin.len_, run_underlying hd, e, goInt], by simp [AVRel]⟩
        · have hl := hE.length
          rw [Array.length_toList] at hl
          exact ⟨.int .i64 es.length, by simp [Builtin.len_, run_underlying hd, e, goInt, getMap_run hb, hl], by simp [AVRel]⟩
      · cases h
    · rename_i ar
      split at hc
      · rename_i k e hu
        cases hc
        simp only [xop, AR.v.injEq] at h
        subst h
        exact ⟨.int .i64 k, by simp [Builtin.len_, run_underlying hd, run_underlying hu, goInt], by simp [AVRel]⟩
      · cases hc
    · cases hc
  · split at hc
    · simp only [bind] at hc
      obtain ⟨i, hi, hc⟩ := bindSome hc
      obtain ⟨z, hz, hc⟩ := bindSome hc
      split at hc
      · obtain ⟨x', hx', hc⟩ := bindSome hc
        obtain ⟨y', hy', hc⟩ := bindSome hc
        cases hc
        simp only [xop] at h
        split at h
        · exfalso
          unfold appA at h
          repeat' (first | (cases h; done) | split at h)
        · cases h
      · cases hc
    · cases hc
  · simp only [bind] at hc
    obtain ⟨ys, hys, hc⟩ := bindSome hc
    cases hc
    obtain ⟨l, hl, hm⟩ := bindSome (show (evL (St.ev tm) ys).bind minA = some r from ofV_v h)
    simp only [builtin]
    exact tl (mn_sound (by simpa using evL_rel hT hys hl) hm _ _)
  · simp only [bind] at hc
    obtain ⟨ys, hys, hc⟩ := bindSome hc
    cases hc
    obtain ⟨l, hl, hm⟩ := bindSome (show (evL (St.ev tm) ys).bind maxA = some r from ofV_v h)
    simp only [builtin]
    exact tl (mx_sound (by simpa using evL_rel hT hys hl) hm _ _)
  · split at hc
    · simp only [bind] at hc
      obtain ⟨K, hK, hc⟩ := bindSome hc
      obtain ⟨x', hx', hc⟩ := bindSome hc
      obtain ⟨y', hy', hc⟩ := bindSome hc
      cases hc
      simp only [xop] at h
      repeat' (first | (cases h; done) | split at h)
    · cases hc
  · split at hc
    · simp only [bind] at hc
      obtain ⟨i, hi, hc⟩ := bindSome hc
      obtain ⟨x', hx', hc⟩ := bindSome hc
      obtain ⟨y', hy', hc⟩ := bindSome hc
      cases hc
      simp only [xop] at h
      repeat' (first | (cases h; done) | split at h)
    · cases hc
  · cases hc
set_option maxHeartbeats 4000000 in
theorem pr_sound {H : AHeap} (hR : Rel E H w) {tm : Tr AV} {a : Act} (hT : TmR E w tm a.tmps) {o : Oper} {y : XOp} (hc : compOp P o = some y) {n : Nat} {r : AV} (h : xop (St.ev tm) H n y = .v r) :
    ∃ u, (execOp a.eval o).run P w = .ok (.value u) w ∧ AVRel E w r u := by
  obtain ⟨dst, op, type, pos, after, guard⟩ := o
  unfold compOp at hc
  cases op <;> simp only [bind, reduceCtorEq] at hc
  case range t x =>
    split at hc
    · obtain ⟨m, _, hc⟩ := bindSome hc
      cases hc
      simp [xop] at h
    · cases hc
  case next x b =>
    split at hc
    · cases hc
    · obtain ⟨m, _, hc⟩ := bindSome hc
      cases hc
      simp [xop] at h
  case entry x =>
    obtain ⟨m, _, hc⟩ := bindSome hc
    cases hc
    simp [xop] at h
  case move x =>
    obtain ⟨y', hy, hc⟩ := bindSome hc
    cases hc
    exact ⟨_, rfl, ev_rel hT hy (ofV_v h)⟩
  case assign x =>
    obtain ⟨y', hy, hc⟩ := bindSome hc
    cases hc
    exact ⟨_, rfl, ev_rel hT hy (ofV_v h)⟩
  case pick c p q =>
    obtain ⟨c', hc', hc⟩ := bindSome hc
    obtain ⟨p', hp', hc⟩ := bindSome hc
    obtain ⟨q', hq', hc⟩ := bindSome hc
    cases hc
    simp only [xop] at h
    split at h
    · rename_i hb
      have := (ev_rel hT hc' hb).bool_inv
      exact ⟨_, by simp [execOp, this, asBool], ev_rel hT hp' (ofV_v h)⟩
    · rename_i hb
      have := (ev_rel hT hc' hb).bool_inv
      exact ⟨_, by simp [execOp, this, asBool], ev_rel hT hq' (ofV_v h)⟩
    · cases h
  case alloc e =>
    obtain ⟨z, hz, hc⟩ := bindSome hc
    cases hc
    simp [xop] at h
  case box e x =>
    obtain ⟨z, hz, hc⟩ := bindSome hc
    cases hc
    simp only [xop] at h
    split at h <;> cases h
  case build t ps =>
    obtain ⟨z, hz, hc⟩ := bindSome hc
    simp only [execOp]
    refine tail_of_execV ?_
    split at hc
    · rename_i fs hu
      obtain ⟨pl, hpl, hc⟩ := bindSome hc
      obtain ⟨qs, hqs, hc⟩ := bindSome hc
      cases hc
      obtain ⟨l', hl', hr'⟩ := bindSome (show (evParts (St.ev tm) qs).bind (fun l => (fillA z l).map .agg) = some r from ofV_v h)
      simp only [Option.map_eq_some_iff] at hr'
      obtain ⟨r', hr', rfl⟩ := hr'
      refine built_of hT hz hqs hl' hr' (fun i zv hi hzv => ?_)
      simp only [Program.built, hi, hu, hzv, hpl]
    · rename_i n' e hu
      obtain ⟨s, hs, hc⟩ := bindSome hc
      obtain ⟨qs, hqs, hc⟩ := bindSome hc
      cases hc
      obtain ⟨l', hl', hr'⟩ := bindSome (show (evParts (St.ev tm) qs).bind (fun l => (fillA z l).map .agg) = some r from ofV_v h)
      simp only [Option.map_eq_some_iff] at hr'
      obtain ⟨r', hr', rfl⟩ := hr'
      refine built_of hT hz hqs hl' hr' (fun i zv hi hzv => ?_)
      simp only [sizeT, Option.map_eq_some_iff] at hs
      obtain ⟨ie, hie, rfl⟩ := hs
      simp only [Program.built, hi, hu, hzv, hie]
    · cases hc
  case buildSlice t n' ps =>
    split at hc
    · obtain ⟨s, hs, hc⟩ := bindSome hc
      obtain ⟨z, hz, hc⟩ := bindSome hc
      split at hc
      · cases hc
      · obtain ⟨qs, hqs, hc⟩ := bindSome hc
        cases hc
        simp only [xop] at h
        split at h <;> cases h
    · cases hc
  case load t x =>
    obtain ⟨s, hs, hc⟩ := bindSome hc
    obtain ⟨x', hx', hc⟩ := bindSome hc
    cases hc
    obtain ⟨v, hv, hv'⟩ := bindSome (show (St.ev tm x').bind (loadA H s) = some r from ofV_v h)
    simp only [execOp]
    exact tail_of_execV (load_sound hR hs (ev_rel hT hx' hv) hv')
  case store t x v =>
    obtain ⟨s, hs, hc⟩ := bindSome hc
    obtain ⟨x', hx', hc⟩ := bindSome hc
    obtain ⟨v', hv', hc⟩ := bindSome hc
    cases hc
    simp only [xop] at h
    split at h
    · split at h <;> cases h
    · cases h
  case nilCheck x =>
    obtain ⟨x', hx', hc⟩ := bindSome hc
    cases hc
    simp only [xop] at h
    split at h
    · rename_i v hv
      have hrel := ev_rel hT hx' hv
      split at h
      · cases h
        have hr := hrel
        simp only [AVRel] at hrel
        obtain ⟨L, _, e⟩ := hrel
        exact ⟨a.eval x, by simp [execOp, e], hr⟩
      · cases h
        have hr := hrel
        simp only [AVRel] at hrel
        obtain ⟨_, _, _, e, _⟩ := hrel
        exact ⟨a.eval x, by simp [execOp, e], hr⟩
      · cases h
        have hr := hrel
        simp only [AVRel] at hrel
        exact ⟨a.eval x, by simp [execOp, hrel], hr⟩
      · cases h
        have hr := hrel
        simp only [AVRel] at hrel
        obtain ⟨_, e, _⟩ := hrel
        exact ⟨a.eval x, by simp [execOp, e], hr⟩
      · cases h
    · cases h
  case unOp op' t x =>
    obtain ⟨x', hx', hc⟩ := bindSome hc
    cases hc
    obtain ⟨v, hv, hv'⟩ := bindSome (show (St.ev tm x').bind (unA op') = some r from ofV_v h)
    simp only [execOp]
    exact tail_of_execV (un_sound (ev_rel hT hx' hv) hv')
  case makeInterface t x =>
    split at hc
    · cases hc
    · rename_i d hd hu
      obtain ⟨x', hx', hc⟩ := bindSome hc
      cases hc
      simp only [xop] at h
      split at h
      · rename_i v hv
        cases h
        simp only [execOp]
        refine tail_of_execV ⟨.iface t (a.eval x), ?_, ?_⟩
        · unfold Instr.makeInterface
          simp only [Sem.run_bind, run_underlying hu, Result.andThen_ok]
          rfl
        · simp only [AVRel]
          exact ⟨_, rfl, ev_rel hT hx' hv⟩
      · cases h
    · cases hc
  case makeFunc fn first cs =>
    split at hc <;> try (cases hc; done)
    rename_i f
    split at hc
    · rename_i hf
      obtain ⟨ys, hys, hc⟩ := bindSome hc
      cases hc
      simp only [xop] at h
      split at h
      · rename_i l hl
        cases h
        have hf' : first = #[] := by simpa using hf
        subst hf'
        refine ⟨.func (.func f) #[] (cs.map a.eval), by simp [execOp, Instr.makeFunc], ?_⟩
        simp only [AVRel]
        exact ⟨_, rfl, by simpa using evL_rel hT hys hl⟩
      · cases h
    · cases hc
  case makeMap t rs =>
    split at hc
    · cases hc
      simp [xop] at h
    · cases hc
  case makeSlice t l c =>
    split at hc
    · obtain ⟨i, hi, hc⟩ := bindSome hc
      obtain ⟨z, hz, hc⟩ := bindSome hc
      split at hc
      · cases hc
      · obtain ⟨l', hl', hc⟩ := bindSome hc
        obtain ⟨c', hc', hc⟩ := bindSome hc
        cases hc
        simp only [xop, mkSliceA] at h
        split at h
        · split at h
          · split at h <;> cases h
          · cases h
        · cases h
    · cases hc
  case slice t x lo hi mx =>
    split at hc
    · rename_i n' e hu
      obtain ⟨z, hz, hc⟩ := bindSome hc
      obtain ⟨x', hx', hc⟩ := bindSome hc
      obtain ⟨lo', hlo, hc⟩ := bindSome hc
      obtain ⟨hi', hhi, hc⟩ := bindSome hc
      obtain ⟨mx', hmx, hc⟩ := bindSome hc
      cases hc
      obtain ⟨v, hv, hv'⟩ := bindSome (show (St.ev tm x').bind (fun x => acutA (St.ev tm) n' z x lo' hi' mx') = some r from ofV_v h)
      simp only [execOp]
      exact tail_of_execV (acut_sound hT hlo hhi hmx hu hz (ev_rel hT hx' hv) hv')
    · rename_i e hu
      obtain ⟨z, hz, hc⟩ := bindSome hc
      obtain ⟨x', hx', hc⟩ := bindSome hc
      obtain ⟨lo', hlo, hc⟩ := bindSome hc
      obtain ⟨hi', hhi, hc⟩ := bindSome hc
      obtain ⟨mx', hmx, hc⟩ := bindSome hc
      cases hc
      obtain ⟨v, hv, hv'⟩ := bindSome (show (St.ev tm x').bind (fun x => cutA (St.ev tm) z x lo' hi' mx') = some r from ofV_v h)
      simp only [execOp]
      exact tail_of_execV (cut_sound hT hlo hhi hmx hu hz (ev_rel hT hx' hv) hv')
    · rename_i hu
      split at hc
      · rename_i hmn
        obtain ⟨x', hx', hc⟩ := bindSome hc
        obtain ⟨lo', hlo, hc⟩ := bindSome hc
        obtain ⟨hi', hhi, hc⟩ := bindSome hc
        cases hc
        have : mx = none := by simpa using hmn
        subst this
        obtain ⟨v, hv, hv'⟩ := bindSome (show (St.ev tm x').bind (fun x => scutA (St.ev tm) x lo' hi') = some r from ofV_v h)
        simp only [execOp]
        exact tail_of_execV (scut_sound hT hlo hhi hu (ev_rel hT hx' hv) hv')
      · cases hc
    · cases hc
  case fieldAddr t x f =>
    split at hc
    · rename_i fs hu
      obtain ⟨g, hg, hc⟩ := bindSome hc
      obtain ⟨z, hz, hc⟩ := bindSome hc
      split at hc
      · cases hc
      · rename_i hz0
        obtain ⟨x', hx', hc⟩ := bindSome hc
        cases hc
        have hs := size_run (w := w) hz
        simp only [execOp]
        refine tail_of_execV ?_
        simp only [xop] at h
        split at h
        · rename_i i p hv
          cases h
          have hr := ev_rel hT hx' hv
          simp only [AVRel] at hr
          obtain ⟨L, hρ, e⟩ := hr
          refine ⟨.pointer (some ⟨L.b, L.s + p + g.offset, none⟩), ?_, ?_⟩
          · simp [Instr.fieldAt, run_underlying hu, hg, e, Instr.sureAddr, fieldPlace, hs, hz0, add_plain]
          · simp only [AVRel]
            exact ⟨L, hρ, by simp [Nat.add_assoc]⟩
        · rename_i cs p hv
          cases h
          have hr := ev_rel hT hx' hv
          simp only [AVRel] at hr
          obtain ⟨b, s, us, e, hI, hc', hrel⟩ := hr
          refine ⟨.pointer (some ⟨b, s + p + g.offset, none⟩), ?_, ?_⟩
          · simp [Instr.fieldAt, run_underlying hu, hg, e, Instr.sureAddr, fieldPlace, hs, hz0, add_plain]
          · simp only [AVRel]
            exact ⟨b, s, us, by simp [Nat.add_assoc], hI, hc', hrel⟩
        · cases h
    · cases hc
  case field t x f =>
    split at hc
    · rename_i fs hu
      obtain ⟨g, hg, hc⟩ := bindSome hc
      obtain ⟨s, hs, hc⟩ := bindSome hc
      obtain ⟨x', hx', hc⟩ := bindSome hc
      cases hc
      simp only [execOp]
      refine tail_of_execV ?_
      simp only [xop] at h
      split at h
      · rename_i cs hv
        have hr := ev_rel hT hx' hv
        simp only [AVRel] at hr
        obtain ⟨us, e, hrel⟩ := hr
        obtain ⟨q, h1, h2⟩ := part_sound (P := P) hs hrel (ofV_v h)
        exact ⟨q, by simp [Instr.field, run_underlying hu, hg, e, asAgg, h1], h2⟩
      · cases h
    · cases hc
  case indexAddr t x i =>
    split at hc
    · rename_i e hu
      obtain ⟨z, hz, hc⟩ := bindSome hc
      obtain ⟨x', hx', hc⟩ := bindSome hc
      obtain ⟨i', hi', hc⟩ := bindSome hc
      cases hc
      simp only [execOp]
      refine tail_of_execV ?_
      simp only [xop] at h
      split at h
      · rename_i vx vi h1 h2
        exact iaddr_sound hu hz (ev_rel hT hx' h1) (ev_rel hT hi' h2) (ofV_v h)
      · cases h
    · rename_i len e hu
      obtain ⟨z, hz, hc⟩ := bindSome hc
      obtain ⟨x', hx', hc⟩ := bindSome hc
      obtain ⟨i', hi', hc⟩ := bindSome hc
      cases hc
      simp only [execOp]
      refine tail_of_execV ?_
      simp only [xop] at h
      split at h
      · rename_i vx vi h1 h2
        exact aaddr_sound hu hz (ev_rel hT hx' h1) (ev_rel hT hi' h2) (ofV_v h)
      · cases h
    · cases hc
  case index t x i =>
    split at hc
    · rename_i len e hu
      obtain ⟨z, hz, hc⟩ := bindSome hc
      obtain ⟨s, hs, hc⟩ := bindSome hc
      obtain ⟨x', hx', hc⟩ := bindSome hc
      obtain ⟨i', hi', hc⟩ := bindSome hc
      cases hc
      simp only [execOp]
      refine tail_of_execV ?_
      simp only [xop] at h
      split at h
      · rename_i cs k m h1 h2
        split at h
        · rename_i hn
          exact idx_sound hu hz hs rfl rfl (ev_rel hT hx' h1) (ev_rel hT hi' h2) hn (ofV_v h)
        · cases h
      · cases h
    · rename_i hu
      obtain ⟨x', hx', hc⟩ := bindSome hc
      obtain ⟨i', hi', hc⟩ := bindSome hc
      cases hc
      simp only [execOp]
      refine tail_of_execV ?_
      simp only [xop] at h
      split at h
      · rename_i cs k m h1 h2
        split at h
        · rename_i hn
          exact sidx_sound hu (ev_rel hT hx' h1) (ev_rel hT hi' h2) hn (ofV_v h)
        · cases h
      · cases h
    · cases hc
  case lookup t m k ok =>
    split at hc
    · rename_i kt et hu
      obtain ⟨i, hi, hc⟩ := bindSome hc
      obtain ⟨z, hz, hc⟩ := bindSome hc
      obtain ⟨K, hK, hc⟩ := bindSome hc
      obtain ⟨zero, hzero, hc⟩ := bindSome hc
      obtain ⟨m', hm', hc⟩ := bindSome hc
      obtain ⟨k', hk', hc⟩ := bindSome hc
      cases hc
      simp only [execOp]
      refine tail_of_execV ?_
      simp only [xop] at h
      split at h
      · rename_i es l h1 h2
        obtain ⟨mv, hmv, h1⟩ := bindSome h1
        obtain ⟨kv, hkv, h2⟩ := bindSome h2
        exact look_sound hR hu hK hi hz (avOf_rel hzero) (ev_rel hT hm' hmv) (ev_rel hT hk' hkv) h1 h2 h
      · cases h
    · cases hc
  case mapUpdate t m k v =>
    split at hc
    · obtain ⟨K, hK, hc⟩ := bindSome hc
      obtain ⟨m', hm', hc⟩ := bindSome hc
      obtain ⟨k', hk', hc⟩ := bindSome hc
      obtain ⟨v', hv', hc⟩ := bindSome hc
      cases hc
      simp only [xop] at h
      split at h
      · split at h
        · split at h <;> cases h
        · cases h
      · cases h
    · cases hc
  case insert t m k v =>
    split at hc
    · obtain ⟨K, hK, hc⟩ := bindSome hc
      obtain ⟨m', hm', hc⟩ := bindSome hc
      obtain ⟨k', hk', hc⟩ := bindSome hc
      obtain ⟨v', hv', hc⟩ := bindSome hc
      cases hc
      simp only [xop] at h
      split at h
      · split at h
        · split at h <;> cases h
        · cases h
      · cases h
    · cases hc
  case extract x i =>
    obtain ⟨x', hx', hc⟩ := bindSome hc
    cases hc
    simp only [execOp]
    refine tail_of_execV ?_
    simp only [xop] at h
    split at h
    · rename_i l hv
      have hr := ev_rel hT hx' hv
      simp only [AVRel] at hr
      obtain ⟨us, e, hrel⟩ := hr
      obtain ⟨q, h1, h2⟩ := hrel.get (ofV_v h)
      have h1' : us[i]? = some q := by rw [← Array.getElem?_toList]; exact h1
      exact ⟨q, by simp [Instr.extract, e, h1'], h2⟩
    · cases h
  case binOp op' t x z zt =>
    simp only [execOp]
    exact tail_of_execV (bin_op_sound hT hc h)
  case convert s d x =>
    simp only [execOp]
    exact tail_of_execV (conv_sound hR hT hc h)
  case call c =>
    obtain ⟨cal, args, ats⟩ := c
    cases cal <;> simp only at hc
    case value f =>
      obtain ⟨f', hf', hc⟩ := bindSome hc
      obtain ⟨l', hl', hc⟩ := bindSome hc
      cases hc
      simp [xop] at h
    case invoke => cases hc
    case builtin b =>
      obtain ⟨u, h1, h2⟩ := builtin_v_sound hR hT hc h type
      exact ⟨u, by simp [execOp, resolve, invoke, h1], h2⟩
end
end Go.Eng
end
