/- The statement RopeIs over numbers and lists: Is reports whether a string is a folding of a rope, or returns the error that the document names, for all rules and strings. No condition. -/
import Derived.Test.YtfcgofffalmdfaaDoorPAx4
import Derived.Test.YtfcgofffalmdfaaDoorPureMates
set_option linter.unusedSimpArgs false
set_option linter.unusedVariables false
namespace Go.Proofs.YtfcgofffalmdfaaDoor.Pure
open Go Go.Eng Go.RowKit Go.Proofs.YtfcgofffalmdfaaDoor.PA Go.Proofs.YtfcgofffalmdfaaDoorW.PrintWords Go.Proofs.YtfcgofffalmdfaaDoorW.PrintLast Go.Proofs.YtfcgofffalmdfaaDoorW.PrintMore
theorem in_eq (a b c : Int) : woggleref03_in.f a b c = some (decide (b ≤ a ∧ a ≤ c)) := by
  unfold woggleref03_in.f
  split
  · rename_i h; congr 1; rw [decide_eq_decide]; omega
  · rename_i h; congr 1; symm; rw [decide_eq_false_iff_not]; omega
theorem rdT_of {l : List S31} {i : Nat} {x : S31} (h : l[i]? = some x) : rd_T31 l (i : Int) = x := by
  unfold rd_T31
  rw [Int.toNat_natCast, List.getD_eq_getElem?_getD, h]
  rfl
theorem badP_S (p : S31) : badP (fromS p) = true ↔ (p.f0 < 0 ∨ p.f1 < 0 ∨ p.f0 ≥ 4 ∨ p.f1 ≥ 4) := by
  show (decide (p.f0 < 0) || decide (p.f1 < 0) || decide (p.f0 ≥ 4) || decide (p.f1 ≥ 4)) = true ↔ _
  simp only [Bool.or_eq_true, decide_eq_true_eq]
  omega
theorem badP_N (p : S31) : badP (fromS p) = false ↔ ¬ (p.f0 < 0 ∨ p.f1 < 0 ∨ p.f0 ≥ 4 ∨ p.f1 ≥ 4) := by
  rw [← badP_S, Bool.not_eq_true]
/-! ### the rules -/
theorem rules_l1 (s : ByteArray) (hs : s.size ≤ 1000) : ∀ (r : List UInt8) (i k : Nat), s.data.toList.drop i = r → i + r.length = s.size → r.length < k → woggleref03_Rules.l1 k s (i : Int) = some (if r.all inS = true then 0 else 2) := by
  intro r
  induction r with
  | nil =>
    intro i k hr hi hk
    obtain ⟨k, rfl⟩ : ∃ q, k = q + 1 := ⟨k - 1, by omega⟩
    simp only [List.length_nil] at hi
    simp only [woggleref03_Rules.l1]
    rw [if_neg (by omega)]
    rfl
  | cons b r ih =>
    intro i k hr hi hk
    obtain ⟨k, rfl⟩ : ∃ q, k = q + 1 := ⟨k - 1, by omega⟩
    simp only [List.length_cons] at hi hk
    have hbx : s.data.toList[i]? = some b := by
      have : (s.data.toList.drop i)[0]? = some b := by rw [hr]; rfl
      rwa [List.getElem?_drop, Nat.add_zero] at this
    have hr' : s.data.toList.drop (i + 1) = r := by
      have : (s.data.toList.drop i).drop 1 = r := by rw [hr]; rfl
      rwa [List.drop_drop] at this
    have hbt := bt_of hbx
    simp only [woggleref03_Rules.l1]
    rw [if_pos (by omega), if_pos (by omega), hbt]
    by_cases h1 : (b.toNat : Int) < 97
    · rw [if_pos h1]
      have : inS b = false := by simp only [inS, Bool.and_eq_false_iff, decide_eq_false_iff_not]; omega
      simp [this]
    · rw [if_neg h1]
      by_cases h2 : (b.toNat : Int) > 100
      · rw [if_pos h2]
        have : inS b = false := by simp only [inS, Bool.and_eq_false_iff, decide_eq_false_iff_not]; omega
        simp [this]
      · rw [if_neg h2, wr i (by omega), ih (i + 1) k hr' (by omega) (by omega)]
        have : inS b = true := by simp only [inS, Bool.and_eq_true, decide_eq_true_eq]; omega
        simp [this]
theorem rules_l0 (s : ByteArray) (hs : s.size ≤ 1000) (l : List S31) (hl : l.length ≤ 1000) (gap : Int) : ∀ (r : List S31) (i k : Nat), l.drop i = r → i + r.length = l.length → r.length + s.size + 1 < k →
    woggleref03_Rules.l0 k s l gap (i : Int) = some (if (r.map fromS).any badP = true then 1 else if gap < 0 ∨ gap > 5 then 1 else if s.data.toList.all inS = true then 0 else 2) := by
  intro r
  induction r with
  | nil =>
    intro i k hr hi hk
    obtain ⟨k, rfl⟩ : ∃ q, k = q + 1 := ⟨k - 1, by omega⟩
    simp only [List.length_nil] at hi hk
    simp only [woggleref03_Rules.l0]
    rw [if_neg (by omega), in_eq]
    simp only [Option.bind_some, List.map_nil, List.any_nil, Bool.false_eq_true, if_false, decide_eq_true_eq]
    by_cases hg : gap < 0 ∨ gap > 5
    · rw [if_pos hg, if_neg (by omega)]
    · rw [if_neg hg, if_pos (by omega)]
      have hlen : s.data.toList.length = s.size := by simp
      exact rules_l1 s hs s.data.toList 0 k rfl (by omega) (by omega)
  | cons p r ih =>
    intro i k hr hi hk
    obtain ⟨k, rfl⟩ : ∃ q, k = q + 1 := ⟨k - 1, by omega⟩
    simp only [List.length_cons] at hi hk
    have hp : l[i]? = some p := by
      have : (l.drop i)[0]? = some p := by rw [hr]; rfl
      rwa [List.getElem?_drop, Nat.add_zero] at this
    have hr' : l.drop (i + 1) = r := by
      have : (l.drop i).drop 1 = r := by rw [hr]; rfl
      rwa [List.drop_drop] at this
    simp only [woggleref03_Rules.l0]
    rw [if_pos (by omega), if_pos (by omega), rdT_of hp, in_eq, in_eq]
    simp only [Option.bind_some, decide_eq_true_eq, List.map_cons, List.any_cons]
    by_cases ha : 0 ≤ p.f0 ∧ p.f0 ≤ 3
    · rw [if_pos ha]
      by_cases hb : 0 ≤ p.f1 ∧ p.f1 ≤ 3
      · rw [if_pos hb, wr i (by omega), ih (i + 1) k hr' (by omega) (by omega)]
        have : badP (fromS p) = false := (badP_N p).2 (by omega)
        simp only [this, Bool.false_or]
      · rw [if_neg hb]
        have : badP (fromS p) = true := (badP_S p).2 (by omega)
        simp only [this, Bool.true_or, if_true]
    · rw [if_neg ha]
      have : badP (fromS p) = true := (badP_S p).2 (by omega)
      simp only [this, Bool.true_or, if_true]
theorem rules_f (s : ByteArray) (hs : s.size ≤ 1000) (l : List S31) (hl : l.length ≤ 1000) (gap : Int) (k : Nat) (hk : 3000 ≤ k) : woggleref03_Rules.f k s l gap = some (readE s.data.toList (l.map fromS) gap) := by
  obtain ⟨k, rfl⟩ : ∃ q, k = q + 1 := ⟨k - 1, by omega⟩
  have hlen : s.data.toList.length = s.size := by simp
  unfold woggleref03_Rules.f readE
  rw [hlen, List.length_map]
  by_cases h1 : (s.size : Int) > 40
  · rw [if_pos h1, if_pos (.inl (by omega))]
    simp only [woggleref03_Rules.j0, if_true]
  · rw [if_neg h1]
    by_cases h2 : (l.length : Int) > 16
    · rw [if_pos (.inr (by omega))]
      simp only [woggleref03_Rules.j0, h2, decide_true, if_true]
    · rw [if_neg (by omega)]
      simp only [woggleref03_Rules.j0, h2, decide_false, Bool.false_eq_true, if_false]
      exact rules_l0 s hs l hl gap l 0 k rfl (by omega) (by omega)
/-! ### may -/
/-- Does a pair of letters' numbers say that two letters may be paired? -/
def hit (x y : Nat) (p : Int × Int) : Bool := (p.1 == (x : Int) && p.2 == (y : Int)) || (p.1 == (y : Int) && p.2 == (x : Int))
theorem rules_hit : ∀ (l : List (Int × Int)) (rl : List Bool) (x y : Nat), rl.length = 16 → x < 4 → y < 4 → l.any badP = false →
    (l.foldl (fun rl p => (rl.set (p.1.toNat * 4 + p.2.toNat) true).set (p.2.toNat * 4 + p.1.toNat) true) rl).getD (x * 4 + y) false = (rl.getD (x * 4 + y) false || l.any (hit x y))
  | [], rl, x, y, h, hx, hy, hb => by simp
  | p :: l, rl, x, y, h, hx, hy, hb => by
    simp only [List.any_cons, Bool.or_eq_false_iff] at hb
    rw [List.foldl_cons, rules_hit l _ x y (by simp [h]) hx hy hb.2, List.any_cons, ← Bool.or_assoc]
    congr 1
    obtain ⟨p1, p2⟩ := p
    have hb1 := hb.1
    simp only [badP, Bool.or_eq_false_iff, decide_eq_false_iff_not] at hb1
    obtain ⟨a, rfl⟩ : ∃ a : Nat, p1 = a := ⟨p1.toNat, by omega⟩
    obtain ⟨b, rfl⟩ : ∃ b : Nat, p2 = b := ⟨p2.toNat, by omega⟩
    simp only [Int.toNat_natCast, List.getD_eq_getElem?_getD]
    have hlt : x * 4 + y < rl.length := by omega
    by_cases e1 : b * 4 + a = x * 4 + y
    · have e : b = x ∧ a = y := by omega
      rw [e1, List.getElem?_set_self (by simp; omega)]
      obtain ⟨rfl, rfl⟩ := e
      simp [hit]
    · rw [List.getElem?_set_ne e1]
      by_cases e2 : a * 4 + b = x * 4 + y
      · have e : a = x ∧ b = y := by omega
        rw [e2, List.getElem?_set_self hlt]
        obtain ⟨rfl, rfl⟩ := e
        simp [hit]
      · rw [List.getElem?_set_ne e2]
        have : hit x y ((a : Int), (b : Int)) = false := by
          simp only [hit, Bool.or_eq_false_iff, Bool.and_eq_false_iff, beq_eq_false_iff_ne]
          constructor <;> omega
        rw [this, Bool.or_false]
theorem may_l0 (s : ByteArray) (l : List S31) (hl : l.length ≤ 1000) (hbad : (l.map fromS).any badP = false) (gap : Int) {i j : Nat} {a b : UInt8} (ha : s.data.toList[i]? = some a) (hb : s.data.toList[j]? = some b) (has : inS a = true) (hbs : inS b = true) (hs : s.size ≤ 1000) :
    ∀ (r : List S31) (n k : Nat), l.drop n = r → n + r.length = l.length → r.length < k → woggleref03_May.l0 k s l gap (i : Int) (j : Int) (n : Int) = some (decide ((j : Int) - (i : Int) > gap) && (r.map fromS).any (hit (a.toNat - 97) (b.toNat - 97))) := by
  have hlen : s.data.toList.length = s.size := by simp
  have hi : i < s.size := by
    rcases Nat.lt_or_ge i s.data.toList.length with q | q
    · omega
    · rw [List.getElem?_eq_none q] at ha; cases ha
  have hj : j < s.size := by
    rcases Nat.lt_or_ge j s.data.toList.length with q | q
    · omega
    · rw [List.getElem?_eq_none q] at hb; cases hb
  have hba := bt_of ha
  have hbb := bt_of hb
  simp only [inS, Bool.and_eq_true, decide_eq_true_eq] at has hbs
  have hw : wrap64 ((j : Int) - (i : Int)) = (j : Int) - (i : Int) := by unfold wrap64; omega
  intro r
  induction r with
  | nil =>
    intro n k hr hn hk
    obtain ⟨k, rfl⟩ : ∃ q, k = q + 1 := ⟨k - 1, by omega⟩
    simp only [List.length_nil] at hn
    simp only [woggleref03_May.l0]
    rw [if_neg (by omega)]
    simp
  | cons p r ih =>
    intro n k hr hn hk
    obtain ⟨k, rfl⟩ : ∃ q, k = q + 1 := ⟨k - 1, by omega⟩
    simp only [List.length_cons] at hn hk
    have hp : l[n]? = some p := by
      have : (l.drop n)[0]? = some p := by rw [hr]; rfl
      rwa [List.getElem?_drop, Nat.add_zero] at this
    have hr' : l.drop (n + 1) = r := by
      have : (l.drop n).drop 1 = r := by rw [hr]; rfl
      rwa [List.drop_drop] at this
    have hpb : badP (fromS p) = false := by
      rw [List.any_eq_false] at hbad
      have := hbad (fromS p) (List.mem_map.2 ⟨p, List.mem_of_getElem? hp, rfl⟩)
      simpa using this
    have hpb2 : 0 ≤ p.f0 ∧ p.f0 < 4 ∧ 0 ≤ p.f1 ∧ p.f1 < 4 := by
      have := (badP_N p).1 hpb
      omega
    clear hpb
    have w0 : wrap64 (97 + p.f0) % 256 = 97 + p.f0 := by unfold wrap64; omega
    have w1 : wrap64 (97 + p.f1) % 256 = 97 + p.f1 := by unfold wrap64; omega
    have ihn := ih (n + 1) k hr' (by omega) (by omega)
    simp only [woggleref03_May.l0]
    rw [if_pos (by omega), if_pos (by omega), if_pos (by omega), if_pos (by omega), rdT_of hp, w0, w1, hba, hbb, hw, wr n (by omega), ihn]
    have ej : (0 ≤ (j : Int)) = True := eq_true (by omega)
    have es : ((j : Int) < (s.size : Int)) = True := eq_true (by omega)
    rw [List.map_cons, List.any_cons]
    have hh : hit (a.toNat - 97) (b.toNat - 97) (fromS p) = ((decide (97 + p.f0 = (a.toNat : Int)) && decide (97 + p.f1 = (b.toNat : Int))) || (decide (97 + p.f0 = (b.toNat : Int)) && decide (97 + p.f1 = (a.toNat : Int)))) := by
      show ((p.f0 == ((a.toNat - 97 : Nat) : Int) && p.f1 == ((b.toNat - 97 : Nat) : Int)) || (p.f0 == ((b.toNat - 97 : Nat) : Int) && p.f1 == ((a.toNat - 97 : Nat) : Int))) = _
      rw [Bool.eq_iff_iff]
      simp only [Bool.or_eq_true, Bool.and_eq_true, beq_iff_eq, decide_eq_true_eq]
      omega
    rw [hh]
    rcases Classical.propComplete (97 + p.f0 = (a.toNat : Int)) with q1 | q1 <;> rcases Classical.propComplete (97 + p.f1 = (b.toNat : Int)) with q2 | q2 <;> rcases Classical.propComplete (97 + p.f0 = (b.toNat : Int)) with q3 | q3 <;>
      rcases Classical.propComplete (97 + p.f1 = (a.toNat : Int)) with q4 | q4 <;> rcases Classical.propComplete ((j : Int) - (i : Int) > gap) with q5 | q5 <;>
      simp only [q1, q2, q3, q4, q5, ej, es, if_true, if_false, decide_true, decide_false, Bool.and_true, Bool.true_and, Bool.and_false, Bool.false_and, Bool.or_true, Bool.true_or, Bool.or_false, Bool.false_or, Bool.and_self, Bool.or_self]
theorem may_f (s : ByteArray) (l : List S31) (hl : l.length ≤ 1000) (gap : Int) (hE : readE s.data.toList (l.map fromS) gap = 0) {i j : Nat} (hi : i < s.size) (hj : j < s.size) (hs : s.size ≤ 1000) (k : Nat) (hk : 1001 < k) :
    woggleref03_May.f k s l gap (i : Int) (j : Int) = some (mayF s.data.toList (rulesOf (l.map fromS)) gap i j) := by
  have hlen : s.data.toList.length = s.size := by simp
  obtain ⟨a, ha⟩ : ∃ a, s.data.toList[i]? = some a := ⟨_, List.getElem?_eq_getElem (by omega)⟩
  obtain ⟨b, hb⟩ : ∃ b, s.data.toList[j]? = some b := ⟨_, List.getElem?_eq_getElem (by omega)⟩
  have hE2 : (l.map fromS).any badP = false ∧ s.data.toList.all inS = true := by
    unfold readE at hE
    split at hE
    · omega
    · split at hE
      · omega
      · rename_i h1
        split at hE
        · omega
        · split at hE
          · rename_i h2; exact ⟨by simpa using h1, h2⟩
          · omega
  have has : inS a = true := List.all_eq_true.1 hE2.2 a (List.mem_of_getElem? ha)
  have hbs : inS b = true := List.all_eq_true.1 hE2.2 b (List.mem_of_getElem? hb)
  unfold woggleref03_May.f
  have := may_l0 s l hl hE2.1 gap ha hb has hbs hs l 0 k rfl (by omega) (by omega)
  rw [show ((0 : Nat) : Int) = 0 from rfl] at this
  rw [this]
  congr 1
  simp only [mayF, List.getD_eq_getElem?_getD, ha, hb, Option.getD_some, ruleOf]
  congr 1
  simp only [inS, Bool.and_eq_true, decide_eq_true_eq] at has hbs
  have h3 := rules_hit (l.map fromS) (List.replicate 16 false) (a.toNat - 97) (b.toNat - 97) rfl (by omega) (by omega) hE2.1
  rw [List.getD_eq_getElem?_getD] at h3
  unfold rulesOf
  rw [h3]
  have : (List.replicate 16 false).getD ((a.toNat - 97) * 4 + (b.toNat - 97)) false = false := by
    rw [List.getD_eq_getElem?_getD, List.getElem?_replicate]
    split <;> rfl
  rw [this, Bool.false_or]
/-! ### is -/
theorem is_l0 (s : ByteArray) (l : List S31) (hl : l.length ≤ 1000) (gap : Int) (hE : readE s.data.toList (l.map fromS) gap = 0) {m : List Int} {outF : List (Nat × Nat)} {n : Nat} (hn : n ≤ 1000) (hm : m.length = n) (hM : MP outF m) (hF : SInv n [] outF) (hsn : s.size = n) :
    ∀ (d i k : Nat), i + d = n → d + 1002 < k → woggleref03_Is.l0 k s l gap m (i : Int) = some (((List.range' i d).filter fun (k : Nat) => decide ((k : Int) < rd m (k : Int))).all fun x => mayF s.data.toList (rulesOf (l.map fromS)) gap x (rd m (x : Int)).toNat) := by
  intro d
  induction d with
  | zero =>
    intro i k hi hk
    obtain ⟨k, rfl⟩ : ∃ q, k = q + 1 := ⟨k - 1, by omega⟩
    simp only [woggleref03_Is.l0]
    rw [if_neg (by omega)]
    rfl
  | succ d ih =>
    intro i k hi hk
    obtain ⟨k, rfl⟩ : ∃ q, k = q + 1 := ⟨k - 1, by omega⟩
    have ihn := ih (i + 1) k (by omega) (by omega)
    simp only [woggleref03_Is.l0]
    rw [if_pos (by omega), if_pos (by omega), wr i (by omega), ihn, List.range'_succ]
    by_cases h : rd m (i : Int) > (i : Int)
    · rw [if_pos h]
      have hlt : (i : Int) < rd m (i : Int) := h
      rw [List.filter_cons, if_pos (by simpa using hlt), List.all_cons]
      -- the partner lies in the string
      obtain ⟨v, hv⟩ : ∃ v, m[i]? = some v := ⟨_, List.getElem?_eq_getElem (by omega)⟩
      have hrd := rd_of hv
      have hMi := hM i (by omega)
      rw [hv] at hMi
      obtain ⟨j, hj, hjv⟩ : ∃ j : Nat, j < n ∧ v = j := by
        rcases hMi with ⟨j, q1, q2⟩ | ⟨a, q1, q2⟩ | ⟨q1, q2⟩
        · exact ⟨j, hF.outl j (mem_comps.2 ⟨_, q1, .inr rfl⟩), by cases q2; rfl⟩
        · exact ⟨a, hF.outl a (mem_comps.2 ⟨_, q1, .inl rfl⟩), by cases q2; rfl⟩
        · rw [hrd] at hlt; cases q2; omega
      rw [hrd, hjv, Int.toNat_natCast, may_f s l hl gap hE (by omega) (by omega) (by omega) k (by omega)]
      simp only [Option.bind_some]
      cases mayF s.data.toList (rulesOf (l.map fromS)) gap i j with
      | true => simp
      | false => simp
    · rw [if_neg h, List.filter_cons, if_neg (by simpa using h)]
theorem is_f (s f : ByteArray) (l : List S31) (hl : l.length ≤ 1000) (gap : Int) (hE : readE s.data.toList (l.map fromS) gap = 0) (hs : s.size ≤ 1000) (hf : f.size ≤ 1000) (k : Nat) (hk : 3000 ≤ k) :
    woggleref03_Is.f k s l gap f = some (isF s.data.toList (rulesOf (l.map fromS)) gap f.data.toList) := by
  have hlen : f.data.toList.length = f.size := by simp
  have hlens : s.data.toList.length = s.size := by simp
  have hmates := mates_l0 f hf f.data.toList 0 [] [] 0 [] k rfl (by omega) SInv.start (Nat.le_refl _) rfl (fun k hk => by cases hk) (by omega)
  have hc : castL [] = ([] : List Int) := rfl
  rw [hc, show ((0 : Nat) : Int) = 0 from rfl] at hmates
  unfold woggleref03_Is.f woggleref03_Mates.f isF
  obtain ⟨k, rfl⟩ : ∃ q, k = q + 1 := ⟨k - 1, by omega⟩
  cases hsc : scanL f.data.toList 0 [] [] 0 with
  | none =>
    rw [hsc] at hmates
    obtain ⟨m', hm'⟩ := hmates
    rw [hm']
    simp only [Option.bind_some, Bool.false_eq_true, if_false, woggleref03_Is.j0, if_true]
  | some x =>
    obtain ⟨op, outF, dF⟩ := x
    rw [hsc] at hmates
    obtain ⟨m', hm', hml, hM⟩ := hmates
    rw [hm']
    cases op with
    | cons a op =>
      have : ((a :: op).length == 0) = false := rfl
      simp only [Option.bind_some, this, Bool.false_eq_true, if_false, woggleref03_Is.j0, if_true]
    | nil =>
      have hf2 := scan_facts _ _ _ _ _ _ _ _ hsc SInv.start
      have hF : SInv f.size [] outF := by have := hf2.1; rw [Nat.zero_add, hlen] at this; exact this
      simp only [Option.bind_some, List.length_nil, beq_self_eq_true, if_true, woggleref03_Is.j0]
      by_cases he : f.size = s.size
      · have c : ((f.size : Int) != (s.size : Int)) = false := by rw [bne_eq_false_iff_eq]; omega
        rw [c]
        simp only [Bool.false_eq_true, if_false]
        rw [show (0 : Int) = ((0 : Nat) : Int) from rfl, is_l0 s l hl gap hE (n := f.size) hf hml hM hF he.symm f.size 0 k (by omega) (by omega)]
        congr 1
        have hd : decide (f.data.toList.length = s.data.toList.length) = true := by rw [decide_eq_true_eq]; omega
        rw [hd, Bool.true_and, ← want_sorted hml hM hF]
        simp only [wantP, List.any_map, List.range_eq_range']
        rw [List.not_any_eq_all_not]
        simp only [Function.comp_def, Int.toNat_natCast, Bool.not_not]
      · have c : ((f.size : Int) != (s.size : Int)) = true := by rw [bne_iff_ne]; omega
        rw [c]
        simp only [if_true]
        have hd : decide (f.data.toList.length = s.data.toList.length) = false := by rw [decide_eq_false_iff_not]; omega
        rw [hd, Bool.false_and]
/-- The statement. -/
theorem RopeIs (l0 : List S31) (gap : Int) (a1 a2 : ByteArray) : ∃ k, wogglelaw03_RopeIs.f k l0 gap a1 a2 = some true := by
  refine ⟨3000, ?_⟩
  have hm1 : 0 ≤ mn (l0.length : Int) 17 ∧ mn (l0.length : Int) 17 ≤ (l0.length : Int) ∧ mn (l0.length : Int) 17 ≤ 17 := by unfold mn; split <;> omega
  have hm2 : 0 ≤ mn (a2.size : Int) 45 ∧ mn (a2.size : Int) 45 ≤ (a2.size : Int) ∧ mn (a2.size : Int) 45 ≤ 45 := by unfold mn; split <;> omega
  have hfew : ∃ l, l.length ≤ 17 ∧ wogglelaw03_Rules_few.f l0 gap = some (l, gap) := by
    refine ⟨[] ++ l0.take (mn (l0.length : Int) 17).toNat, by simp; omega, ?_⟩
    unfold wogglelaw03_Rules_few.f
    simp only [Option.bind_some]
    rw [if_pos hm1.1, if_pos hm1.2.1]
    rw [if_pos (by simp; omega)]
  have hcut : ∃ s : ByteArray, s.size ≤ 41 ∧ wogglelaw03_cut.f a1 40 = some s := by
    unfold wogglelaw03_cut.f
    have hm3 : 0 ≤ mn (a1.size : Int) 41 ∧ mn (a1.size : Int) 41 ≤ (a1.size : Int) ∧ mn (a1.size : Int) 41 ≤ 41 := by unfold mn; split <;> omega
    have hm4 : 0 ≤ mn (a1.size : Int) 40 ∧ mn (a1.size : Int) 40 ≤ (a1.size : Int) ∧ mn (a1.size : Int) 40 ≤ 40 := by unfold mn; split <;> omega
    split
    · rw [if_pos hm3.1, if_pos hm3.2.1]
      exact ⟨_, by rw [ByteArray.size_extract]; omega, rfl⟩
    · rw [if_pos hm4.1, if_pos hm4.2.1]
      exact ⟨_, by rw [ByteArray.size_extract]; omega, rfl⟩
  obtain ⟨l, hl, hfe⟩ := hfew
  obtain ⟨s, hs, hcu⟩ := hcut
  unfold wogglelaw03_RopeIs.f
  rw [hfe, hcu]
  simp only [Option.bind_some]
  rw [if_pos hm2.1, if_pos hm2.2.1]
  generalize hfd : a2.extract 0 (mn (a2.size : Int) 45).toNat = f
  have hfs : f.size ≤ 45 := by rw [← hfd, ByteArray.size_extract]; omega
  have hflen : f.data.toList.length = f.size := by simp
  have hisf : rope_Is.f s l gap f = some (IsV s.data.toList (l.map fromS) gap f.data.toList) := by
    unfold rope_Is.f
    rw [if_pos (by omega)]
  rw [hisf, rules_f s (by omega) l (by omega) gap 3000 (by omega)]
  simp only [Option.bind_some]
  by_cases hE : readE s.data.toList (l.map fromS) gap = 0
  · rw [if_pos hE, is_f s f l (by omega) gap hE (by omega) (by omega) 3000 (by omega)]
    have hI : IsV s.data.toList (l.map fromS) gap f.data.toList = (isF s.data.toList (rulesOf (l.map fromS)) gap f.data.toList, 0) := by unfold IsV; rw [if_pos hE]
    rw [hI]
    simp [wogglelaw03_lives.f]
  · rw [if_neg hE]
    have hI : IsV s.data.toList (l.map fromS) gap f.data.toList = (false, readE s.data.toList (l.map fromS) gap) := by unfold IsV; rw [if_neg hE]
    rw [hI]
    simp [wogglelaw03_lives.f]
end Go.Proofs.YtfcgofffalmdfaaDoor.Pure
