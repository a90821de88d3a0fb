/- Plain law of a cut: the last place with at most so many bytes before it, or else the first one; both ways to find it agree. No program in sight. -/
import Derived.Test.YtfnmcpgngnlodaaDoorWrapsA
namespace Go.Proofs.YtfnmcpgngnlodaaDoor.Wraps
set_option linter.unusedSimpArgs false

def best (c : Nat → Bool) (w : Int) : Nat → Int
  | 0 => -1
  | i + 1 => if c i = true ∧ (best c w i < 0 ∨ (i : Int) ≤ w) then (i : Int) else best c w i
def fst (c : Nat → Bool) : Nat → Int
  | 0 => -1
  | i + 1 => if c i = true ∧ fst c i < 0 then (i : Int) else fst c i
def lst (c : Nat → Bool) (w : Int) : Nat → Int
  | 0 => -1
  | i + 1 => if c i = true ∧ (i : Int) ≤ w then (i : Int) else lst c w i
theorem best_bound (c : Nat → Bool) (w : Int) (i : Nat) : -1 ≤ best c w i ∧ best c w i < i ∧ (0 ≤ best c w i → c (best c w i).toNat = true) := by
  induction i with
  | zero => simp [best]
  | succ i ih =>
    unfold best
    split
    · rename_i h
      exact ⟨by omega, by omega, fun _ => by simpa using h.1⟩
    · exact ⟨ih.1, by omega, ih.2.2⟩
theorem fst_bound (c : Nat → Bool) (i : Nat) : -1 ≤ fst c i ∧ fst c i < i := by
  induction i with
  | zero => simp [fst]
  | succ i ih => unfold fst; split <;> omega
theorem lst_bound (c : Nat → Bool) (w : Int) (i : Nat) : -1 ≤ lst c w i ∧ lst c w i < i := by
  induction i with
  | zero => simp [lst]
  | succ i ih => unfold lst; split <;> omega
theorem best_eq (c : Nat → Bool) (w : Int) (i : Nat) : best c w i = (if 0 ≤ lst c w i then lst c w i else fst c i) ∧ (fst c i < 0 → lst c w i < 0) ∧ (0 ≤ fst c i → lst c w i < 0 → w < i) := by
  induction i with
  | zero => simp [best, fst, lst]
  | succ i ih =>
    obtain ⟨h1, h2, h3⟩ := ih
    have hb := best_bound c w i
    have hf := fst_bound c i
    have hl := lst_bound c w i
    unfold best fst lst
    by_cases hc : c i = true
    · simp only [hc, true_and]
      by_cases hw : (i : Int) ≤ w
      · by_cases hfi : fst c i < 0
        · simp only [hw, hfi, or_true, if_true]
          refine ⟨by rw [if_pos (by omega)], by omega, by omega⟩
        · simp only [hw, or_true, if_true, if_neg hfi]
          refine ⟨by rw [if_pos (by omega)], by omega, by omega⟩
      · by_cases hfi : fst c i < 0
        · have := h2 hfi
          rw [if_neg (by omega)] at h1
          simp only [hw, hfi, if_true, if_false, or_false]
          rw [if_pos (by omega), if_neg (by omega)]
          exact ⟨rfl, by omega, by omega⟩
        · simp only [hw, if_neg hfi, if_false, or_false]
          by_cases hli : 0 ≤ lst c w i
          · rw [if_pos hli] at h1 ⊢
            rw [if_neg (by omega)]
            exact ⟨h1, by omega, by omega⟩
          · rw [if_neg hli] at h1 ⊢
            rw [if_neg (by omega)]
            exact ⟨h1, by omega, by omega⟩
    · simp only [hc, false_and, if_false, Bool.false_eq_true]
      exact ⟨h1, h2, fun h h' => by have := h3 h h'; omega⟩
theorem best_congr (c d : Nat → Bool) (w : Int) (i : Nat) (h : ∀ j, j < i → c j = d j) : best c w i = best d w i := by
  induction i with
  | zero => rfl
  | succ i ih => unfold best; rw [ih (fun j hj => h j (by omega)), h i (by omega)]
theorem fst_congr (c d : Nat → Bool) (i : Nat) (h : ∀ j, j < i → c j = d j) : fst c i = fst d i := by
  induction i with
  | zero => rfl
  | succ i ih => unfold fst; rw [ih (fun j hj => h j (by omega)), h i (by omega)]
theorem lst_congr (c d : Nat → Bool) (w : Int) (i : Nat) (h : ∀ j, j < i → c j = d j) : lst c w i = lst d w i := by
  induction i with
  | zero => rfl
  | succ i ih => unfold lst; rw [ih (fun j hj => h j (by omega)), h i (by omega)]
/-- Nothing below the first candidate, nothing above the last one. -/
theorem best_low (c : Nat → Bool) (w : Int) (i : Nat) (h : ∀ j, j < i → c j = false) : best c w i = -1 := by
  induction i with
  | zero => rfl
  | succ i ih => unfold best; rw [ih (fun j hj => h j (by omega)), h i (by omega)]; simp
theorem best_high (c : Nat → Bool) (w : Int) (a n : Nat) (h : ∀ j, a ≤ j → j < n → c j = false) (ha : a ≤ n) : best c w n = best c w a := by
  induction n with
  | zero => rw [show a = 0 by omega]
  | succ n ih =>
    by_cases e : a = n + 1
    · rw [e]
    · have hs : best c w (n + 1) = if c n = true ∧ (best c w n < 0 ∨ (n : Int) ≤ w) then (n : Int) else best c w n := rfl
      rw [hs, h n (by omega) (by omega)]
      simp only [Bool.false_eq_true, false_and, if_false]
      exact ih (fun j h1 h2 => h j h1 (by omega)) (by omega)

/-! ### Bytes -/
def byt (s : ByteArray) (i : Nat) : UInt8 := s.data.toList.getD i 0
def isBk (b : UInt8) : Bool := [32, 9].contains b
def firstNB (s : ByteArray) : Nat := s.size - (Lib.trimLeftS s.data.toList [32, 9]).length
def lastNB (s : ByteArray) : Nat := (Lib.trimRightS s.data.toList [32, 9]).length
def cand1 (s : ByteArray) (i : Nat) : Bool := byt s i == 32 && decide (firstNB s ≤ i) && decide (i < lastNB s)
def cand2 (s : ByteArray) (i : Nat) : Bool := byt s i == 32 && !empt (s.extract 0 i) && !empt (s.extract (i + 1) s.size)
/-- Where a line is cut. -/
def cutAt (s : ByteArray) (w : Int) : Int := best (cand1 s) w s.size

theorem dw_nil {p : UInt8 → Bool} {l : List UInt8} : l.dropWhile p = [] ↔ ∀ x ∈ l, p x = true := by
  induction l with
  | nil => simp
  | cons a l ih =>
    by_cases h : p a = true
    · simp [List.dropWhile_cons, h, ih]
    · simp [List.dropWhile_cons, h]
theorem dw_all {p : UInt8 → Bool} {l : List UInt8} (h : ∀ x ∈ l.dropWhile p, p x = true) : ∀ x ∈ l, p x = true := by
  induction l with
  | nil => simp
  | cons a l ih =>
    by_cases ha : p a = true
    · simp only [List.dropWhile_cons, ha, if_true] at h
      intro x hx
      rcases List.mem_cons.1 hx with rfl | hx
      · exact ha
      · exact ih h x hx
    · simp only [List.dropWhile_cons, ha, if_false, Bool.false_eq_true] at h
      exact absurd (h a (by simp)) ha
theorem dw_at {p : UInt8 → Bool} (l : List UInt8) : (l.dropWhile p).length ≤ l.length ∧ (∀ j, j < l.length - (l.dropWhile p).length → p (l.getD j 0) = true) ∧ (0 < (l.dropWhile p).length → p (l.getD (l.length - (l.dropWhile p).length) 0) = false) := by
  induction l with
  | nil => simp
  | cons a l ih =>
    obtain ⟨h1, h2, h3⟩ := ih
    by_cases ha : p a = true
    · simp only [List.dropWhile_cons, ha, if_true, List.length_cons]
      refine ⟨by omega, fun j hj => ?_, fun h0 => ?_⟩
      · cases j with
        | zero => simpa using ha
        | succ j => simpa using h2 j (by omega)
      · have := h3 h0
        rw [show l.length + 1 - (l.dropWhile p).length = (l.length - (l.dropWhile p).length) + 1 by omega]
        simpa using this
    · simp only [List.dropWhile_cons, ha, if_false, Bool.false_eq_true, List.length_cons, Nat.sub_self]
      refine ⟨Nat.le_refl _, fun j hj => absurd hj (Nat.not_lt_zero j), fun _ => by simpa using ha⟩

theorem empt_iff (s : ByteArray) : empt s = true ↔ ∀ b ∈ s.data.toList, isBk b = true := by
  unfold empt tr
  rw [decide_eq_true_iff]
  have e : (∀ l : List UInt8, ((⟨l.toArray⟩ : ByteArray) = ⟨#[]⟩) ↔ l = []) := by
    intro l
    constructor
    · intro h
      have := congrArg (fun x : ByteArray => x.data.toList) h
      simpa using this
    · intro h; rw [h]
  rw [e]
  unfold Lib.trimS Lib.trimLeftS Lib.trimRightS
  rw [dw_nil]
  constructor
  · intro h b hb
    exact dw_all (p := fun x => ([32, 9] : List UInt8).contains x) (l := s.data.toList.reverse) (fun x hx => h x (by simpa using hx)) b (by simpa using hb)
  · intro h b hb
    have hm : b ∈ s.data.toList.reverse := (List.dropWhile_sublist _).mem (by simpa using hb)
    exact h b (by simpa using hm)

theorem len_data (s : ByteArray) : s.data.toList.length = s.size := Array.length_toList
theorem first_at (s : ByteArray) : firstNB s ≤ s.size ∧ (∀ j, j < firstNB s → isBk (byt s j) = true) ∧ (firstNB s < s.size → isBk (byt s (firstNB s)) = false) := by
  obtain ⟨h1, h2, h3⟩ := dw_at (p := fun x => ([32, 9] : List UInt8).contains x) s.data.toList
  rw [len_data] at h1 h2 h3
  refine ⟨Nat.sub_le _ _, h2, fun h => h3 ?_⟩
  unfold firstNB Lib.trimLeftS at h
  omega
theorem getD_of {l : List UInt8} {i : Nat} (h : i < l.length) : l.getD i 0 = l[i] := by simp [List.getD, List.getElem?_eq_getElem h]
theorem getD_rev (l : List UInt8) (j : Nat) (h : j < l.length) : l.reverse.getD j 0 = l.getD (l.length - 1 - j) 0 := by
  rw [getD_of (by rw [List.length_reverse]; exact h), getD_of (by omega), List.getElem_reverse]
theorem last_at (s : ByteArray) : lastNB s ≤ s.size ∧ (∀ j, lastNB s ≤ j → j < s.size → isBk (byt s j) = true) ∧ (0 < lastNB s → isBk (byt s (lastNB s - 1)) = false) := by
  obtain ⟨h1, h2, h3⟩ := dw_at (p := fun x => ([32, 9] : List UInt8).contains x) s.data.toList.reverse
  have e : lastNB s = (s.data.toList.reverse.dropWhile (fun x => ([32, 9] : List UInt8).contains x)).length := by
    unfold lastNB Lib.trimRightS
    rw [List.length_reverse]
  rw [← e, List.length_reverse, len_data] at h1 h2 h3
  refine ⟨h1, fun j hj hjs => ?_, fun h => ?_⟩
  · have := h2 (s.size - 1 - j) (by omega)
    rw [getD_rev _ _ (by rw [len_data]; omega), len_data, show s.size - 1 - (s.size - 1 - j) = j by omega] at this
    exact this
  · have := h3 h
    rw [getD_rev _ _ (by rw [len_data]; omega), len_data, show s.size - 1 - (s.size - lastNB s) = lastNB s - 1 by omega] at this
    exact this
theorem byt_mem (s : ByteArray) (j : Nat) (h : j < s.size) : byt s j ∈ s.data.toList := by
  unfold byt
  rw [getD_of (by rw [len_data]; exact h)]
  exact List.getElem_mem _
theorem empt_sub (s : ByteArray) (a b : Nat) (hb : b ≤ s.size) : empt (s.extract a b) = true ↔ ∀ j, a ≤ j → j < b → isBk (byt s j) = true := by
  rw [empt_iff]
  have e : (s.extract a b).data.toList = (s.data.toList.take b).drop a := by
    rw [ByteArray.data_extract, Array.toList_extract, List.extract_eq_take_drop, List.drop_take]
  rw [e]
  constructor
  · intro h j h1 h2
    refine h _ ?_
    unfold byt
    have hl : j - a < ((s.data.toList.take b).drop a).length := by simp [len_data]; omega
    have : ((s.data.toList.take b).drop a)[j - a] = s.data.toList.getD j 0 := by
      rw [List.getElem_drop, List.getElem_take, getD_of (by rw [len_data]; omega)]
      congr 1; omega
    rw [← this]
    exact List.getElem_mem _
  · intro h x hx
    obtain ⟨i, hi, rfl⟩ := List.getElem_of_mem hx
    have hi' : a + i < b := by simp [len_data] at hi; omega
    have := h (a + i) (by omega) hi'
    rw [List.getElem_drop, List.getElem_take]
    unfold byt at this
    rwa [getD_of (by rw [len_data]; omega)] at this
theorem cand_eq (s : ByteArray) (i : Nat) (hi : i < s.size) : cand1 s i = cand2 s i := by
  unfold cand1 cand2
  by_cases h32 : byt s i = 32
  · have hbk : isBk (byt s i) = true := by rw [h32]; rfl
    obtain ⟨f1, f2, f3⟩ := first_at s
    obtain ⟨l1, l2, l3⟩ := last_at s
    have e1 : (decide (firstNB s ≤ i)) = !empt (s.extract 0 i) := by
      by_cases h : firstNB s ≤ i
      · rw [decide_eq_true h]
        have hne : firstNB s ≠ i := fun e => by rw [← e] at hbk; rw [f3 (by omega)] at hbk; cases hbk
        have : ¬ empt (s.extract 0 i) = true := fun hh => by
          have := (empt_sub s 0 i (by omega)).1 hh (firstNB s) (by omega) (by omega)
          rw [f3 (by omega)] at this; cases this
        simp [this]
      · rw [decide_eq_false h]
        have : empt (s.extract 0 i) = true := (empt_sub s 0 i (by omega)).2 (fun j _ hj => f2 j (by omega))
        simp [this]
    have e2 : (decide (i < lastNB s)) = !empt (s.extract (i + 1) s.size) := by
      by_cases h : i < lastNB s
      · rw [decide_eq_true h]
        have hne : lastNB s - 1 ≠ i := fun e => by rw [← e] at hbk; rw [l3 (by omega)] at hbk; cases hbk
        have : ¬ empt (s.extract (i + 1) s.size) = true := fun hh => by
          have := (empt_sub s (i + 1) s.size (by omega)).1 hh (lastNB s - 1) (by omega) (by omega)
          rw [l3 (by omega)] at this; cases this
        simp [this]
      · rw [decide_eq_false h]
        have : empt (s.extract (i + 1) s.size) = true := (empt_sub s (i + 1) s.size (by omega)).2 (fun j h1 h2 => l2 j (by omega) h2)
        simp [this]
    rw [e1, e2]
  · have : (byt s i == 32) = false := beq_eq_false_iff_ne.mpr h32
    rw [this]; simp
/-- The other way to find it. -/
theorem cutAt_eq (s : ByteArray) (w : Int) : cutAt s w = if 0 ≤ lst (cand2 s) w s.size then lst (cand2 s) w s.size else fst (cand2 s) s.size := by
  unfold cutAt
  rw [best_congr _ (cand2 s) w s.size (fun j hj => cand_eq s j hj)]
  exact (best_eq (cand2 s) w s.size).1
theorem cutAt_bound (s : ByteArray) (w : Int) : -1 ≤ cutAt s w ∧ cutAt s w < s.size := ⟨(best_bound _ w _).1, (best_bound _ w _).2.1⟩
/-- How a line is divided. -/
noncomputable def pieces (w : Int) (s : ByteArray) : List ByteArray :=
  if h : w < s.size ∧ qt s = false ∧ 0 ≤ cutAt s w then
    s.extract 0 (cutAt s w).toNat :: pieces w (s.extract ((cutAt s w).toNat + 1) s.size)
  else [s]
termination_by s.size
decreasing_by
  have := (cutAt_bound s w).2
  rw [ByteArray.size_extract]
  omega
end Go.Proofs.YtfnmcpgngnlodaaDoor.Wraps
