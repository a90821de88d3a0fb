/- The plain law of a subject that is trimmed and unmarked until nothing changes. No program in sight but R.Trim's contract. -/
import Derived.Test.YtfnmcpgngnlodaaDoorCleansQ
namespace Go.Proofs.YtfnmcpgngnlodaaDoor.Cleans
open Go.RowKit
set_option linter.unusedVariables false
set_option linter.unusedSimpArgs false

def tr (s : ByteArray) : ByteArray := ⟨(Lib.trimS s.data.toList [32, 9]).toArray⟩
def step (s : ByteArray) : ByteArray := unp (tr s)
theorem unp_bound (t : ByteArray) : (unp t).size ≤ t.size ∧ ((unp t).size = t.size → unp t = t) := by
  have hb := mkf_bound t 4 0
  have h1 : (unp t).size = t.size - (mark t).toNat := by unfold unp; rw [ByteArray.size_extract]; omega
  refine ⟨by omega, fun h => ?_⟩
  have h0 : mark t = 0 ∨ t.size = 0 := by
    have : 0 ≤ mark t ∧ mark t ≤ t.size := hb
    omega
  have hm : (mark t).toNat = 0 := by
    have : 0 ≤ mark t ∧ mark t ≤ t.size := hb
    omega
  unfold unp
  rw [hm, extract_all]
theorem dw_len (p : UInt8 → Bool) (l : List UInt8) : (l.dropWhile p).length ≤ l.length ∧ ((l.dropWhile p).length = l.length → l.dropWhile p = l) := by
  induction l with
  | nil => simp
  | cons a l ih =>
    by_cases h : p a = true
    · simp only [List.dropWhile_cons, h, if_true, List.length_cons]
      exact ⟨by omega, fun hh => absurd hh (by omega)⟩
    · simp [List.dropWhile_cons, h]
theorem tr_bound (s : ByteArray) : (tr s).size ≤ s.size ∧ ((tr s).size = s.size → tr s = s) := by
  have e : (tr s).size = (Lib.trimS s.data.toList [32, 9]).length := by
    unfold tr; rw [← len_data]
  have hl := len_data s
  have h1 := dw_len (fun x => ([32, 9] : List UInt8).contains x) s.data.toList.reverse
  have h2 := dw_len (fun x => ([32, 9] : List UInt8).contains x) (s.data.toList.reverse.dropWhile (fun x => ([32, 9] : List UInt8).contains x)).reverse
  have e2 : Lib.trimS s.data.toList [32, 9] = ((s.data.toList.reverse.dropWhile (fun x => ([32, 9] : List UInt8).contains x)).reverse).dropWhile (fun x => ([32, 9] : List UInt8).contains x) := rfl
  rw [List.length_reverse] at h1 h2
  rw [e, e2, ← hl]
  refine ⟨by omega, fun h => ?_⟩
  have g1 := h1.2 (by omega)
  have g2 := h2.2 (by omega)
  apply ext_bytes
  show Lib.trimS s.data.toList [32, 9] = _
  rw [e2, g2, g1, List.reverse_reverse]
theorem step_bound (s : ByteArray) : (step s).size ≤ s.size ∧ (step s ≠ s → (step s).size < s.size) := by
  have h1 := unp_bound (tr s)
  have h2 := tr_bound s
  unfold step
  refine ⟨by omega, fun h => ?_⟩
  rcases Nat.lt_or_ge (unp (tr s)).size s.size with hh | hh
  · exact hh
  · exfalso
    have h3 := h2.2 (by omega)
    have h4 := h1.2 (by omega)
    exact h (by rw [h4, h3])
theorem step_fix {s : ByteArray} (h : step s = s) : tr s = s := by
  have h1 := unp_bound (tr s)
  have h2 := tr_bound s
  have : (unp (tr s)).size = s.size := by show (step s).size = _; rw [h]
  exact h2.2 (by omega)
noncomputable def settle (s : ByteArray) : ByteArray := if h : step s = s then s else settle (step s)
termination_by s.size
decreasing_by exact (step_bound s).2 h
theorem settle_fix {s : ByteArray} (h : step s = s) : settle s = s := by rw [settle, dif_pos h]
theorem settle_more {s : ByteArray} (h : step s ≠ s) : settle s = settle (step s) := by rw [settle, dif_neg h]

/-! ### Blanks between words -/
def gapv (z : ByteArray) (i : Nat) : Bool := decide (0 < i) && blk (byt z (i - 1))
/-- What the reference writes. -/
def oF (z : ByteArray) : Nat → List UInt8
  | 0 => []
  | i + 1 => if blk (byt z i) = true then oF z i else oF z i ++ (if gapv z i = true then [32] else []) ++ [byt z i]
/-- What mail writes. -/
def cF (z : ByteArray) : Nat → List UInt8
  | 0 => []
  | i + 1 => if blk (byt z i) = true then (if blk (byt z (i - 1)) = true then cF z i else cF z i ++ [32]) else cF z i ++ [byt z i]
theorem oF_len (z : ByteArray) (i : Nat) : (oF z i).length ≤ 2 * i := by
  induction i with
  | zero => simp [oF]
  | succ i ih =>
    unfold oF
    split
    · omega
    · split <;> simp <;> omega
theorem cF_len (z : ByteArray) (i : Nat) : (cF z i).length ≤ i := by
  induction i with
  | zero => simp [cF]
  | succ i ih =>
    unfold cF
    split
    · split
      · omega
      · simp; omega
    · simp; omega
theorem cF_eq (z : ByteArray) (h0 : 0 < z.size → blk (byt z 0) = false) (i : Nat) (hi : i ≤ z.size) : cF z i = oF z i ++ (if gapv z i = true then [32] else []) := by
  induction i with
  | zero => simp [cF, oF, gapv]
  | succ i ih =>
    have ih := ih (by omega)
    have hg : gapv z (i + 1) = blk (byt z i) := by simp [gapv]
    rw [hg]
    unfold cF oF
    by_cases hb : blk (byt z i) = true
    · simp only [hb, if_true]
      have hi0 : 0 < i := by
        rcases Nat.eq_zero_or_pos i with e | e
        · subst e; rw [h0 (by omega)] at hb; cases hb
        · exact e
      have hgi : gapv z i = blk (byt z (i - 1)) := by simp [gapv, hi0]
      rw [hgi] at ih
      by_cases hp : blk (byt z (i - 1)) = true
      · rw [if_pos hp, ih, if_pos hp]
      · rw [if_neg hp, ih, if_neg hp]; simp
    · simp only [hb, if_false, Bool.false_eq_true]
      rw [ih]; simp
theorem dw_self {p : UInt8 → Bool} {a : UInt8} {l : List UInt8} (h : (a :: l).dropWhile p = a :: l) : p a = false := by
  cases hp : p a
  · rfl
  · exfalso
    rw [List.dropWhile_cons, if_pos hp] at h
    have h1 := (dw_len p l).1
    have := congrArg List.length h
    simp at this
    omega
theorem blk_is (b : UInt8) : blk b = ([32, 9] : List UInt8).contains b := by
  unfold blk
  rw [Bool.eq_iff_iff]
  simp only [decide_eq_true_eq, List.contains_cons, List.contains_nil, Bool.or_false, Bool.or_eq_true, beq_iff_eq]
  constructor
  · rintro (h | h)
    · exact .inl (UInt8.toNat_inj.1 h)
    · exact .inr (UInt8.toNat_inj.1 h)
  · rintro (h | h)
    · exact .inl (by rw [h]; rfl)
    · exact .inr (by rw [h]; rfl)
theorem ends_of (z : ByteArray) (h : tr z = z) (hz : 0 < z.size) : blk (byt z 0) = false ∧ blk (byt z (z.size - 1)) = false := by
  have hl : Lib.trimS z.data.toList [32, 9] = z.data.toList := by
    have := congrArg (fun x : ByteArray => x.data.toList) h
    exact this
  have h1 := dw_len (fun x => ([32, 9] : List UInt8).contains x) z.data.toList.reverse
  have h2 := dw_len (fun x => ([32, 9] : List UInt8).contains x) (z.data.toList.reverse.dropWhile (fun x => ([32, 9] : List UInt8).contains x)).reverse
  have e2 : Lib.trimS z.data.toList [32, 9] = ((z.data.toList.reverse.dropWhile (fun x => ([32, 9] : List UInt8).contains x)).reverse).dropWhile (fun x => ([32, 9] : List UInt8).contains x) := rfl
  have hle := congrArg List.length hl
  rw [e2] at hle hl
  rw [List.length_reverse] at h1 h2
  have g1 := h1.2 (by omega)
  rw [g1, List.reverse_reverse] at hl
  have hlen := len_data z
  rw [blk_is, blk_is]
  constructor
  · unfold byt
    rcases hd : z.data.toList with _ | ⟨a, l⟩
    · rw [hd] at hlen; simp at hlen; omega
    · rw [hd] at hl
      exact dw_self hl
  · have hlast : byt z (z.size - 1) = z.data.toList.reverse.getD 0 0 := by
      unfold byt
      rw [← hlen]
      have : 0 < z.data.toList.length := by omega
      simp [List.getD, List.getElem?_reverse this]
    rw [hlast]
    rcases hd : z.data.toList.reverse with _ | ⟨a, l⟩
    · have := congrArg List.length hd
      simp at this; rw [this] at hz; simp at hz
    · rw [hd] at g1
      exact dw_self g1
theorem cF_oF (z : ByteArray) (h : tr z = z) : cF z z.size = oF z z.size := by
  rw [cF_eq z (fun hz => (ends_of z h hz).1) z.size (Nat.le_refl _)]
  rcases Nat.eq_zero_or_pos z.size with e | e
  · rw [e]; simp [gapv]
  · have := (ends_of z h e).2
    simp [gapv, e, this]
end Go.Proofs.YtfnmcpgngnlodaaDoor.Cleans
