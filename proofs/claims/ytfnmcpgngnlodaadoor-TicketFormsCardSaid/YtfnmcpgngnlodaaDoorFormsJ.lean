/- The text of a form, as bytes, and what a form without error is like: plain lists. No condition. -/
import Derived.Test.YtfnmcpgngnlodaaDoorFormsH
import Derived.Test.YtfnmcpgngnlodaaDoorFormsT
import Derived.Lib.Builder
import Derived.Lib.ItoaNum
namespace Go.Proofs.YtfnmcpgngnlodaaDoor.Forms
open Go.RowKit Go.Proofs.YtfnmcpgngnlodaaDoorW.PrintWords Go.Proofs.YtfnmcpgngnlodaaDoorW.PrintLast Go.Proofs.YtfnmcpgngnlodaaDoorW.PrintMore
open Go.Proofs.YtfnmcpgngnlodaaDoor.PTicketForms

def Valid (x : S32) : Prop := isNm x.f0 = true ∧ (1 ≤ x.f1 ∧ x.f1 ≤ 6) ∧ x.f2.length ≤ 20 ∧ (∀ o ∈ x.f2, isNm o = true) ∧ 0 ≤ x.f3 ∧ x.f3 ≤ 6

theorem optErr_zero (l : List ByteArray) (d : Nat) : ∀ i : Nat, l.length = i + d → optErr l d i = 0 → ∀ j : Nat, i ≤ j → j < l.length → isNm (rdOf ByteArray.empty l j) = true := by
  induction d with
  | zero => intro i hd _ j h1 h2; omega
  | succ d ih =>
    intro i hd h j h1 h2
    unfold optErr at h
    by_cases hn : isNm (rdOf ByteArray.empty l i) = true
    · rw [if_pos hn] at h
      by_cases hi : inL (l.take i) (rdOf ByteArray.empty l i) = true
      · rw [if_pos hi] at h; omega
      · rw [if_neg hi] at h
        rcases Nat.lt_or_eq_of_le h1 with h3 | h3
        · exact ih (i + 1) (by omega) h j (by omega) h2
        · rw [← h3]; exact hn
    · rw [if_neg hn] at h; omega
theorem optsErr_zero {k : Int} {l : List ByteArray} (h : optsErr k l = 0) : l.length ≤ 20 ∧ ∀ o ∈ l, isNm o = true := by
  unfold optsErr at h
  by_cases h1 : ((k == 4) != decide ((l.length : Int) > 0)) = true
  · rw [if_pos h1] at h; omega
  · rw [if_neg h1] at h
    by_cases h2 : (l.length : Int) > 20
    · rw [if_pos h2] at h; omega
    · rw [if_neg h2] at h
      refine ⟨by omega, fun o ho => ?_⟩
      obtain ⟨j, hj, rfl⟩ := List.mem_iff_getElem.1 ho
      rw [← rdOf_getElem l j hj]
      exact optErr_zero l l.length 0 (by omega) h j (Nat.zero_le _) hj
theorem fldErr_zero (l : List S32) (d : Nat) : ∀ i : Nat, l.length = i + d → fldErr l d i = 0 → ∀ j : Nat, i ≤ j → j < l.length → Valid (rd_T32 l j) := by
  induction d with
  | zero => intro i hd _ j h1 h2; omega
  | succ d ih =>
    intro i hd h j h1 h2
    unfold fldErr at h
    by_cases hn : isNm (rd_T32 l i).f0 = true
    · rw [if_pos hn] at h
      by_cases hf : 0 ≤ fidx (l.take i) (rd_T32 l i).f0
      · rw [if_pos hf] at h; omega
      rw [if_neg hf] at h
      by_cases hk : inR (rd_T32 l i).f1 1 6 = true
      · rw [if_pos hk] at h
        by_cases ho : optsErr (rd_T32 l i).f1 (rd_T32 l i).f2 = 0
        · rw [if_neg (by simp [ho])] at h
          by_cases hq : inR (rd_T32 l i).f3 0 6 = true
          · rw [if_pos hq] at h
            rcases Nat.lt_or_eq_of_le h1 with h3 | h3
            · exact ih (i + 1) (by omega) h j (by omega) h2
            · rw [← h3]
              simp only [inR, decide_eq_true_eq] at hk hq
              exact ⟨hn, hk, (optsErr_zero ho).1, (optsErr_zero ho).2, hq⟩
          · rw [if_neg hq] at h; omega
        · rw [if_pos ho] at h; exact absurd h ho
      · rw [if_neg hk] at h; omega
    · rw [if_neg hn] at h; omega
theorem formErr_zero {l : List S32} (h : formErr l = 0) : l.length ≤ 20 ∧ ∀ j : Nat, j < l.length → Valid (rd_T32 l j) := by
  unfold formErr at h
  by_cases h2 : (l.length : Int) > 20
  · rw [if_pos h2] at h; omega
  · rw [if_neg h2] at h
    exact ⟨by omega, fun j hj => fldErr_zero l l.length 0 (by omega) h j (Nat.zero_le _) hj⟩

/-! ### the text -/
def kw : Int → List UInt8
  | 1 => [102, 108, 97, 103]
  | 2 => [110, 117, 109, 98, 101, 114]
  | 3 => [116, 101, 120, 116]
  | 4 => [99, 104, 111, 105, 99, 101]
  | 5 => [109, 111, 109, 101, 110, 116]
  | _ => [112, 101, 114, 115, 111, 110]
def dg : Int → List UInt8
  | 0 => [48]
  | 1 => [49]
  | 2 => [50]
  | 3 => [51]
  | 4 => [52]
  | 5 => [53]
  | _ => [54]
def headBytes (x : S32) : List UInt8 := x.f0.data.toList ++ [32] ++ kw x.f1 ++ [32] ++ dg x.f3
def optsBytes (l : List ByteArray) : List UInt8 := l.flatMap fun o => 32 :: o.data.toList
def fieldBytes (x : S32) : List UInt8 := headBytes x ++ optsBytes x.f2 ++ [10]
def fmt (l : List S32) : List UInt8 := l.flatMap fieldBytes
theorem kw_length (k : Int) : (kw k).length ≤ 6 := by unfold kw; split <;> simp
theorem dg_length (k : Int) : (dg k).length = 1 := by unfold dg; split <;> simp
theorem size_list (s : ByteArray) : s.data.toList.length = s.size := data_length s
theorem head_length {x : S32} (h : Valid x) : (headBytes x).length ≤ 40 := by
  have h1 := isNm_size h.1
  have h2 := kw_length x.f1
  have h3 := dg_length x.f3
  simp only [headBytes, List.length_append, size_list, List.length_cons, List.length_nil, h3]
  omega
theorem opts_length (l : List ByteArray) (h : ∀ o ∈ l, isNm o = true) : (optsBytes l).length ≤ 21 * l.length := by
  induction l with
  | nil => simp [optsBytes]
  | cons a l ih =>
    have h1 := isNm_size (h a (by simp))
    have h2 := ih (fun o ho => h o (by simp [ho]))
    simp only [optsBytes, List.flatMap_cons, List.length_append, List.length_cons, size_list] at h2 ⊢
    omega
theorem field_length {x : S32} (h : Valid x) : (fieldBytes x).length ≤ 500 := by
  have h1 := head_length h
  have h2 := opts_length x.f2 h.2.2.2.1
  have h3 := h.2.2.1
  simp only [fieldBytes, List.length_append, List.length_cons, List.length_nil]
  omega
theorem take_succ_rd (l : List S32) (j : Nat) (h : j < l.length) : l.take (j + 1) = l.take j ++ [rd_T32 l j] := by
  rw [List.take_succ_eq_append_getElem h]
  simp [rd_T32, h]
theorem fmt_take (l : List S32) (j : Nat) (h : j < l.length) : fmt (l.take (j + 1)) = fmt (l.take j) ++ fieldBytes (rd_T32 l j) := by
  rw [take_succ_rd l j h, fmt, fmt, List.flatMap_append]; simp
theorem take_succ_opt (l : List ByteArray) (j : Nat) (h : j < l.length) : l.take (j + 1) = l.take j ++ [rdOf ByteArray.empty l j] := by
  rw [List.take_succ_eq_append_getElem h, rdOf_getElem l j h]
theorem opts_take (l : List ByteArray) (j : Nat) (h : j < l.length) : optsBytes (l.take (j + 1)) = optsBytes (l.take j) ++ (32 :: (rdOf ByteArray.empty l j).data.toList) := by
  rw [take_succ_opt l j h, optsBytes, optsBytes, List.flatMap_append]; simp
theorem fmt_length (l : List S32) (h : ∀ j : Nat, j < l.length → Valid (rd_T32 l j)) (j : Nat) : j ≤ l.length → (fmt (l.take j)).length ≤ 500 * j := by
  induction j with
  | zero => intro _; simp [fmt]
  | succ j ih =>
    intro hj
    rw [fmt_take l j (by omega), List.length_append]
    have h1 := ih (by omega)
    have h2 := field_length (h j (by omega))
    omega

/-! ### small numbers told -/
theorem told_small (n : Int) (h0 : 0 ≤ n) (h6 : n ≤ 6) : portref1_told.f 1 n = some ⟨(dg n).toArray⟩ := by
  have : n = 0 ∨ n = 1 ∨ n = 2 ∨ n = 3 ∨ n = 4 ∨ n = 5 ∨ n = 6 := by omega
  rcases this with rfl | rfl | rfl | rfl | rfl | rfl | rfl <;> (simp only [portref1_told.f]; rw [if_neg (by omega), if_pos (by omega)]; simp [strOfNums, wrap64, dg])
theorem dec_small (n : Int) (h0 : 0 ≤ n) (h6 : n ≤ 6) : (Lib.decDigits n.toNat) = dg n := by
  have : n = 0 ∨ n = 1 ∨ n = 2 ∨ n = 3 ∨ n = 4 ∨ n = 5 ∨ n = 6 := by omega
  rcases this with rfl | rfl | rfl | rfl | rfl | rfl | rfl <;> (unfold Lib.decDigits; simp [dg])
end Go.Proofs.YtfnmcpgngnlodaaDoor.Forms
