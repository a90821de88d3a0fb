/- How many bytes a mark has at a subject's beginning: marked answers mark. Condition: a string within the reach. -/
import Derived.Test.YtfnmcpgngnlodaaDoorCleansK
namespace Go.Proofs.YtfnmcpgngnlodaaDoor.Cleans
open Go.RowKit Go.Proofs.YtfnmcpgngnlodaaDoorW.PrintWords Go.Proofs.YtfnmcpgngnlodaaDoorW.PrintLast Go.Proofs.YtfnmcpgngnlodaaDoorW.PrintMore
open Go.Proofs.YtfnmcpgngnlodaaDoor.Forms
set_option linter.unusedVariables false
set_option linter.unusedSimpArgs false

def dgt (b : UInt8) : Bool := decide (48 ≤ b.toNat ∧ b.toNat ≤ 57)
def blk (b : UInt8) : Bool := decide (b.toNat = 32 ∨ b.toNat = 9)
def dn (t : ByteArray) : Nat → Nat → Nat
  | 0, n => n
  | f + 1, n => if n < t.size ∧ dgt (byt t n) = true then dn t f (n + 1) else n
def ndd (t : ByteArray) : Nat := dn t t.size 1
def pre (t p : ByteArray) : Bool := Lib.hasPrefix t.data.toList p.data.toList
def tailOk (t : ByteArray) : Bool := pre (t.extract (ndd t) t.size) ⟨#[93, 58]⟩
def fitT (t : ByteArray) (m : Nat) : Int :=
  if (byt t 0).toNat = 58 then (m : Int) + 1
  else if (byt t 0).toNat = 91 ∧ 2 ≤ ndd t ∧ ndd t ≤ 4 ∧ tailOk t = true then (m : Int) + ndd t + 2 else -1
def fit (p s : ByteArray) : Int := if s.size ≤ p.size ∨ low (s.extract 0 p.size) ≠ p then -1 else fitT (s.extract p.size s.size) p.size
def brk (s : ByteArray) : Int :=
  if 0 < s.size ∧ (byt s 0).toNat = 91 then
    (if 0 ≤ iany (s.extract 1 s.size) ∧ (byt s (1 + (iany (s.extract 1 s.size)).toNat)).toNat = 93 then iany (s.extract 1 s.size) + 2 else 0)
  else 0
def wd : Nat → ByteArray
  | 0 => ⟨#[114, 101]⟩
  | 1 => ⟨#[102, 119, 100]⟩
  | 2 => ⟨#[102, 119]⟩
  | _ => ⟨#[97, 119]⟩
def mkf (s : ByteArray) : Nat → Nat → Int
  | 0, _ => brk s
  | f + 1, x => if 0 ≤ fit (wd x) s then fit (wd x) s else mkf s f (x + 1)
def mark (s : ByteArray) : Int := mkf s 4 0
theorem wd_size (x : Nat) : 2 ≤ (wd x).size ∧ (wd x).size ≤ 3 := by
  unfold wd; split <;> exact ⟨by decide, by decide⟩
theorem byt_at (s : ByteArray) (i : Nat) (h : i < s.size) : (byt s i).toNat = s[i].toNat := by rw [byt_of s i h]; rfl
theorem pre_size {t p : ByteArray} (h : pre t p = true) : p.size ≤ t.size := by
  have := List.IsPrefix.length_le (List.isPrefixOf_iff_prefix.1 h)
  rwa [len_data, len_data] at this
theorem fitT_bound (t : ByteArray) (m : Nat) (h : 0 < t.size) : -1 ≤ fitT t m ∧ (0 ≤ fitT t m → fitT t m ≤ m + t.size) := by
  unfold fitT
  split
  · omega
  · split
    · rename_i hh
      have h1 := pre_size hh.2.2.2
      rw [ByteArray.size_extract] at h1
      have : (⟨#[93, 58]⟩ : ByteArray).size = 2 := rfl
      omega
    · omega
theorem fit_bound (p s : ByteArray) : -1 ≤ fit p s ∧ (0 ≤ fit p s → fit p s ≤ s.size) := by
  unfold fit
  split
  · omega
  · rename_i h
    have hs : p.size < s.size := by omega
    have := fitT_bound (s.extract p.size s.size) p.size (by rw [ByteArray.size_extract]; omega)
    rw [ByteArray.size_extract] at this
    omega
theorem brk_bound (s : ByteArray) : 0 ≤ brk s ∧ brk s ≤ s.size := by
  unfold brk
  split
  · split
    · have := iany_bound (s.extract 1 s.size)
      rw [ByteArray.size_extract] at this
      omega
    · omega
  · omega
theorem mkf_bound (s : ByteArray) (f x : Nat) : 0 ≤ mkf s f x ∧ mkf s f x ≤ s.size := by
  induction f generalizing x with
  | zero => exact brk_bound s
  | succ f ih =>
    unfold mkf
    split
    · have := fit_bound (wd x) s; omega
    · exact ih _

theorem digit_calls (b : UInt8) (w : World) : Calls Tryd.prog 81 #[.int .u8 b.toNat] w fun e w' => e = .returned (.bool (dgt b)) ∧ w' = w := by
  unfold dgt
  generalize b.toNat = n
  by_cases h1 : 48 ≤ n
  · by_cases h2 : n ≤ 57
    · go_enter Tryd.func81, Tryd.ntmps81
      go_wp2
      go_ret
      exact ⟨ret_bool (by first | (simp; done) | (rw [Bool.eq_iff_iff]; simp; omega)), rfl⟩
    · go_enter Tryd.func81, Tryd.ntmps81
      go_wp2
      go_ret
      exact ⟨ret_bool (by first | (simp; done) | (rw [Bool.eq_iff_iff]; simp; omega)), rfl⟩
  · go_enter Tryd.func81, Tryd.ntmps81
    go_wp2
    go_ret
    exact ⟨ret_bool (by first | (simp; done) | (rw [Bool.eq_iff_iff]; simp; omega)), rfl⟩
theorem isDigit_calls (b : UInt8) (w : World) : Calls Tryd.prog 58 #[.int .u8 b.toNat] w fun e w' => e = .returned (.bool (dgt b)) ∧ w' = w := by
  unfold dgt
  generalize b.toNat = n
  by_cases h1 : 48 ≤ n
  · by_cases h2 : n ≤ 57
    · go_enter Tryd.func58, Tryd.ntmps58
      go_wp2
      go_ret
      exact ⟨ret_bool (by first | (simp; done) | (rw [Bool.eq_iff_iff]; simp; omega)), rfl⟩
    · go_enter Tryd.func58, Tryd.ntmps58
      go_wp2
      go_ret
      exact ⟨ret_bool (by first | (simp; done) | (rw [Bool.eq_iff_iff]; simp; omega)), rfl⟩
  · go_enter Tryd.func58, Tryd.ntmps58
    go_wp2
    go_ret
    exact ⟨ret_bool (by first | (simp; done) | (rw [Bool.eq_iff_iff]; simp; omega)), rfl⟩
theorem blank_calls (b : UInt8) (w : World) : Calls Tryd.prog 54 #[.int .u8 b.toNat] w fun e w' => e = .returned (.bool (blk b)) ∧ w' = w := by
  unfold blk
  generalize b.toNat = n
  by_cases h1 : n = 32
  · subst h1
    go_enter Tryd.func54, Tryd.ntmps54
    go_wp2
    go_ret
    exact ⟨ret_bool (by simp), rfl⟩
  · have h1' : ((n : Int) == 32) = false := beq_eq_false_iff_ne.2 (by omega)
    go_enter Tryd.func54, Tryd.ntmps54
    go_wp2
    go_ret
    refine ⟨ret_bool ?_, rfl⟩
    rw [Bool.eq_iff_iff]; simp [h1]; omega
theorem isBlank_calls (b : UInt8) (w : World) : Calls Tryd.prog 57 #[.int .u8 b.toNat] w fun e w' => e = .returned (.bool (blk b)) ∧ w' = w := by
  unfold blk
  generalize b.toNat = n
  by_cases h1 : n = 32
  · subst h1
    go_enter Tryd.func57, Tryd.ntmps57
    go_wp2
    go_ret
    exact ⟨ret_bool (by simp), rfl⟩
  · have h1' : ((n : Int) == 32) = false := beq_eq_false_iff_ne.2 (by omega)
    go_enter Tryd.func57, Tryd.ntmps57
    go_wp2
    go_ret
    refine ⟨ret_bool ?_, rfl⟩
    rw [Bool.eq_iff_iff]; simp [h1]; omega
end Go.Proofs.YtfnmcpgngnlodaaDoor.Cleans
