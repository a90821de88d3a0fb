/- The reference's way to find a mark, over the string with small letters, is mail's way. Plain; no program in sight. -/
import Derived.Test.YtfnmcpgngnlodaaDoorCleansM
namespace Go.Proofs.YtfnmcpgngnlodaaDoor.Cleans
set_option linter.unusedSimpArgs false

def fitU (r : ByteArray) (m : Nat) : Int :=
  if pre r ⟨#[58]⟩ = true then (m : Int) + 1
  else if pre r ⟨#[91]⟩ = true ∧ 2 ≤ ndd r ∧ ndd r ≤ 4 ∧ tailOk r = true then (m : Int) + ndd r + 2 else -1
def fit2 (p s : ByteArray) : Int := if pre (low s) p = true then fitU ((low s).extract p.size s.size) p.size else -1
theorem low_size (s : ByteArray) : (low s).size = s.size := by
  unfold low
  rw [← len_data, ← len_data]; simp
theorem low_byt (s : ByteArray) (j : Nat) (h : j < s.size) : byt (low s) j = lw (byt s j) := by
  have hl : j < s.data.toList.length := by rw [len_data]; exact h
  unfold byt low
  simp [List.getD, List.getElem?_eq_getElem hl]
theorem low_extract (s : ByteArray) (a b : Nat) : low (s.extract a b) = (low s).extract a b := by
  have e : ∀ x y : ByteArray, x.data.toList = y.data.toList → x = y := fun x y h => by cases x; cases y; simp_all
  apply e
  unfold low
  simp [ByteArray.data_extract, Array.toList_extract]
theorem lw_dgt (b : UInt8) : dgt (lw b) = dgt b := by
  unfold lw dgt
  split
  · rename_i h
    have : (b + 32).toNat = b.toNat + 32 := by rw [UInt8.toNat_add]; have : (32 : UInt8).toNat = 32 := rfl; omega
    rw [this]; rw [decide_eq_false (by omega), decide_eq_false (by omega)]
  · rfl
theorem lw_eq (b : UInt8) (n : Nat) (h : n < 65 ∨ (90 < n ∧ n < 97)) : (lw b).toNat = n ↔ b.toNat = n := by
  unfold lw
  split
  · rename_i hh
    have : (b + 32).toNat = b.toNat + 32 := by rw [UInt8.toNat_add]; have : (32 : UInt8).toNat = 32 := rfl; omega
    rw [this]; omega
  · rfl
theorem dn_low (t : ByteArray) (f n : Nat) : dn (low t) f n = dn t f n := by
  induction f generalizing n with
  | zero => rfl
  | succ f ih =>
    unfold dn
    rw [low_size]
    by_cases h : n < t.size
    · rw [low_byt t n h, lw_dgt, ih]
    · rw [if_neg (fun hh => h hh.1), if_neg (fun hh => h hh.1)]
theorem ndd_low (t : ByteArray) : ndd (low t) = ndd t := by unfold ndd; rw [low_size, dn_low]
theorem pre_one (t : ByteArray) (c : UInt8) : pre t ⟨#[c]⟩ = true ↔ 0 < t.size ∧ byt t 0 = c := by
  unfold pre Lib.hasPrefix byt
  have := len_data t
  rcases ht : t.data.toList with _ | ⟨b, r⟩
  · rw [ht] at this; simp at this; simp [← this]
  · rw [ht] at this; simp at this
    simp [List.isPrefixOf, ← this]
    exact ⟨fun h => h.symm, fun h => h.symm⟩
theorem pre_two (t : ByteArray) (c d : UInt8) : pre t ⟨#[c, d]⟩ = true ↔ 1 < t.size ∧ byt t 0 = c ∧ byt t 1 = d := by
  unfold pre Lib.hasPrefix byt
  have := len_data t
  rcases ht : t.data.toList with _ | ⟨b, _ | ⟨b2, r⟩⟩
  · rw [ht] at this; simp at this; simp [← this]
  · rw [ht] at this; simp at this; simp [List.isPrefixOf, ← this]
  · rw [ht] at this; simp at this
    simp [List.isPrefixOf, ← this]
    constructor
    · rintro ⟨rfl, rfl⟩; exact ⟨rfl, rfl⟩
    · rintro ⟨rfl, rfl⟩; exact ⟨rfl, rfl⟩
theorem lw_is (b c : UInt8) (h : c.toNat < 65 ∨ (90 < c.toNat ∧ c.toNat < 97)) : lw b = c ↔ b = c := by
  rw [← UInt8.toNat_inj, ← UInt8.toNat_inj]
  exact lw_eq b c.toNat h
theorem pre_low_one (t : ByteArray) (c : UInt8) (h : c.toNat < 65 ∨ (90 < c.toNat ∧ c.toNat < 97)) : pre (low t) ⟨#[c]⟩ = true ↔ 0 < t.size ∧ byt t 0 = c := by
  rw [pre_one, low_size]
  constructor
  · rintro ⟨h1, h2⟩
    rw [low_byt t 0 h1, lw_is _ _ h] at h2
    exact ⟨h1, h2⟩
  · rintro ⟨h1, h2⟩
    exact ⟨h1, by rw [low_byt t 0 h1, lw_is _ _ h]; exact h2⟩
theorem pre_low_two (t : ByteArray) (c d : UInt8) (h : c.toNat < 65 ∨ (90 < c.toNat ∧ c.toNat < 97)) (h' : d.toNat < 65 ∨ (90 < d.toNat ∧ d.toNat < 97)) : pre (low t) ⟨#[c, d]⟩ = true ↔ pre t ⟨#[c, d]⟩ = true := by
  rw [pre_two, pre_two, low_size]
  constructor
  · rintro ⟨h1, h2, h3⟩
    rw [low_byt t 0 (by omega), lw_is _ _ h] at h2
    rw [low_byt t 1 h1, lw_is _ _ h'] at h3
    exact ⟨h1, h2, h3⟩
  · rintro ⟨h1, h2, h3⟩
    exact ⟨h1, by rw [low_byt t 0 (by omega), lw_is _ _ h]; exact h2, by rw [low_byt t 1 h1, lw_is _ _ h']; exact h3⟩
theorem tailOk_low (t : ByteArray) : tailOk (low t) = tailOk t := by
  unfold tailOk
  rw [ndd_low, low_size, ← low_extract, Bool.eq_iff_iff]
  exact pre_low_two _ 93 58 (by decide) (by decide)
theorem fitU_low (t : ByteArray) (m : Nat) : fitU (low t) m = if t.size = 0 then -1 else fitT t m := by
  unfold fitU
  rw [ndd_low, tailOk_low]
  have h58 := pre_low_one t 58 (by decide)
  have h91 := pre_low_one t 91 (by decide)
  by_cases hz : t.size = 0
  · rw [if_pos hz, if_neg (fun h => by have := (h58.1 h).1; omega), if_neg (fun h => by have := (h91.1 h.1).1; omega)]
  · rw [if_neg hz]
    unfold fitT
    have e58 : pre (low t) ⟨#[58]⟩ = true ↔ (byt t 0).toNat = 58 := by
      rw [h58]
      exact ⟨fun h => by rw [h.2]; rfl, fun h => ⟨by omega, UInt8.toNat_inj.1 h⟩⟩
    have e91 : pre (low t) ⟨#[91]⟩ = true ↔ (byt t 0).toNat = 91 := by
      rw [h91]
      exact ⟨fun h => by rw [h.2]; rfl, fun h => ⟨by omega, UInt8.toNat_inj.1 h⟩⟩
    simp only [e58, e91]
theorem ext_bytes {x y : ByteArray} (h : x.data.toList = y.data.toList) : x = y := by cases x; cases y; simp_all
theorem extract_list (s : ByteArray) (a b : Nat) : (s.extract a b).data.toList = (s.data.toList.take b).drop a := by
  rw [ByteArray.data_extract, Array.toList_extract, List.extract_eq_take_drop, List.drop_take]
theorem pre_iff (t p : ByteArray) : pre t p = true ↔ p.size ≤ t.size ∧ t.extract 0 p.size = p := by
  unfold pre Lib.hasPrefix
  rw [List.isPrefixOf_iff_prefix]
  constructor
  · intro h
    have h1 := List.IsPrefix.length_le h
    rw [len_data, len_data] at h1
    refine ⟨h1, ext_bytes ?_⟩
    rw [extract_list, List.drop_zero]
    have := List.prefix_iff_eq_take.1 h
    rw [len_data] at this
    exact this.symm
  · rintro ⟨h1, h2⟩
    rw [List.prefix_iff_eq_take, len_data]
    have := congrArg (fun x : ByteArray => x.data.toList) h2
    simp only [extract_list, List.drop_zero] at this
    exact this.symm
theorem fit2_eq (p s : ByteArray) : fit2 p s = fit p s := by
  unfold fit2 fit
  by_cases h : pre (low s) p = true
  · rw [if_pos h]
    obtain ⟨h1, h2⟩ := (pre_iff _ _).1 h
    rw [low_size] at h1
    rw [← low_extract] at h2
    rw [← low_extract, fitU_low, ByteArray.size_extract]
    by_cases hz : s.size ≤ p.size
    · rw [if_pos (by omega), if_pos (.inl hz)]
    · rw [if_neg (by omega), if_neg (fun hh => by rcases hh with hh | hh; exact hz hh; exact hh h2)]
  · rw [if_neg h]
    by_cases hz : s.size ≤ p.size
    · rw [if_pos (.inl hz)]
    · rw [if_pos (.inr (fun hh => h ((pre_iff _ _).2 ⟨by rw [low_size]; omega, by rw [← low_extract]; exact hh⟩)))]
end Go.Proofs.YtfnmcpgngnlodaaDoor.Cleans
