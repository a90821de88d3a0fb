/- Small letters: both programs' lower answer the string with small letters. Condition: a string within the reach. -/
import Derived.Test.YtfnmcpgngnlodaaDoorCleansJ
import Derived.Lib.ConvBytes
import Derived.Laws.BytesString
namespace Go.Proofs.YtfnmcpgngnlodaaDoor.Cleans
open Go.RowKit Go.Proofs.YtfnmcpgngnlodaaDoorW.PrintWords Go.Proofs.YtfnmcpgngnlodaaDoorW.PrintLast Go.Proofs.YtfnmcpgngnlodaaDoorW.PrintMore
open Go.Proofs.YtfnmcpgngnlodaaDoor.Forms
set_option linter.unusedVariables false
set_option linter.unusedSimpArgs false

def lw (b : UInt8) : UInt8 := if 65 ≤ b.toNat ∧ b.toNat ≤ 90 then b + 32 else b
def low (s : ByteArray) : ByteArray := ⟨(s.data.toList.map lw).toArray⟩
/-- The first i bytes are small. -/
def lwAt (s : ByteArray) (i j : Nat) : UInt8 := if j < i then lw (byt s j) else byt s j
/-- A block holds the bytes. -/
def Holds (w : World) (k : Nat) (s : ByteArray) (i : Nat) : Prop := ∃ (C : Array Value) (fz : Nat × Nat), w.heap[k]? = some (.cells C 5 fz) ∧ s.size ≤ fz.1 ∧ fz.1 ≤ C.size ∧ ∀ j, j < s.size → C[j]? = some (.int .u8 (lwAt s i j).toNat)

theorem len_data (s : ByteArray) : s.data.toList.length = s.size := Array.length_toList
theorem byt_of (s : ByteArray) (j : Nat) (h : j < s.size) : byt s j = s.data[j]'h := by
  unfold byt
  have hl : j < s.data.toList.length := by rw [len_data]; exact h
  rw [show s.data.toList.getD j 0 = s.data.toList[j] by simp [List.getD, List.getElem?_eq_getElem hl]]
  exact Array.getElem_toList _
theorem holds_start (w : World) (s : ByteArray) : Holds (Lib.bytesWorld w 5 s) w.heap.size s 0 := by
  refine ⟨_, _, Lib.bytesWorld_at_new w 5 s, ?_, Nat.le_refl _, fun j hj => ?_⟩
  · simp [Lib.bytesCells]
  · have hj2 : j < s.data.size := hj
    unfold lwAt
    rw [if_neg (Nat.not_lt_zero j), byt_of s j hj]
    unfold Lib.bytesCells
    rw [Array.getElem?_append_left (by rw [Array.size_map]; exact hj2), Array.getElem?_map, Array.getElem?_eq_getElem hj2]
    rfl
theorem below_bytes (w : World) (s : ByteArray) : Below w.heap.size w (Lib.bytesWorld w 5 s) :=
  ⟨rfl, rfl, rfl, by rw [Lib.bytesWorld_size]; omega, fun k hk => Lib.bytesWorld_at_old w 5 s k hk⟩
theorem holds_cell {w : World} {k : Nat} {s : ByteArray} {i : Nat} (h : Holds w k s i) (hi : i < s.size) : w.cell? ⟨k, i, none⟩ = some (.int .u8 (byt s i).toNat) := by
  obtain ⟨C, fz, hb, h1, h2, hC⟩ := h
  have := hC i hi
  simp only [lwAt, Nat.lt_irrefl, if_false] at this
  unfold World.cell?
  simp [hb, this]
theorem holds_frozen {w : World} {k : Nat} {s : ByteArray} {i : Nat} (h : Holds w k s i) (hi : i < s.size) : w.frozen? ⟨k, i, none⟩ = false := by
  obtain ⟨C, fz, hb, h1, h2, hC⟩ := h
  unfold World.frozen?
  simp [hb]
  omega
theorem holds_step {w : World} {k : Nat} {s : ByteArray} {i : Nat} (h : Holds w k s i) (hi : i < s.size) (v : Value) (hv : v = .int .u8 (lwAt s (i + 1) i).toNat) : Holds (w.setCell ⟨k, i, none⟩ v) k s (i + 1) := by
  obtain ⟨C, fz, hb, h1, h2, hC⟩ := h
  have hk : k < w.heap.size := (Array.getElem?_eq_some_iff.1 hb).1
  refine ⟨C.setIfInBounds i v, fz, ?_, h1, by simpa using h2, fun j hj => ?_⟩
  · simp [World.setCell, Array.getElem?_modify, hb]
  · rw [Array.getElem?_setIfInBounds]
    by_cases e : i = j
    · subst e
      rw [if_pos rfl, if_pos (by omega), hv]
    · rw [if_neg e, hC j hj]
      have : lwAt s (i + 1) j = lwAt s i j := by
        unfold lwAt
        by_cases h : j < i
        · rw [if_pos h, if_pos (by omega)]
        · rw [if_neg h, if_neg (by omega)]
      rw [this]

theorem holds_keep {w : World} {k : Nat} {s : ByteArray} {i : Nat} (h : Holds w k s i) (hi : i < s.size) (hn : lw (byt s i) = byt s i) : Holds w k s (i + 1) := by
  obtain ⟨C, fz, hb, h1, h2, hC⟩ := h
  refine ⟨C, fz, hb, h1, h2, fun j hj => ?_⟩
  rw [hC j hj]
  have : lwAt s (i + 1) j = lwAt s i j := by
    unfold lwAt
    by_cases h : j < i
    · rw [if_pos h, if_pos (by omega)]
    · by_cases e : j = i
      · subst e; rw [if_neg h, if_pos (by omega), hn]
      · rw [if_neg h, if_neg (by omega)]
  rw [this]
theorem lw_big (b : UInt8) (h1 : 65 ≤ b.toNat) (h2 : b.toNat ≤ 90) : ((lw b).toNat : Int) = (b.toNat : Int) + 97 - 65 ∧ ((lw b).toNat : Int) = (b.toNat : Int) + 32 := by
  unfold lw
  rw [if_pos ⟨h1, h2⟩, UInt8.toNat_add]
  have : (32 : UInt8).toNat = 32 := rfl
  omega
theorem lw_keep (b : UInt8) (h : ¬ (65 ≤ b.toNat ∧ b.toNat ≤ 90)) : lw b = b := by unfold lw; rw [if_neg h]
theorem convert_back {w : World} {k cap : Nat} {s : ByteArray} (h : Holds w k s s.size) : (convert 61 9 (.slice (some ⟨k, 0, none⟩) s.size cap)).run Tryd.prog w = .ok (.string (low s)) w := by
  have := run_convert_bytes_arg (P := Tryd.prog) w 61 5 Tryd.underlying61 Tryd.underlying5 k 0 s.size cap ((s.data.toList.map lw).map fun b => (b.toNat : Int)) (by simp [len_data]) (fun i hi => by
    obtain ⟨C, fz, hb, h1, h2, hC⟩ := h
    have hc := hC i hi
    unfold World.cell?
    simp only [hb, Nat.zero_add]
    rw [hc]
    have hl : i < s.data.toList.length := by rw [len_data]; exact hi
    congr 2
    unfold lwAt
    rw [if_pos hi]
    simp [List.getD, byt, List.getElem?_eq_getElem hl]) 9 Tryd.underlying9
  rw [this]
  have e0 : ∀ L : List UInt8, (L.map fun b => (b.toNat : Int)).map (fun n => UInt8.ofNat n.toNat) = L := by
    intro L
    induction L with
    | nil => rfl
    | cons a l ih =>
      rw [List.map_cons, List.map_cons, ih, Int.toNat_natCast, UInt8.ofNat_toNat]
  have e : strOfNums ((s.data.toList.map lw).map fun b => (b.toNat : Int)) = low s := by
    unfold strOfNums low
    rw [e0]
  rw [e]

set_option maxHeartbeats 4000000 in
set_option maxRecDepth 1000000 in
theorem lower_calls (s : ByteArray) (hs : s.size ≤ 140737488355328) (w : World) :
    Calls Tryd.prog 80 #[.string s] w fun e w' => e = .returned (.string (low s)) ∧ Below w.heap.size w w' := by
  have hconv := Lib.run_convert_string_bytes (P := Tryd.prog) w 9 61 5 s Tryd.underlying9 Tryd.underlying61 Tryd.underlying5
  go_enter Tryd.func80, Tryd.ntmps80
  go_wp2
  have HH0 := Aside0.mk (holds_start w s)
  have HB0 := Aside0.mk (show Below w.heap.size w (Lib.bytesWorld w 5 s) from below_bytes w s)
  clear hconv
  generalize grownCap w s.size 0 5 = cap
  generalize Lib.bytesWorld w 5 s = W0 at HH0 HB0 ⊢
  go_loopw [10] (fun v w' => ∃ i : Nat, v = .int .i64 i ∧ i ≤ s.size ∧ Aside0 (Holds w' w.heap.size s i) ∧ Aside0 (Below w.heap.size w w')) (fun v _ => s.size - (intOf v).toNat)
  case atStart => exact ⟨0, rfl, Nat.zero_le _, HH0, HB0⟩
  case round =>
    clear HH0 HB0
    obtain ⟨i, rfl, hi, HH, HB⟩ := hrel
    by_cases hlt : i < s.size
    · have hc := holds_cell HH.out hlt
      have hf := holds_frozen HH.out hlt
      have HST := Aside0.mk (fun v => holds_step HH.out hlt v)
      have HKP := Aside0.mk (holds_keep HH.out hlt)
      have HLW := Aside0.mk (show lwAt s (i + 1) i = lw (byt s i) by simp [lwAt])
      have hb256 : (byt s i).toNat < 256 := UInt8.toNat_lt _
      generalize byt s i = b at hc HLW hb256 HKP
      by_cases h65 : 65 ≤ b.toNat
      · by_cases h90 : b.toNat ≤ 90
        · have HV := Aside0.mk (lw_big b h65 h90)
          go_wp2
          go_roundw
          case rel => exact ⟨i + 1, by go_num, by omega, ⟨HST.out _ (by rw [HLW.out, HV.out.1])⟩, ⟨below_set (j := i) HB.out (Nat.le_refl w.heap.size)⟩⟩
          case measure => simp [intOf]; omega
        · have HN := Aside0.mk (HKP.out (lw_keep b (by omega)))
          go_wp2
          go_roundw
          case rel => exact ⟨i + 1, by go_num, by omega, HN, HB⟩
          case measure => simp [intOf]; omega
      · have HN := Aside0.mk (HKP.out (lw_keep b (by omega)))
        go_wp2
        go_roundw
        case rel => exact ⟨i + 1, by go_num, by omega, HN, HB⟩
        case measure => simp [intOf]; omega
    · have hcb := convert_back (cap := cap) (show Holds wr w.heap.size s s.size by rw [← show i = s.size by omega]; exact HH.out)
      go_wp2
      go_ret
      exact ⟨rfl, HB.out⟩

set_option maxHeartbeats 4000000 in
set_option maxRecDepth 1000000 in
theorem Lower_calls (s : ByteArray) (hs : s.size ≤ 140737488355328) (w : World) :
    Calls Tryd.prog 83 #[.string s] w fun e w' => e = .returned (.string (low s)) ∧ Below w.heap.size w w' := by
  have hconv := Lib.run_convert_string_bytes (P := Tryd.prog) w 9 61 5 s Tryd.underlying9 Tryd.underlying61 Tryd.underlying5
  go_enter Tryd.func83, Tryd.ntmps83
  go_wp2
  have HH0 := Aside0.mk (holds_start w s)
  have HB0 := Aside0.mk (show Below w.heap.size w (Lib.bytesWorld w 5 s) from below_bytes w s)
  clear hconv
  generalize grownCap w s.size 0 5 = cap
  generalize Lib.bytesWorld w 5 s = W0 at HH0 HB0 ⊢
  go_loopw [10] (fun v w' => ∃ i : Nat, v = .int .i64 i ∧ i ≤ s.size ∧ Aside0 (Holds w' w.heap.size s i) ∧ Aside0 (Below w.heap.size w w')) (fun v _ => s.size - (intOf v).toNat)
  case atStart => exact ⟨0, rfl, Nat.zero_le _, HH0, HB0⟩
  case round =>
    clear HH0 HB0
    obtain ⟨i, rfl, hi, HH, HB⟩ := hrel
    by_cases hlt : i < s.size
    · have hc := holds_cell HH.out hlt
      have hf := holds_frozen HH.out hlt
      have HST := Aside0.mk (fun v => holds_step HH.out hlt v)
      have HKP := Aside0.mk (holds_keep HH.out hlt)
      have HLW := Aside0.mk (show lwAt s (i + 1) i = lw (byt s i) by simp [lwAt])
      have hb256 : (byt s i).toNat < 256 := UInt8.toNat_lt _
      generalize byt s i = b at hc HLW hb256 HKP
      by_cases h65 : 65 ≤ b.toNat
      · by_cases h90 : b.toNat ≤ 90
        · have HV := Aside0.mk (lw_big b h65 h90)
          go_wp2
          go_roundw
          case rel => exact ⟨i + 1, by go_num, by omega, ⟨HST.out _ (by rw [HLW.out, HV.out.2])⟩, ⟨below_set (j := i) HB.out (Nat.le_refl w.heap.size)⟩⟩
          case measure => simp [intOf]; omega
        · have HN := Aside0.mk (HKP.out (lw_keep b (by omega)))
          go_wp2
          go_roundw
          case rel => exact ⟨i + 1, by go_num, by omega, HN, HB⟩
          case measure => simp [intOf]; omega
      · have HN := Aside0.mk (HKP.out (lw_keep b (by omega)))
        go_wp2
        go_roundw
        case rel => exact ⟨i + 1, by go_num, by omega, HN, HB⟩
        case measure => simp [intOf]; omega
    · have hcb := convert_back (cap := cap) (show Holds wr w.heap.size s s.size by rw [← show i = s.size by omega]; exact HH.out)
      go_wp2
      go_ret
      exact ⟨rfl, HB.out⟩

end Go.Proofs.YtfnmcpgngnlodaaDoor.Cleans
