/- Where a line is cut: both programs' functions answer cutAt. Condition: a line of at most 400 bytes. -/
import Derived.Test.YtfnmcpgngnlodaaDoorWrapsB
namespace Go.Proofs.YtfnmcpgngnlodaaDoor.Wraps
open Go.RowKit Go.Proofs.YtfnmcpgngnlodaaDoorW.PrintWords Go.Proofs.YtfnmcpgngnlodaaDoorW.PrintLast Go.Proofs.YtfnmcpgngnlodaaDoorW.PrintMore
open Go.Proofs.YtfnmcpgngnlodaaDoor.Forms
set_option linter.unusedVariables false
set_option linter.unusedSimpArgs false

theorem byt_at (s : ByteArray) (i : Nat) (h : i < s.size) : (byt s i).toNat = s[i].toNat := by
  unfold byt
  rw [getD_of (by rw [len_data]; exact h)]
  rfl
theorem best_yes (s : ByteArray) (n : Int) (i : Nat) (h1 : (byt s i).toNat = 32) (h2 : firstNB s ≤ i) (h3 : i < lastNB s) (h4 : best (cand1 s) n i < 0 ∨ (i : Int) ≤ n) : (i : Int) = best (cand1 s) n (i + 1) := by
  have e : byt s i = 32 := UInt8.toNat_inj.1 h1
  have hs : best (cand1 s) n (i + 1) = if cand1 s i = true ∧ (best (cand1 s) n i < 0 ∨ (i : Int) ≤ n) then (i : Int) else best (cand1 s) n i := rfl
  rw [hs, if_pos ⟨by simp [cand1, e, h2, h3], h4⟩]
theorem best_no (s : ByteArray) (n : Int) (i : Nat) (h : (byt s i).toNat ≠ 32 ∨ (0 ≤ best (cand1 s) n i ∧ n < (i : Int))) : best (cand1 s) n i = best (cand1 s) n (i + 1) := by
  have hs : best (cand1 s) n (i + 1) = if cand1 s i = true ∧ (best (cand1 s) n i < 0 ∨ (i : Int) ≤ n) then (i : Int) else best (cand1 s) n i := rfl
  rw [hs]
  split
  · rename_i hh
    rcases h with h | h
    · exfalso
      have : byt s i = 32 := by have := hh.1; simp only [cand1, Bool.and_eq_true, beq_iff_eq] at this; exact this.1.1
      exact h (by rw [this]; rfl)
    · omega
  · rfl

set_option maxHeartbeats 4000000 in
set_option maxRecDepth 100000 in
theorem cut_calls (s : ByteArray) (n : Int) (hs : s.size ≤ 400) (w : World) :
    Calls Tryd.prog 42 #[.string s, .int .i64 n] w fun e w' => e = .returned (.int .i64 (cutAt s n)) ∧ Below w.heap.size w w' := by
  have hl1 := (first_at s).1
  have hl2 := (last_at s).1
  have hlen1 : (Lib.trimLeftS s.data.toList [32, 9]).length ≤ s.size := by
    rw [← len_data]; exact (dw_at (p := fun x => ([32, 9] : List UInt8).contains x) s.data.toList).1
  have HF := Aside0.mk (show ((firstNB s : Nat) : Int) = s.size - ((Lib.trimLeftS s.data.toList [32, 9]).length : Nat) by unfold firstNB; omega)
  go_enter Tryd.func42, Tryd.ntmps42
  go_wp2_with fail
  refine (Tryd.trimLeft_bl s _).mono ?_
  rintro e w1 ⟨rfl, hb⟩
  have HB := Aside0.mk hb
  clear hb
  go_wp2_with fail
  refine (Tryd.trimRight_bl s _ (by omega)).mono ?_
  rintro e w2 ⟨rfl, hb⟩
  have HB2 := Aside0.mk (below_step HB.out hb)
  clear hb HB
  go_wp2
  rw [← HF.out]
  have HL := Aside0.mk (show (Lib.trimRightS s.data.toList [32, 9]).length = lastNB s from rfl)
  rw [HL.out]
  go_loopw [7, 8] (fun b v w' => ∃ i : Nat, v = .int .i64 i ∧ i ≤ s.size ∧ Aside0 (firstNB s ≤ i) ∧ b = .int .i64 (best (cand1 s) n i) ∧ Aside0 (Below w.heap.size w w')) (fun _ v _ => s.size - (intOf v).toNat)
  case atStart =>
    refine ⟨firstNB s, rfl, hl1, ⟨Nat.le_refl _⟩, ?_, HB2⟩
    rw [best_low (cand1 s) n (firstNB s) (fun j hj => by simp [cand1, show ¬ firstNB s ≤ j by omega])]
  case round =>
    clear HB2
    obtain ⟨i, rfl, hi, HFI, rfl, HB⟩ := hrel
    have hbb := (best_bound (cand1 s) n i).1
    have hbb2 := (best_bound (cand1 s) n i).2.1
    have HY := Aside0.mk (best_yes s n i)
    have HN := Aside0.mk (best_no s n i)
    have HT := Aside0.mk (show lastNB s ≤ i → best (cand1 s) n i = cutAt s n from fun h => (best_high (cand1 s) n i s.size (fun j h1 _ => by simp [cand1, show ¬ j < lastNB s by omega]) hi).symm)
    generalize best (cand1 s) n i = b0 at HT HY HN hbb hbb2 ⊢
    by_cases hlt : i < lastNB s
    · have HBY := Aside0.mk (byt_at s i (by omega))
      go_wp2
      all_goals
        have hy := HY.out
        have hn := HN.out
        have hby := HBY.out
        have hfi := HFI.out
        refine ⟨⟨i + 1, by go_num, by omega, ⟨by omega⟩, ?_, HB⟩, by simp [intOf]; omega⟩
        first
          | exact congrArg (Value.int .i64) (hy (by omega) (by omega) (by omega) (by omega))
          | exact congrArg (Value.int .i64) (hn (by omega))
    · have HE := Aside0.mk (HT.out (by omega))
      clear HT HY HN
      go_wp2
      go_ret
      exact ⟨ret_int HE.out, HB.out⟩

theorem fst_step (c : Nat → Bool) (i : Nat) : fst c (i + 1) = if c i = true ∧ fst c i < 0 then (i : Int) else fst c i := rfl
theorem lst_step (c : Nat → Bool) (w : Int) (i : Nat) : lst c w (i + 1) = if c i = true ∧ (i : Int) ≤ w then (i : Int) else lst c w i := rfl

set_option maxHeartbeats 4000000 in
set_option maxRecDepth 100000 in
theorem cutOf_calls (s : ByteArray) (n : Int) (hs : s.size ≤ 400) (w : World) :
    Calls Tryd.prog 44 #[.string s, .int .i64 n] w fun e w' => e = .returned (.int .i64 (cutAt s n)) ∧ Below w.heap.size w w' := by
  go_enter Tryd.func44, Tryd.ntmps44
  go_wp2
  go_loopw [5, 6, 10] (fun a b v w' => ∃ i : Nat, v = .int .i64 i ∧ i ≤ s.size ∧ a = .int .i64 (fst (cand2 s) i) ∧ b = .int .i64 (lst (cand2 s) n i) ∧ Aside0 (Below w.heap.size w w')) (fun _ _ v _ => s.size - (intOf v).toNat)
  case atStart => exact ⟨0, rfl, Nat.zero_le _, rfl, rfl, ⟨Below.refl _ _⟩⟩
  case round =>
    obtain ⟨i, rfl, hi, rfl, rfl, HB⟩ := hrel
    have hf1 := (fst_bound (cand2 s) i).1
    have hf2 := (fst_bound (cand2 s) i).2
    have hg1 := (lst_bound (cand2 s) n i).1
    have hg2 := (lst_bound (cand2 s) n i).2
    by_cases hlt : i < s.size
    · have HFS := Aside0.mk (fst_step (cand2 s) i)
      have HLS := Aside0.mk (lst_step (cand2 s) n i)
      have HBY := Aside0.mk (byt_at s i hlt)
      have HC := Aside0.mk (show cand2 s i = (byt s i == 32 && !empt (s.extract 0 i) && !empt (s.extract (i + 1) s.size)) from rfl)
      generalize fst (cand2 s) i = f0 at *
      generalize lst (cand2 s) n i = g0 at *
      by_cases h32 : (s[i].toNat : Int) = 32
      · have hb32 : (byt s i == 32) = true := by
          rw [beq_iff_eq]
          have : (byt s i).toNat = 32 := by rw [HBY.out]; omega
          exact UInt8.toNat_inj.1 this
        rw [hb32, Bool.true_and] at HC
        clear hb32
        have hsz1 : (s.extract 0 i).size ≤ 400 := by rw [ByteArray.size_extract]; omega
        have hsz2 : (s.extract (i + 1) s.size).size ≤ 400 := by rw [ByteArray.size_extract]; omega
        have HE1 := Aside0.mk (fun W => empty_calls (s.extract 0 i) (by unfold sm; omega) W)
        have HE2 := Aside0.mk (fun W => empty_calls (s.extract (i + 1) s.size) (by unfold sm; omega) W)
        clear hsz1 hsz2
        generalize empt (s.extract 0 i) = e1 at HC HE1
        generalize empt (s.extract (i + 1) s.size) = e2 at HC HE2
        go_wp2_with fail
        refine (HE1.out _).mono ?_
        rintro e w1 ⟨rfl, hb⟩
        have HB1 := Aside0.mk (below_step HB.out hb)
        clear hb HB
        cases e1
        · go_wp2_with fail
          refine (HE2.out _).mono ?_
          rintro e w2 ⟨rfl, hb⟩
          have HB2 := Aside0.mk (below_step HB1.out hb)
          clear hb HB1
          cases e2
          · have hcn : cand2 s i = true := HC.out
            rw [hcn] at HFS HLS
            simp only [true_and] at HFS HLS
            clear hcn
            by_cases hf : f0 < 0
            · rw [if_pos hf] at HFS
              by_cases hin : (i : Int) ≤ n
              · rw [if_pos hin] at HLS
                go_wp2
                go_roundw
                case rel => exact ⟨i + 1, by go_num, by omega, by rw [HFS.out], by rw [HLS.out], HB2⟩
                case measure => simp [intOf]; omega
              · rw [if_neg hin] at HLS
                go_wp2
                go_roundw
                case rel => exact ⟨i + 1, by go_num, by omega, by rw [HFS.out], by rw [HLS.out], HB2⟩
                case measure => simp [intOf]; omega
            · rw [if_neg hf] at HFS
              by_cases hin : (i : Int) ≤ n
              · rw [if_pos hin] at HLS
                go_wp2
                go_roundw
                case rel => exact ⟨i + 1, by go_num, by omega, by rw [HFS.out], by rw [HLS.out], HB2⟩
                case measure => simp [intOf]; omega
              · rw [if_neg hin] at HLS
                go_wp2
                go_roundw
                case rel => exact ⟨i + 1, by go_num, by omega, by rw [HFS.out], by rw [HLS.out], HB2⟩
                case measure => simp [intOf]; omega
          · have hcn : cand2 s i = false := HC.out
            rw [hcn] at HFS HLS
            simp only [Bool.false_eq_true, false_and, if_false] at HFS HLS
            clear hcn
            go_wp2
            go_roundw
            case rel => exact ⟨i + 1, by go_num, by omega, by rw [HFS.out], by rw [HLS.out], HB2⟩
            case measure => simp [intOf]; omega
        · have hcn : cand2 s i = false := HC.out
          rw [hcn] at HFS HLS
          simp only [Bool.false_eq_true, false_and, if_false] at HFS HLS
          clear hcn
          go_wp2
          go_roundw
          case rel => exact ⟨i + 1, by go_num, by omega, by rw [HFS.out], by rw [HLS.out], HB1⟩
          case measure => simp [intOf]; omega
      · have hcn : cand2 s i = false := by
          rw [HC.out]
          have : (byt s i == 32) = false := beq_eq_false_iff_ne.mpr (fun e => h32 (by rw [← HBY.out, e]; rfl))
          rw [this]; simp
        rw [hcn] at HFS HLS
        simp only [Bool.false_eq_true, false_and, if_false] at HFS HLS
        clear hcn
        go_wp2
        go_roundw
        case rel => exact ⟨i + 1, by go_num, by omega, by rw [HFS.out], by rw [HLS.out], HB⟩
        case measure => simp [intOf]; omega
    · have HE := Aside0.mk (show i = s.size by omega)
      have HX := Aside0.mk (cutAt_eq s n)
      rw [← HE.out] at HX
      generalize fst (cand2 s) i = f0 at *
      generalize lst (cand2 s) n i = g0 at *
      by_cases hg : 0 ≤ g0
      · have HY := Aside0.mk (show cutAt s n = g0 by rw [HX.out, if_pos hg])
        go_wp2
        go_ret
        exact ⟨ret_int HY.out.symm, HB.out⟩
      · have HY := Aside0.mk (show cutAt s n = f0 by rw [HX.out, if_neg hg])
        go_wp2
        go_ret
        exact ⟨ret_int HY.out.symm, HB.out⟩
end Go.Proofs.YtfnmcpgngnlodaaDoor.Wraps
