/- Clean answers the settled string with single blanks; MailCleans answers true. Condition: a string within the reach. -/
import Derived.Test.YtfnmcpgngnlodaaDoorCleansS
import Derived.Test.YtfnmcpgngnlodaaDoorFormsB
namespace Go.Proofs.YtfnmcpgngnlodaaDoor.Cleans
open Go.RowKit Go.Proofs.YtfnmcpgngnlodaaDoorW.PrintWords Go.Proofs.YtfnmcpgngnlodaaDoorW.PrintLast Go.Proofs.YtfnmcpgngnlodaaDoorW.PrintMore
open Go.Proofs.YtfnmcpgngnlodaaDoor.Forms Go.Proofs.YtfnmcpgngnlodaaDoor
set_option linter.unusedVariables false
set_option linter.unusedSimpArgs false

theorem byteCells_snoc (a : List UInt8) (b : UInt8) : Lib.byteCells a ++ [.int .u8 b.toNat] = Lib.byteCells (a ++ [b]) := by simp [Lib.byteCells]
set_option maxHeartbeats 8000000 in
set_option maxRecDepth 1000000 in
theorem clean_calls (s : ByteArray) (hs : s.size ≤ 140737488351232) (w : World) :
    Calls Tryd.prog 24 #[.string s] w fun e w' => e = .returned (.string (bs (cF (settle s) (settle s).size))) ∧ Below w.heap.size w w' := by
  obtain ⟨z, HZ⟩ : ∃ z, Aside0 (settle s = z) := ⟨_, ⟨rfl⟩⟩
  rw [HZ.out]
  go_enter Tryd.func24, Tryd.ntmps24
  go_wp2
  go_loopw [0] (fun v w' => ∃ u : ByteArray, v = .string u ∧ u.size ≤ s.size ∧ Aside0 (settle u = z) ∧ Aside0 (Below w.heap.size w w')) (fun v _ => match v with | .string u => u.size | _ => 0)
  case atStart => exact ⟨s, rfl, Nat.le_refl _, HZ, ⟨Below.refl _ _⟩⟩
  case round =>
    obtain ⟨u, rfl, hu, HU, HB⟩ := hrel
    have htb := (tr_bound u).1
    have HSB := Aside0.mk (step_bound u)
    have HFX := Aside0.mk (fun h : step u = u => step_fix h)
    have hmb : 0 ≤ mark (tr u) ∧ mark (tr u) ≤ (tr u).size := mkf_bound (tr u) 4 0
    obtain ⟨j, HJ⟩ : ∃ j : Nat, Aside0 (mark (tr u) = (j : Int)) := ⟨(mark (tr u)).toNat, ⟨by omega⟩⟩
    have HRT := Aside0.mk (fun W => Tryd.trim_bl u W (by omega))
    have HTR := Aside0.mk (show (⟨(Lib.trimS u.data.toList [32, 9]).toArray⟩ : ByteArray) = tr u from rfl)
    have HMK := Aside0.mk (fun W => marked_calls (tr u) (by omega) W)
    rw [HJ.out] at HMK hmb
    have HST := Aside0.mk (show (tr u).extract j (tr u).size = step u by unfold step unp; rw [HJ.out, Int.toNat_natCast])
    go_wp2_with fail
    refine (HRT.out _).mono ?_
    rw [HTR.out]
    rintro e w1 ⟨rfl, hb⟩
    have HB1 := Aside0.mk (below_step HB.out hb)
    clear hb HB HRT HTR HJ
    generalize tr u = t at HMK HST hmb htb ⊢
    go_wp2_with fail
    refine (HMK.out _).mono ?_
    rintro e w2 ⟨rfl, hb⟩
    have HB2 := Aside0.mk (below_step HB1.out hb)
    clear hb HB1
    have hjt : j ≤ t.size := by omega
    have HSF := Aside0.mk (fun h : step u = u => settle_fix h)
    have HSM := Aside0.mk (fun h : step u ≠ u => settle_more h)
    rw [← HST.out] at HSF HSM HSB HFX
    by_cases hq : t.extract j t.size = u
    · have hqb : ((t.extract j t.size).toList == u.toList) = true := by rw [hq]; simp
      have HQU := Aside0.mk (show u = z by rw [← HSF.out hq, HU.out])
      have HTU := Aside0.mk (HFX.out hq)
      clear hq
      go_wp2
      have HG0 := Aside0.mk (Lib.fresh_isBuilder 63 5 w2)
      have HBB := Aside0.mk (below_alloc HB2.out (.cells #[.pointer none, .slice none 0 0] 63))
      have hsz1 : w.heap.size ≤ w2.heap.size := HB2.out.size
      go_loopw [18] (fun v w' => ∃ i : Nat, v = .int .i64 i ∧ i ≤ u.size ∧ Aside0 (Lib.IsBuilder 63 5 w2.heap.size w2.heap.size (Lib.byteCells (cF u i)) w') ∧ Aside0 (Below w.heap.size w w') ∧ w2.heap.size < w'.heap.size) (fun v _ => u.size - (intOf v).toNat)
      case atStart => exact ⟨0, rfl, Nat.zero_le _, HG0, HBB, by simp⟩
      case round =>
        clear HG0 HBB
        obtain ⟨i, rfl, hi, HG, HBx, hgs⟩ := hrel
        by_cases hlt : i < u.size
        · have HBY := Aside0.mk (byt_of u i hlt)
          have HCF := Aside0.mk (show cF u (i + 1) = if blk (byt u i) = true then (if blk (byt u (i - 1)) = true then cF u i else cF u i ++ [32]) else cF u i ++ [byt u i] from rfl)
          have hlen := cF_len u i
          go_wp2_with fail
          refine (blank_calls _ _).mono ?_
          rintro e w5 ⟨rfl, rfl⟩
          cases hb : blk (u[i])
          · have HE := Aside0.mk (show cF u (i + 1) = cF u i ++ [u[i]] by
              rw [HCF.out, HBY.out, if_neg (by rw [show u.data[i] = u[i] from rfl, hb]; exact Bool.false_ne_true)]; rfl)
            clear hb
            go_wp2_with fail
            refine (Bld.writeByte _ _ _ _ _ HG.out (by rw [Lib.byteCells_length]; omega) (by omega)).mono ?_
            rintro e w7 ⟨rfl, hbd, hb7, hk7⟩
            have HG7 : Aside0 (Lib.IsBuilder 63 5 w2.heap.size w2.heap.size (Lib.byteCells (cF u (i + 1))) w7) := ⟨by
              rw [HE.out, ← byteCells_snoc]; exact .inr hbd⟩
            have HB7 := Aside0.mk (below_weaken HBx.out hsz1 hb7)
            have hg7 : w2.heap.size < w7.heap.size := by have := hb7.size; omega
            clear hbd hb7 hk7
            go_wp2
            go_roundw
            case rel => exact ⟨i + 1, by go_num, by omega, HG7, HB7, hg7⟩
            case measure => simp [intOf]; omega
          · have HYB := Aside0.mk (show blk (byt u i) = true by rw [HBY.out]; exact hb)
            clear hb
            cases i with
            | zero =>
              exfalso
              have h1 := (ends_of u HTU.out hlt).1
              rw [HYB.out] at h1
              cases h1
            | succ m =>
              have hm : m < u.size := by omega
              have HBM := Aside0.mk (byt_of u m hm)
              rw [HYB.out, if_pos rfl, Nat.add_sub_cancel, HBM.out] at HCF
              have hmi : (((m + 1 : Nat) : Int)) - 1 = (m : Int) := by omega
              go_wp2_with fail
              refine (blank_calls (u[m]) _).mono ?_
              rintro e w5 ⟨rfl, rfl⟩
              cases hb : blk (u[m])
              · have HE := Aside0.mk (show cF u (m + 1 + 1) = cF u (m + 1) ++ [32] by
                  rw [HCF.out, if_neg (by rw [show u.data[m] = u[m] from rfl, hb]; exact Bool.false_ne_true)])
                clear hb
                go_wp2_with fail
                refine (Bld.writeByte _ _ _ _ _ HG.out (by rw [Lib.byteCells_length]; omega) (by omega)).mono ?_
                rintro e w7 ⟨rfl, hbd, hb7, hk7⟩
                have HG7 : Aside0 (Lib.IsBuilder 63 5 w2.heap.size w2.heap.size (Lib.byteCells (cF u (m + 1 + 1))) w7) := ⟨by
                  rw [HE.out, ← byteCells_snoc]; exact .inr hbd⟩
                have HB7 := Aside0.mk (below_weaken HBx.out hsz1 hb7)
                have hg7 : w2.heap.size < w7.heap.size := by have := hb7.size; omega
                clear hbd hb7 hk7
                go_wp2
                go_roundw
                case rel => exact ⟨m + 1 + 1, by go_num, by omega, HG7, HB7, hg7⟩
                case measure => simp [intOf]; omega
              · have HE := Aside0.mk (show cF u (m + 1 + 1) = cF u (m + 1) by
                  rw [HCF.out, if_pos (show blk (u.data[m]) = true from hb)])
                rw [← HE.out] at HG
                clear hb
                go_wp2
                go_roundw
                case rel => exact ⟨m + 1 + 1, by go_num, by omega, HG, HBx, hgs⟩
                case measure => simp [intOf]; omega
        · have HE := Aside0.mk (show cF u i = cF z z.size by rw [← HQU.out, show i = u.size by omega])
          rw [HE.out] at HG
          go_wp2_with fail
          refine (Tryd.Builder_String_any _ _ _ wr HG.out (Nat.le_of_lt hgs)).mono ?_
          rintro e w9 ⟨rfl, hb⟩
          have HB9 := Aside0.mk (below_weaken HBx.out hsz1 hb)
          clear hb
          go_wp2
          go_ret
          exact ⟨rfl, HB9.out⟩
    · have hqb : ((t.extract j t.size).toList == u.toList) = false := beq_eq_false_iff_ne.mpr fun e => hq (bytes_eq e)
      have HQ := Aside0.mk hq
      have hlt := HSB.out.2 hq
      have HM := Aside0.mk (show settle (t.extract j t.size) = z by rw [← HSM.out hq, HU.out])
      clear hq
      go_wp2
      go_roundw
      case rel => exact ⟨_, rfl, by omega, HM, HB2⟩
      case measure => exact hlt

theorem settle_tr (s : ByteArray) : tr (settle s) = settle s := by
  suffices h : ∀ (n : Nat) (s : ByteArray), s.size ≤ n → step (settle s) = settle s from step_fix (h s.size s (Nat.le_refl _))
  intro n
  induction n with
  | zero =>
    intro s hs
    by_cases h : step s = s
    · rw [settle_fix h, h]
    · exact absurd ((step_bound s).2 h) (by omega)
  | succ n ih =>
    intro s hs
    by_cases h : step s = s
    · rw [settle_fix h, h]
    · rw [settle_more h]
      exact ih _ (by have := (step_bound s).2 h; omega)
set_option maxHeartbeats 4000000 in
theorem mailCleans_calls (s : ByteArray) (hs : s.size ≤ 140737488351232) (w : World) :
    Calls Tryd.prog 6 #[.string s] w fun e w' => e = .returned (.bool true) ∧ Below w.heap.size w w' := by
  have H1 := Aside0.mk (fun W => clean_calls s hs W)
  have H2 := Aside0.mk (fun W => cleanOf_calls s hs W)
  rw [cF_oF _ (settle_tr s)] at H1
  generalize bs (oF (settle s) (settle s).size) = r at H1 H2
  go_enter Tryd.func6, Tryd.ntmps6
  go_wp2_with fail
  refine (H1.out _).mono ?_
  rintro e w1 ⟨rfl, hb⟩
  have HB := Aside0.mk hb
  clear hb
  go_wp2_with fail
  refine (H2.out _).mono ?_
  rintro e w2 ⟨rfl, hb⟩
  have HB2 := Aside0.mk (below_step HB.out hb)
  clear hb
  go_wp2
  go_ret
  exact ⟨ret_bool (by simp), HB2.out⟩
end Go.Proofs.YtfnmcpgngnlodaaDoor.Cleans
