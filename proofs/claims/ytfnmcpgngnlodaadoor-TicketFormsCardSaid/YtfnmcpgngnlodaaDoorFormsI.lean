/- CheckForm over a form answers formErr of its fields. Condition: no string is longer than Go lets it be. -/
import Derived.Test.YtfnmcpgngnlodaaDoorFormsH
namespace Go.Proofs.YtfnmcpgngnlodaaDoor.Forms
open Go.RowKit Go.Proofs.YtfnmcpgngnlodaaDoorW.PrintWords Go.Proofs.YtfnmcpgngnlodaaDoorW.PrintLast Go.Proofs.YtfnmcpgngnlodaaDoorW.PrintMore
open Go.Proofs.YtfnmcpgngnlodaaDoor.PTicketForms
set_option linter.unusedVariables false
set_option linter.unusedSimpArgs false

theorem name_calls (s : ByteArray) (hs : Small s) (w : World) : Calls Tryd.prog 34 #[.string s] w fun e w' => e = .returned (.bool (isNm s)) ∧ Drawn0 w w' := by
  obtain ⟨k, hk⟩ := (name_ev s hs).rounds
  exact ticket_name.calls k s _ w hk
theorem within_calls (a lo hi : Int) (w : World) : Calls Tryd.prog 37 #[.int .i64 a, .int .i64 lo, .int .i64 hi] w fun e w' => e = .returned (.bool (inR a lo hi)) ∧ Drawn0 w w' :=
  ticket_within.calls a lo hi _ w (within_f a lo hi)
theorem checkOptions_calls (f0 : ByteArray) (f1 : Int) (A : Option Addr) (c : Nat) (l : List ByteArray) (f3 : Int) (w : World) (hr : Kd.C Kd.string w A l.length l) (hc : l.length ≤ c) (hs : ∀ s ∈ l, Small s) :
    Calls Tryd.prog 38 #[.agg #[.string f0, .int .i64 f1, .slice A l.length c, .int .i64 f3]] w fun e w' => e = .returned (.int .i64 (optsErr f1 l)) ∧ Below w.heap.size w w' := by
  obtain ⟨k, hk⟩ := (checkOptions_ev l hr.2.1 hs f0 f1 f3).rounds
  exact ticket_checkOptions.calls k f0 f1 A c l f3 _ w hr hc hk

theorem contains_take (p : Addr) (nm : ByteArray) (hp : p.spot = none) (A0 : Option Addr) (c0 : Nat) (l0 : List S32) (x : Nat) (hx : x ≤ l0.length) (w : World) (hnm : w.cell? p = some (.string nm)) (hr0 : Kd.C k32 w A0 l0.length l0) :
    Calls Tryd.prog 35 #[.slice A0 x c0, .func (.func 36) #[] #[.pointer (some p)]] w fun e w' => e = .returned (.bool (decide (0 ≤ fidx (l0.take x) nm))) ∧ Below w.heap.size w w' := by
  have h := contains_calls p nm hp A0 c0 (l0.take x) w hnm (Kd.C_take hr0 hx)
  rwa [show (l0.take x).length = x by rw [List.length_take]; omega] at h
theorem info22 : (Tryd.prog.info? 32).map (fun i => (i.zero, i.size, i.bytes)) = some (some (.agg #[(.string ⟨#[]⟩), (.int .i64 0), (.slice none 0 0), (.int .i64 0)]), 4, 56) := by kernel_rfl

set_option maxHeartbeats 4000000 in
set_option maxRecDepth 100000 in
theorem checkForm_calls (A0 : Option Addr) (c0 : Nat) (l0 : List S32) (hs : ∀ x ∈ l0, SmallF x) (w : World) (hr0 : Kd.C k32 w A0 l0.length l0) (hc0 : l0.length ≤ c0) :
    Calls Tryd.prog 11 #[.agg #[.slice A0 l0.length c0]] w fun e w' => e = .returned (.int .i64 (formErr l0)) ∧ Below w.heap.size w w' := by
  have hb0 : l0.length ≤ 9223372036854775807 := hr0.2.1
  have HR0 := Aside0.mk hr0
  have HC0 := Aside0.mk hc0
  have HS := Aside0.mk hs
  clear hr0 hc0 hs
  by_cases h20 : (l0.length : Int) > 20
  · have HN : Aside0 (formErr l0 = 4) := ⟨by unfold formErr; rw [if_pos h20]⟩
    go_enter Tryd.func11, Tryd.ntmps11
    go_wp2
    go_ret
    exact ⟨ret_int HN.out.symm, below_alloc (Below.refl _ _) _⟩
  have HF : Aside0 (formErr l0 = fldErr l0 l0.length 0) := ⟨by unfold formErr; rw [if_neg h20]⟩
  have hmf : ∀ (fn : Fn) (first cap : Array Value) (w : World), (Instr.makeFunc fn first cap).run Tryd.prog w = .ok (.func fn first cap) w := fun _ _ _ _ => rfl
  go_enter Tryd.func11, Tryd.ntmps11
  go_wp2
  go_loopw [13] (fun v w' => ∃ (x : Nat), v = .int .i64 x ∧ x ≤ l0.length ∧ Aside0 (formErr l0 = fldErr l0 (l0.length - x) x) ∧ w'.cell? ⟨w.heap.size, 0, none⟩ = some (.slice A0 l0.length c0) ∧ w.heap.size < w'.heap.size ∧ Aside0 (Below w.heap.size w w')) (fun v _ => l0.length - (intOf v).toNat)
  case atStart => exact ⟨0, rfl, Nat.zero_le _, HF, by go_simp, by simp, ⟨below_alloc (Below.refl _ _) _⟩⟩
  case round =>
    clear HF
    obtain ⟨x, rfl, hx1, HE, hcf, hsz, HB⟩ := hrel
    by_cases hlt : x < l0.length
    · have hlt' : (x : Int) < (l0.length : Int) := by omega
      obtain ⟨ad, A2, c2, e, h0, h1, h2, h3, l2, g2⟩ := at_T32 HR0.out x (by omega) hlt'
      have L2 := Aside0.mk l2
      have G2 := Aside0.mk g2
      have SF := Aside0.mk (smallF_rd HS.out (x : Int))
      have HE2 : Aside0 (formErr l0 = if isNm (rd_T32 l0 x).f0 = true then
        (if 0 ≤ fidx (l0.take x) (rd_T32 l0 x).f0 then 6
        else if inR (rd_T32 l0 x).f1 1 6 = true then
          (if optsErr (rd_T32 l0 x).f1 (rd_T32 l0 x).f2 ≠ 0 then optsErr (rd_T32 l0 x).f1 (rd_T32 l0 x).f2
          else if inR (rd_T32 l0 x).f3 0 6 = true then fldErr l0 (l0.length - (x + 1)) (x + 1) else 2)
        else 10)
      else 3) := ⟨by rw [HE.out, show l0.length - x = (l0.length - (x + 1)) + 1 by omega]; rfl⟩
      clear l2 g2 HE
      cases e
      replace h0 := (HB.out.cell (World.block_lt_of_cell? w _ h0)).trans h0
      replace h1 := (HB.out.cell (World.block_lt_of_cell? w _ h1)).trans h1
      replace h2 := (HB.out.cell (World.block_lt_of_cell? w _ h2)).trans h2
      replace h3 := (HB.out.cell (World.block_lt_of_cell? w _ h3)).trans h3
      simp only [Int.toNat_natCast] at h0 h1 h2 h3
      generalize rd_T32 l0 (x : Int) = X at *
      have hal0 := alloc_keep h0
      have hxc : x ≤ c0 := by have := HC0.out; omega
      by_cases hn : isNm X.f0 = true
      · have HN := Aside0.mk hn
        clear hn
        go_wp2_with fail
        refine (name_calls X.f0 SF.out.1 _).mono ?_
        rw [HN.out]
        rintro e w1 ⟨rfl, ⟨n1, rfl⟩⟩
        go_wp2_with fail
        have HB1 := Aside0.mk (pw_below_drewN (below_alloc HB.out (Obj.cells #[Value.string X.f0, Value.int IntKind.i64 X.f1, Value.slice A2 X.f2.length c2, Value.int IntKind.i64 X.f3] 32)) n1)
        refine (contains_take _ X.f0 rfl _ _ l0 x hx1 _ ?_ (Kd.C_below HR0.out HB1.out)).mono ?_
        · go_simp
        by_cases hd : 0 ≤ fidx (l0.take x) X.f0
        · have HE3 : Aside0 (formErr l0 = 6) := ⟨by rw [HE2.out, if_pos HN.out, if_pos hd]⟩
          rw [decide_eq_true hd]
          clear hd HE2
          rintro e w2 ⟨rfl, hb⟩
          have HB2 := Aside0.mk (below_step HB1.out hb)
          clear hb
          go_wp2
          go_ret
          exact ⟨ret_int HE3.out.symm, HB2.out⟩
        have HD := Aside0.mk hd
        rw [decide_eq_false hd]
        clear hd
        rintro e w2 ⟨rfl, hb⟩
        have HB2 := Aside0.mk (below_step HB1.out hb)
        have hx0 : w2.cell? ⟨wr.heap.size, 0, none⟩ = some (.string X.f0) := (hb.cell (by simp)).trans (by go_simp)
        have hx1' : w2.cell? ⟨wr.heap.size, 1, none⟩ = some (.int .i64 X.f1) := (hb.cell (by simp)).trans (by go_simp)
        have hx2 : w2.cell? ⟨wr.heap.size, 2, none⟩ = some (.slice A2 X.f2.length c2) := (hb.cell (by simp)).trans (by go_simp)
        have hx3 : w2.cell? ⟨wr.heap.size, 3, none⟩ = some (.int .i64 X.f3) := (hb.cell (by simp)).trans (by go_simp)
        have hcf2 : w2.cell? ⟨w.heap.size, 0, none⟩ = some (.slice (some ad) l0.length c0) := (hb.cell (by simp; omega)).trans (by go_simp)
        have hsz2 : wr.heap.size < w2.heap.size := by have := hb.size; simp at this; omega
        clear hb hcf h0 h1 h2 h3 hal0 HB1
        by_cases hk : inR X.f1 1 6 = true
        · have HK := Aside0.mk hk
          clear hk
          go_wp2_with fail
          refine (within_calls X.f1 1 6 _).mono ?_
          rw [HK.out]
          rintro e w3 ⟨rfl, ⟨n3, rfl⟩⟩
          go_wp2_with fail
          refine (checkOptions_calls X.f0 X.f1 A2 c2 X.f2 X.f3 _ (Kd.C_below G2.out (pw_below_drewN HB2.out _)) L2.out SF.out.2.2).mono ?_
          by_cases ho : optsErr X.f1 X.f2 = 0
          · have HO := Aside0.mk ho
            rw [ho]
            clear ho
            rintro e w4 ⟨rfl, hb⟩
            have HB4 := Aside0.mk (below_step (pw_below_drewN HB2.out n3) hb)
            have hy3 : w4.cell? ⟨wr.heap.size, 3, none⟩ = some (.int .i64 X.f3) := (hb.cell (by simp; omega)).trans (by go_simp)
            have hcf4 : w4.cell? ⟨w.heap.size, 0, none⟩ = some (.slice (some ad) l0.length c0) := (hb.cell (by simp; omega)).trans (by go_simp)
            have hsz4 : w.heap.size < w4.heap.size := by have := hb.size; simp at this; omega
            clear hb hx0 hx1' hx2 hx3 hcf2
            by_cases hq : inR X.f3 0 6 = true
            · have HE3 : Aside0 (formErr l0 = fldErr l0 (l0.length - (x + 1)) (x + 1)) := ⟨by rw [HE2.out, if_pos HN.out, if_neg (show ¬ 0 ≤ fidx (l0.take x) X.f0 by have := HD.out; omega), if_pos HK.out, if_neg (by simp [HO.out]), if_pos hq]⟩
              have HQ := Aside0.mk hq
              clear hq
              go_wp2_with fail
              refine (within_calls X.f3 0 6 _).mono ?_
              rw [HQ.out]
              rintro e w5 ⟨rfl, ⟨n5, rfl⟩⟩
              go_wp2
              go_roundw
              case rel => exact ⟨x + 1, by go_num, by omega, HE3, by go_simp, by simpa using hsz4, ⟨pw_below_drewN HB4.out _⟩⟩
              case measure => simp [intOf]; omega
            · have HE3 : Aside0 (formErr l0 = 2) := ⟨by rw [HE2.out, if_pos HN.out, if_neg (show ¬ 0 ≤ fidx (l0.take x) X.f0 by have := HD.out; omega), if_pos HK.out, if_neg (by simp [HO.out]), if_neg hq]⟩
              have HQ := Aside0.mk (Bool.eq_false_iff.mpr hq)
              clear hq
              go_wp2_with fail
              refine (within_calls X.f3 0 6 _).mono ?_
              rw [HQ.out]
              rintro e w5 ⟨rfl, ⟨n5, rfl⟩⟩
              go_wp2
              go_ret
              exact ⟨ret_int HE3.out.symm, pw_below_drewN HB4.out _⟩
          · have HE3 : Aside0 (formErr l0 = optsErr X.f1 X.f2) := ⟨by rw [HE2.out, if_pos HN.out, if_neg (show ¬ 0 ≤ fidx (l0.take x) X.f0 by have := HD.out; omega), if_pos HK.out, if_pos ho]⟩
            generalize optsErr X.f1 X.f2 = r at ho HE3 ⊢
            have hr : (r != 0) = true := bne_iff_ne.mpr ho
            clear ho HE2
            rintro e w4 ⟨rfl, hb⟩
            have HB4 := Aside0.mk (below_step (pw_below_drewN HB2.out n3) hb)
            clear hb
            go_wp2
            go_ret
            exact ⟨ret_int HE3.out.symm, HB4.out⟩
        · have HE3 : Aside0 (formErr l0 = 10) := ⟨by rw [HE2.out, if_pos HN.out, if_neg (show ¬ 0 ≤ fidx (l0.take x) X.f0 by have := HD.out; omega), if_neg hk]⟩
          have HK := Aside0.mk (Bool.eq_false_iff.mpr hk)
          clear hk HE2
          go_wp2_with fail
          refine (within_calls X.f1 1 6 _).mono ?_
          rw [HK.out]
          rintro e w3 ⟨rfl, ⟨n3, rfl⟩⟩
          go_wp2
          go_ret
          exact ⟨ret_int HE3.out.symm, pw_below_drewN HB2.out _⟩
      · have HN := Aside0.mk (Bool.eq_false_iff.mpr hn)
        have HE3 : Aside0 (formErr l0 = 3) := ⟨by rw [HE2.out, if_neg hn]⟩
        clear hn HE2
        go_wp2_with fail
        refine (name_calls X.f0 SF.out.1 _).mono ?_
        rw [HN.out]
        rintro e w1 ⟨rfl, ⟨n1, rfl⟩⟩
        go_wp2
        go_ret
        exact ⟨ret_int HE3.out.symm, pw_below_drewN (below_alloc HB.out _) _⟩
    · have HE3 : Aside0 (formErr l0 = 0) := ⟨by rw [HE.out, show l0.length - x = 0 by omega]; rfl⟩
      go_wp2
      go_ret
      exact ⟨ret_int HE3.out.symm, HB.out⟩
end Go.Proofs.YtfnmcpgngnlodaaDoor.Forms
