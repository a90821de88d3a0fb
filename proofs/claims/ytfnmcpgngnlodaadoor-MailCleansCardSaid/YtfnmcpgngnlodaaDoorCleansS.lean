/- CleanOf answers the settled string with single blanks. Condition: a string within the reach. -/
import Derived.Test.YtfnmcpgngnlodaaDoorCleansR
namespace Go.Proofs.YtfnmcpgngnlodaaDoor.Cleans
open Go.RowKit Go.Proofs.YtfnmcpgngnlodaaDoorW.PrintWords Go.Proofs.YtfnmcpgngnlodaaDoorW.PrintLast Go.Proofs.YtfnmcpgngnlodaaDoorW.PrintMore
open Go.Proofs.YtfnmcpgngnlodaaDoor.Forms
set_option linter.unusedVariables false
set_option linter.unusedSimpArgs false

theorem rtrim_calls (s : ByteArray) (hs : s.size ≤ 140737488351232) (w : World) : Calls Tryd.prog 56 #[.string s] w fun e w' => e = .returned (.string (tr s)) ∧ Below w.heap.size w w' := by
  go_enter Tryd.func56, Tryd.ntmps56
  go_wp2_with fail
  refine (Tryd.trim_bl s _ (by omega)).mono ?_
  rintro e w1 ⟨rfl, hb⟩
  go_wp2
  go_ret
  exact ⟨rfl, hb⟩
def bs (l : List UInt8) : ByteArray := ⟨l.toArray⟩
theorem bs_size (l : List UInt8) : (bs l).size = l.length := by show l.toArray.size = _; simp
theorem bs_append (l m : List UInt8) : bs l ++ bs m = bs (l ++ m) := by
  have : (bs l ++ bs m).data = (bs (l ++ m)).data := by simp [bs]
  cases h1 : (bs l ++ bs m); cases h2 : bs (l ++ m)
  simp_all
theorem one_byte (z : ByteArray) (i : Nat) (h : i < z.size) : z.extract i (i + 1) = bs [byt z i] := by
  apply ext_bytes
  rw [extract_list]
  have hl : i < z.data.toList.length := by rw [len_data]; exact h
  show _ = [byt z i]
  rw [byt_of z i h, List.drop_take, show i + 1 - i = 1 by omega, List.drop_eq_getElem_cons hl]
  simp

set_option maxHeartbeats 8000000 in
set_option maxRecDepth 1000000 in
theorem cleanOf_calls (s : ByteArray) (hs : s.size ≤ 140737488351232) (w : World) :
    Calls Tryd.prog 25 #[.string s] w fun e w' => e = .returned (.string (bs (oF (settle s) (settle s).size))) ∧ Below w.heap.size w w' := by
  obtain ⟨z, HZ⟩ : ∃ z, Aside0 (settle s = z) := ⟨_, ⟨rfl⟩⟩
  rw [HZ.out]
  go_enter Tryd.func25, Tryd.ntmps25
  go_wp2
  go_loopw [0] (fun v w' => ∃ u : ByteArray, v = .string u ∧ u.size ≤ s.size ∧ Aside0 (settle u = z) ∧ Aside0 (Below w.heap.size w w')) (fun v _ => match v with | .string u => u.size | _ => 0)
  case atStart => exact ⟨s, rfl, Nat.le_refl _, HZ, ⟨Below.refl _ _⟩⟩
  case round =>
    obtain ⟨u, rfl, hu, HU, HB⟩ := hrel
    have htb := tr_bound u
    have HTB := Aside0.mk (tr_bound u)
    have HSB := Aside0.mk (step_bound u)
    have HRT := Aside0.mk (fun W => rtrim_calls u (by omega) W)
    have HUN := Aside0.mk (fun W => unprefixed_calls (tr u) (by omega) W)
    have HST := Aside0.mk (show unp (tr u) = step u from rfl)
    clear htb
    generalize tr u = t at HRT HUN HST
    go_wp2_with fail
    refine (HRT.out _).mono ?_
    rintro e w1 ⟨rfl, hb⟩
    have HB1 := Aside0.mk (below_step HB.out hb)
    clear hb HB
    go_wp2_with fail
    refine (HUN.out _).mono ?_
    rw [HST.out]
    rintro e w2 ⟨rfl, hb⟩
    have HB2 := Aside0.mk (below_step HB1.out hb)
    clear hb HB1
    have HSF := Aside0.mk (fun h : step u = u => settle_fix h)
    have HSM := Aside0.mk (fun h : step u ≠ u => settle_more h)
    generalize step u = q at HSB HSF HSM ⊢
    by_cases hq : q = u
    · have hqb : (q.toList == u.toList) = true := by rw [hq]; simp
      have HQU := Aside0.mk (show u = z by rw [← HSF.out hq, HU.out])
      clear hq
      go_wp2
      clear HTB HSB HRT HUN HST HSF HSM HU
      go_loopw [4, 5, 6] (fun a b v w' => ∃ i : Nat, v = .int .i64 i ∧ i ≤ u.size ∧ a = .string (bs (oF u i)) ∧ b = .bool (gapv u i) ∧ Aside0 (Below w.heap.size w w')) (fun _ _ v _ => u.size - (intOf v).toNat)
      case atStart => exact ⟨0, rfl, Nat.zero_le _, rfl, rfl, HB2⟩
      case round =>
        clear HB2
        obtain ⟨i, rfl, hi, rfl, rfl, HB⟩ := hrel
        by_cases hlt : i < u.size
        · have HBY := Aside0.mk (byt_of u i hlt)
          have HOF := Aside0.mk (show oF u (i + 1) = if blk (byt u i) = true then oF u i else oF u i ++ (if gapv u i = true then [32] else []) ++ [byt u i] from rfl)
          have HG := Aside0.mk (show gapv u (i + 1) = blk (byt u i) by simp [gapv])
          have HOB := Aside0.mk (one_byte u i hlt)
          have hsl : ∀ W : World, (Instr.slice 9 (.string u) (some (.int .i64 (i : Int))) (some (.int .i64 ((i : Int) + 1))) none).run Tryd.prog W = .ok (.string (u.extract i (i + 1))) W := fun W => by
            simp [Instr.slice, run_underlying Tryd.underlying9, Instr.sliceBounds, run_sliceBound_if, Result.andThen, go_sem]
            rw [if_pos (by omega)]
            simp [Result.andThen]
            try rw [if_pos (by omega)]
            try simp [Result.andThen]
          have hlen := oF_len u i
          have hsz := bs_size (oF u i)
          have hT : (bs (oF u i)).size ≤ 2 * i := by omega
          clear hsz hlen
          go_wp2_with fail
          refine (isBlank_calls _ _).mono ?_
          rintro e w5 ⟨rfl, rfl⟩
          cases hb : blk (u[i])
          · have HNB := Aside0.mk (show blk (byt u i) = false by rw [HBY.out]; exact hb)
            clear hb
            cases hg : gapv u i
            · have HE := Aside0.mk (show bs (oF u i) ++ u.extract i (i + 1) = bs (oF u (i + 1)) by
                rw [HOB.out, bs_append, HOF.out, HNB.out, hg]; simp)
              have HG1 := Aside0.mk (show gapv u (i + 1) = false by rw [HG.out, HNB.out])
              clear hg
              generalize bs (oF u i) = T at hT HE ⊢
              go_wp2
              go_roundw
              case rel => exact ⟨i + 1, by go_num, by omega, by rw [HE.out], by rw [HG1.out], HB⟩
              case measure => simp [intOf]; omega
            · have HE := Aside0.mk (show bs (oF u i) ++ ⟨#[32]⟩ ++ u.extract i (i + 1) = bs (oF u (i + 1)) by
                rw [HOB.out, show (⟨#[32]⟩ : ByteArray) = bs [32] from rfl, bs_append, bs_append, HOF.out, HNB.out, hg]; simp)
              have HG1 := Aside0.mk (show gapv u (i + 1) = false by rw [HG.out, HNB.out])
              clear hg
              generalize bs (oF u i) = T at hT HE ⊢
              have h32 : (⟨#[32]⟩ : ByteArray).size = 1 := rfl
              go_wp2
              go_roundw
              case rel => exact ⟨i + 1, by go_num, by omega, by rw [HE.out], by rw [HG1.out], HB⟩
              case measure => simp [intOf]; omega
          · have HYB := Aside0.mk (show blk (byt u i) = true by rw [HBY.out]; exact hb)
            have HE := Aside0.mk (show oF u (i + 1) = oF u i by rw [HOF.out, if_pos HYB.out])
            have HG1 := Aside0.mk (show gapv u (i + 1) = true by rw [HG.out, HYB.out])
            clear hb
            go_wp2
            go_roundw
            case rel => exact ⟨i + 1, by go_num, by omega, by rw [HE.out], by rw [HG1.out], HB⟩
            case measure => simp [intOf]; omega
        · have HE := Aside0.mk (show bs (oF u i) = bs (oF z z.size) by rw [← HQU.out, show i = u.size by omega])
          rw [HE.out]
          go_wp2
          go_ret
          exact ⟨rfl, HB.out⟩
    · have hqb : (q.toList == u.toList) = false := beq_eq_false_iff_ne.mpr fun e => hq (bytes_eq e)
      have HQ := Aside0.mk hq
      have hlt := HSB.out.2 hq
      have HM := Aside0.mk (show settle q = z by rw [← HSM.out hq, HU.out])
      clear hq
      go_wp2
      go_roundw
      case rel => exact ⟨q, rfl, by omega, HM, HB2⟩
      case measure => exact hlt
end Go.Proofs.YtfnmcpgngnlodaaDoor.Cleans
