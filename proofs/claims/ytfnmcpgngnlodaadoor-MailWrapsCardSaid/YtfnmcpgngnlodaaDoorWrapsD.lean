/- Wrap divides lines as the plain law says. Conditions: widths and sizes in range. -/
import Derived.Test.YtfnmcpgngnlodaaDoorWrapsC
namespace Go.Proofs.YtfnmcpgngnlodaaDoor.Wraps
open Go.RowKit Go.Proofs.YtfnmcpgngnlodaaDoorW.PrintWords Go.Proofs.YtfnmcpgngnlodaaDoorW.PrintLast Go.Proofs.YtfnmcpgngnlodaaDoorW.PrintMore
open Go.Proofs.YtfnmcpgngnlodaaDoor.Forms
set_option linter.unusedVariables false
set_option linter.unusedSimpArgs false

theorem info9 : (Tryd.prog.info? 9).map (fun i => (i.zero, i.size, i.bytes)) = some (some (.string ⟨#[]⟩), 1, 16) := by kernel_rfl
theorem take_succ_str (l : List ByteArray) (x : Nat) (h : x < l.length) : l.take (x + 1) = l.take x ++ [rdOf ByteArray.empty l x] := by
  rw [List.take_succ_eq_append_getElem h, rdOf_getElem l x h]
noncomputable def cutUp (n : Int) (l : List ByteArray) : List ByteArray := l.flatMap (pieces n)
theorem cutUp_take (n : Int) (l : List ByteArray) (x : Nat) (h : x < l.length) : cutUp n (l.take (x + 1)) = cutUp n (l.take x) ++ pieces n (rdOf ByteArray.empty l x) := by
  rw [take_succ_str l x h, cutUp, cutUp, List.flatMap_append]; simp
theorem pieces_more (n : Int) (s : ByteArray) (h1 : n < s.size) (h2 : qt s = false) (h3 : 0 ≤ cutAt s n) : pieces n s = s.extract 0 (cutAt s n).toNat :: pieces n (s.extract ((cutAt s n).toNat + 1) s.size) := by
  rw [pieces, dif_pos ⟨h1, h2, h3⟩]
theorem pieces_last (n : Int) (s : ByteArray) (h : ¬ (n < s.size ∧ qt s = false ∧ 0 ≤ cutAt s n)) : pieces n s = [s] := by
  rw [pieces, dif_neg h]

set_option maxHeartbeats 8000000 in
set_option maxRecDepth 100000 in
theorem wrap_calls (A0 : Option Addr) (c0 : Nat) (l0 : List ByteArray) (n : Int) (hn1 : 20 ≤ n) (hn2 : n ≤ 400) (hl0 : l0.length ≤ 400) (hs : ∀ s ∈ l0, s.size ≤ 400) (w : World) (hr0 : Kd.C Kd.string w A0 l0.length l0) :
    Calls Tryd.prog 14 #[.slice A0 l0.length c0, .int .i64 n] w fun e w' => ∃ v, e = .returned (.tuple #[v, .int .i64 0]) ∧ Kd.string.R 9 w' w.heap.size (fun _ => True) v (cutUp n l0) ∧ Below w.heap.size w w' := by
  have HR0 := Aside0.mk hr0
  have HS := Aside0.mk (fun x : Nat => fun h : x < l0.length => show (rdOf ByteArray.empty l0 x).size ≤ 400 from by rw [rdOf_getElem l0 x h]; exact hs _ (List.getElem_mem _))
  clear hr0 hs
  go_enter Tryd.func14, Tryd.ntmps14
  go_wp2
  go_loopw [23] (fun v w' => ∃ x : Nat, v = .int .i64 x ∧ x ≤ l0.length ∧ Aside0 (Below w.heap.size w w')) (fun v _ => l0.length - (intOf v).toNat)
  case atStart => exact ⟨0, rfl, Nat.zero_le _, ⟨Below.refl _ _⟩⟩
  case round =>
    obtain ⟨x, rfl, hx, HB⟩ := hrel
    by_cases hlt : x < l0.length
    · obtain ⟨ad, e, h0⟩ := at_str HR0.out x (by omega) (by omega)
      cases e
      replace h0 := (HB.out.cell (World.block_lt_of_cell? w _ h0)).trans h0
      simp only [Int.toNat_natCast] at h0
      have hsz := HS.out x hlt
      generalize rdOf ByteArray.empty l0 (x : Int) = s at h0 hsz
      go_wp2
      go_roundw
      case rel => exact ⟨x + 1, by go_num, by omega, HB⟩
      case measure => simp [intOf]; omega
    · go_wp2
      go_loopw [8, 33] (fun v8 v w' => ∃ x : Nat, v = .int .i64 x ∧ x ≤ l0.length ∧ Aside0 (Kd.string.R 9 w' w.heap.size (fun _ => True) v8 (cutUp n (l0.take x))) ∧ (cutUp n (l0.take x)).length ≤ 401 * x ∧ Aside0 (Below w.heap.size w w')) (fun _ v _ => l0.length - (intOf v).toNat)
      case atStart => exact ⟨0, rfl, Nat.zero_le _, ⟨by simpa [cutUp] using Kd.R_nil Kd.string 9 _ _ _⟩, by simp [cutUp], HB⟩
      case round =>
        clear HB
        obtain ⟨x, rfl, hx, HR, hlen, HB⟩ := hrel
        by_cases hlt : x < l0.length
        · obtain ⟨ad, e, h0⟩ := at_str HR0.out x (by omega) (by omega)
          cases e
          replace h0 := (HB.out.cell (World.block_lt_of_cell? w _ h0)).trans h0
          simp only [Int.toNat_natCast] at h0
          have hsz := HS.out x hlt
          have FT := Aside0.mk (cutUp_take n l0 x hlt)
          generalize rdOf ByteArray.empty l0 (x : Int) = s at h0 hsz FT
          have hx400 : x < 400 := by omega
          generalize cutUp n (l0.take x) = xs0 at HR hlen FT
          go_wp2
          go_loopw [8, 10] (fun v8 vs w' => ∃ (t : ByteArray) (xs : List ByteArray), vs = .string t ∧ t.size ≤ 400 ∧ Aside0 (Kd.string.R 9 w' w.heap.size (fun _ => True) v8 xs) ∧ Aside0 (xs ++ pieces n t = cutUp n (l0.take (x + 1))) ∧ xs.length + t.size ≤ 401 * x + 400 ∧ Aside0 (Below w.heap.size w w')) (fun _ v _ => match v with | .string t => t.size | _ => 0)
          case atStart => exact ⟨s, xs0, rfl, hsz, HR, ⟨FT.out.symm⟩, by omega, HB⟩
          case round =>
            clear HR hlen HB h0 FT hsz
            obtain ⟨t, xs, rfl, ht, HR, HX, hlen, HB⟩ := hrel
            by_cases hlong : n < t.size
            · have HLG := Aside0.mk hlong
              go_wp2_with fail
              refine (quoted_calls t _).mono ?_
              cases hq : qt t
              · have HQ := Aside0.mk hq
                rintro e w2 ⟨rfl, hb⟩
                have HB2 := Aside0.mk (below_step HB.out hb)
                have HR2 := Aside0.mk (Kd.R_below HR.out hb)
                clear hb HB HR hq
                go_wp2_with fail
                refine (cut_calls t n ht _).mono ?_
                rintro e w3 ⟨rfl, hb⟩
                have HB := Aside0.mk (below_step HB2.out hb)
                have HR := Aside0.mk (Kd.R_below HR2.out hb)
                clear hb HB2 HR2
                have HPM := Aside0.mk (pieces_more n t hlong HQ.out)
                have HPL := Aside0.mk (pieces_last n t)
                have hk1 := (cutAt_bound t n).1
                have hk2 := (cutAt_bound t n).2
                generalize cutAt t n = k at HPM HPL hk1 hk2 ⊢
                by_cases hk : k < 0
                · have HK := Aside0.mk hk
                  have HP := Aside0.mk (show xs ++ [t] = cutUp n (l0.take (x + 1)) by rw [← HX.out, HPL.out (fun h => by have := HK.out; omega)])
                  have hpl : (cutUp n (l0.take (x + 1))).length ≤ 401 * (x + 1) := by
                    rw [← HP.out, List.length_append]; simp only [List.length_cons, List.length_nil]; omega
                  have hb16 : (xs.length + 1) * 16 ≤ 140737488355328 := by omega
                  clear hlen
                  go_wp2_with (at_builtin; refine Kd.R_append Kd.string w.heap.size rfl _ _ 30 9 (.string ⟨#[]⟩) 16 rfl Tryd.underlying30 info9 rfl (by decide) (by decide) u8 xs t [.string t] (fun _ => True) (fun _ => False) rfl rfl rfl (fun _ h => h.elim) (fun _ _ => trivial) HR.out HB.out (HB.out.size) hb16 ?_)
                  intro v1 w4 hr1 hb1 _ _
                  rw [HP.out] at hr1
                  have HR1 := Aside0.mk hr1
                  have HB1 := Aside0.mk hb1
                  clear hr1 hb1
                  go_wp2
                  go_roundw
                  case rel => exact ⟨x + 1, by go_num, by omega, HR1, by omega, HB1⟩
                  case measure => simp [intOf]; omega
                · obtain ⟨j, rfl⟩ : ∃ j : Nat, k = (j : Int) := ⟨k.toNat, by omega⟩
                  have HP := Aside0.mk (HPM.out (by omega))
                  clear HPM HPL
                  simp only [Int.toNat_natCast] at HP
                  have hb16 : (xs.length + 1) * 16 ≤ 140737488355328 := by omega
                  go_wp2_with (at_builtin; refine Kd.R_append Kd.string w.heap.size rfl _ _ 30 9 (.string ⟨#[]⟩) 16 rfl Tryd.underlying30 info9 rfl (by decide) (by decide) u8 xs (t.extract 0 j) [.string (t.extract 0 j)] (fun _ => True) (fun _ => False) rfl rfl rfl (fun _ h => h.elim) (fun _ _ => trivial) HR.out HB.out (HB.out.size) hb16 ?_)
                  intro v1 w4 hr1 hb1 _ _
                  have HR1 := Aside0.mk hr1
                  have HB1 := Aside0.mk hb1
                  clear hr1 hb1
                  go_wp2
                  have hes : (t.extract (j + 1) t.size).size = t.size - (j + 1) := by rw [ByteArray.size_extract]; omega
                  go_roundw
                  case rel => exact ⟨t.extract (j + 1) t.size, xs ++ [t.extract 0 j], rfl, by omega, HR1, ⟨by rw [← HX.out, HP.out]; simp⟩, by rw [List.length_append, hes]; simp only [List.length_cons, List.length_nil]; omega, HB1⟩
                  case measure => first | (show (t.extract (j + 1) t.size).size < t.size; omega) | (simp; omega)
              · have HQ := Aside0.mk hq
                rintro e w2 ⟨rfl, hb⟩
                have HB2 := Aside0.mk (below_step HB.out hb)
                have HR2 := Aside0.mk (Kd.R_below HR.out hb)
                clear hb HB HR hq
                have HB := HB2
                have HR := HR2
                clear HB2 HR2
                have HP := Aside0.mk (show xs ++ [t] = cutUp n (l0.take (x + 1)) by rw [← HX.out, pieces_last n t (fun h => by rw [HQ.out] at h; exact absurd h.2.1 (by decide))])
                have hpl : (cutUp n (l0.take (x + 1))).length ≤ 401 * (x + 1) := by
                  rw [← HP.out, List.length_append]; simp only [List.length_cons, List.length_nil]; omega
                have hb16 : (xs.length + 1) * 16 ≤ 140737488355328 := by omega
                clear hlen
                go_wp2_with (at_builtin; refine Kd.R_append Kd.string w.heap.size rfl _ _ 30 9 (.string ⟨#[]⟩) 16 rfl Tryd.underlying30 info9 rfl (by decide) (by decide) u8 xs t [.string t] (fun _ => True) (fun _ => False) rfl rfl rfl (fun _ h => h.elim) (fun _ _ => trivial) HR.out HB.out (HB.out.size) hb16 ?_)
                intro v1 w4 hr1 hb1 _ _
                rw [HP.out] at hr1
                have HR1 := Aside0.mk hr1
                have HB1 := Aside0.mk hb1
                clear hr1 hb1
                go_wp2
                go_roundw
                case rel => exact ⟨x + 1, by go_num, by omega, HR1, by omega, HB1⟩
                case measure => simp [intOf]; omega
            · have HNL := Aside0.mk hlong
              have HP := Aside0.mk (show xs ++ [t] = cutUp n (l0.take (x + 1)) by rw [← HX.out, pieces_last n t (fun h => HNL.out h.1)])
              have hpl : (cutUp n (l0.take (x + 1))).length ≤ 401 * (x + 1) := by
                rw [← HP.out, List.length_append]; simp only [List.length_cons, List.length_nil]; omega
              have hb16 : (xs.length + 1) * 16 ≤ 140737488355328 := by omega
              clear hlen
              go_wp2_with (at_builtin; refine Kd.R_append Kd.string w.heap.size rfl _ _ 30 9 (.string ⟨#[]⟩) 16 rfl Tryd.underlying30 info9 rfl (by decide) (by decide) u8 xs t [.string t] (fun _ => True) (fun _ => False) rfl rfl rfl (fun _ h => h.elim) (fun _ _ => trivial) HR.out HB.out (HB.out.size) hb16 ?_)
              intro v1 w4 hr1 hb1 _ _
              rw [HP.out] at hr1
              have HR1 := Aside0.mk hr1
              have HB1 := Aside0.mk hb1
              clear hr1 hb1
              go_wp2
              go_roundw
              case rel => exact ⟨x + 1, by go_num, by omega, HR1, by omega, HB1⟩
              case measure => simp [intOf]; omega
        · have HF := Aside0.mk (show cutUp n (l0.take x) = cutUp n l0 by rw [List.take_of_length_le (by omega)])
          rw [HF.out] at HR
          go_wp2
          go_ret2
          exact ⟨_, rfl, HR.out, HB.out⟩

end Go.Proofs.YtfnmcpgngnlodaaDoor.Wraps
