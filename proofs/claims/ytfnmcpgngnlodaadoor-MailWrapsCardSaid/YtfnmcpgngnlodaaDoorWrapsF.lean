/- WrappedOf divides lines as the plain law says; Wrap's errors. Conditions: widths and sizes in range. -/
import Derived.Test.YtfnmcpgngnlodaaDoorWrapsD
namespace Go.Proofs.YtfnmcpgngnlodaaDoor.Wraps
open Go.RowKit Go.Proofs.YtfnmcpgngnlodaaDoorW.PrintWords Go.Proofs.YtfnmcpgngnlodaaDoorW.PrintLast Go.Proofs.YtfnmcpgngnlodaaDoorW.PrintMore
open Go.Proofs.YtfnmcpgngnlodaaDoor.Forms
set_option linter.unusedVariables false
set_option linter.unusedSimpArgs false

theorem qt_at (t : ByteArray) (h : 0 < t.size) : qt t = true ↔ (t[0].toNat : Int) = 62 := by
  have e := byt_at t 0 h
  unfold byt at e
  rw [← e]
  unfold qt Lib.hasPrefix
  have hl := len_data t
  rcases ht : t.data.toList with _ | ⟨b, r⟩
  · rw [ht] at hl; simp at hl; omega
  · simp only [List.isPrefixOf, List.getD_cons_zero, Bool.and_true, beq_iff_eq]
    constructor
    · intro h; rw [← h]; rfl
    · intro h
      have : b.toNat = 62 := by omega
      exact (UInt8.toNat_inj.1 this).symm

set_option maxHeartbeats 8000000 in
set_option maxRecDepth 100000 in
theorem wrappedOf_calls (A0 : Option Addr) (c0 : Nat) (l0 : List ByteArray) (n : Int) (hn1 : 20 ≤ n) (hn2 : n ≤ 400) (hl0 : l0.length ≤ 400) (hs : ∀ s ∈ l0, s.size ≤ 400) (w : World) (hr0 : Kd.C Kd.string w A0 l0.length l0) :
    Calls Tryd.prog 18 #[.slice A0 l0.length c0, .int .i64 n] w fun e w' => ∃ v, e = .returned v ∧ Kd.string.R 9 w' w.heap.size (fun _ => True) v (cutUp n l0) ∧ Below w.heap.size w w' := by
  have HR0 := Aside0.mk hr0
  have HS := Aside0.mk (fun x : Nat => fun h : x < l0.length => show (rdOf ByteArray.empty l0 x).size ≤ 400 from by rw [rdOf_getElem l0 x h]; exact hs _ (List.getElem_mem _))
  clear hr0 hs
  go_enter Tryd.func18, Tryd.ntmps18
  go_wp2
  go_loopw [5, 11] (fun v8 v w' => ∃ x : Nat, v = .int .i64 x ∧ x ≤ l0.length ∧ Aside0 (Kd.string.R 9 w' w.heap.size (fun _ => True) v8 (cutUp n (l0.take x))) ∧ (cutUp n (l0.take x)).length ≤ 401 * x ∧ Aside0 (Below w.heap.size w w')) (fun _ v _ => l0.length - (intOf v).toNat)
  case atStart => exact ⟨0, rfl, Nat.zero_le _, ⟨by simpa [cutUp] using Kd.R_nil Kd.string 9 _ _ _⟩, by simp [cutUp], ⟨Below.refl _ _⟩⟩
  case round =>
    obtain ⟨x, rfl, hx, HR, hlen, HB⟩ := hrel
    by_cases hlt : x < l0.length
    · obtain ⟨ad, e, h0⟩ := at_str HR0.out x (by omega) (by omega)
      cases e
      replace h0 := (HB.out.cell (World.block_lt_of_cell? w _ h0)).trans h0
      simp only [Int.toNat_natCast] at h0
      have hsz := HS.out x hlt
      have FT := Aside0.mk (cutUp_take n l0 x hlt)
      generalize rdOf ByteArray.empty l0 (x : Int) = s at h0 hsz FT
      have hx400 : x < 400 := by omega
      generalize cutUp n (l0.take x) = xs0 at HR hlen FT
      go_wp2
      go_loopw [5, 7] (fun v8 vs w' => ∃ (t : ByteArray) (xs : List ByteArray), vs = .string t ∧ t.size ≤ 400 ∧ Aside0 (Kd.string.R 9 w' w.heap.size (fun _ => True) v8 xs) ∧ Aside0 (xs ++ pieces n t = cutUp n (l0.take (x + 1))) ∧ xs.length + t.size ≤ 401 * x + 400 ∧ Aside0 (Below w.heap.size w w')) (fun _ v _ => match v with | .string t => t.size | _ => 0)
      case atStart => exact ⟨s, xs0, rfl, hsz, HR, ⟨FT.out.symm⟩, by omega, HB⟩
      case round =>
        clear HR hlen HB h0 FT hsz
        obtain ⟨t, xs, rfl, ht, HR, HX, hlen, HB⟩ := hrel
        by_cases hlong : n < t.size
        · have ht0 : 0 < t.size := by omega
          have HQA := Aside0.mk (qt_at t ht0)
          by_cases h62 : (t[0].toNat : Int) = 62
          · have HQ := Aside0.mk (HQA.out.2 h62)
            have HP := Aside0.mk (show xs ++ [t] = cutUp n (l0.take (x + 1)) by rw [← HX.out, pieces_last n t (fun h => by rw [HQ.out] at h; exact absurd h.2.1 (by decide))])
            have hpl : (cutUp n (l0.take (x + 1))).length ≤ 401 * (x + 1) := by
              rw [← HP.out, List.length_append]; simp only [List.length_cons, List.length_nil]; omega
            have hb16 : (xs.length + 1) * 16 ≤ 140737488355328 := by omega
            clear hlen
            go_wp2_with (at_builtin; refine Kd.R_append Kd.string w.heap.size rfl _ _ 30 9 (.string ⟨#[]⟩) 16 rfl Tryd.underlying30 info9 rfl (by decide) (by decide) u5 xs t [.string t] (fun _ => True) (fun _ => False) rfl rfl rfl (fun _ h => h.elim) (fun _ _ => trivial) HR.out HB.out (HB.out.size) hb16 ?_)
            intro v1 w4 hr1 hb1 _ _
            rw [HP.out] at hr1
            have HR1 := Aside0.mk hr1
            have HB1 := Aside0.mk hb1
            clear hr1 hb1
            go_wp2
            go_roundw
            case rel => exact ⟨x + 1, by go_num, by omega, HR1, by omega, HB1⟩
            case measure => simp [intOf]; omega
          · have HQ := Aside0.mk (show qt t = false by
              cases h : qt t
              · rfl
              · exact absurd (HQA.out.1 h) h62)
            go_wp2_with fail
            refine (cutOf_calls t n ht _).mono ?_
            rintro e w3 ⟨rfl, hb⟩
            have HB2 := HB
            have HR2 := HR
            clear HB HR
            have HB := Aside0.mk (below_step HB2.out hb)
            have HR := Aside0.mk (Kd.R_below HR2.out hb)
            clear hb HB2 HR2
            have HPM := Aside0.mk (pieces_more n t hlong HQ.out)
            have HPL := Aside0.mk (pieces_last n t)
            have hk1 := (cutAt_bound t n).1
            have hk2 := (cutAt_bound t n).2
            generalize cutAt t n = k at HPM HPL hk1 hk2 ⊢
            by_cases hk : k < 0
            · have HK := Aside0.mk hk
              have HP := Aside0.mk (show xs ++ [t] = cutUp n (l0.take (x + 1)) by rw [← HX.out, HPL.out (fun h => by have := HK.out; omega)])
              have hpl : (cutUp n (l0.take (x + 1))).length ≤ 401 * (x + 1) := by
                rw [← HP.out, List.length_append]; simp only [List.length_cons, List.length_nil]; omega
              have hb16 : (xs.length + 1) * 16 ≤ 140737488355328 := by omega
              clear hlen
              go_wp2_with (at_builtin; refine Kd.R_append Kd.string w.heap.size rfl _ _ 30 9 (.string ⟨#[]⟩) 16 rfl Tryd.underlying30 info9 rfl (by decide) (by decide) u5 xs t [.string t] (fun _ => True) (fun _ => False) rfl rfl rfl (fun _ h => h.elim) (fun _ _ => trivial) HR.out HB.out (HB.out.size) hb16 ?_)
              intro v1 w4 hr1 hb1 _ _
              rw [HP.out] at hr1
              have HR1 := Aside0.mk hr1
              have HB1 := Aside0.mk hb1
              clear hr1 hb1
              go_wp2
              go_roundw
              case rel => exact ⟨x + 1, by go_num, by omega, HR1, by omega, HB1⟩
              case measure => simp [intOf]; omega
            · obtain ⟨j, rfl⟩ : ∃ j : Nat, k = (j : Int) := ⟨k.toNat, by omega⟩
              have HP := Aside0.mk (HPM.out (by omega))
              clear HPM HPL
              simp only [Int.toNat_natCast] at HP
              have hb16 : (xs.length + 1) * 16 ≤ 140737488355328 := by omega
              go_wp2_with (at_builtin; refine Kd.R_append Kd.string w.heap.size rfl _ _ 30 9 (.string ⟨#[]⟩) 16 rfl Tryd.underlying30 info9 rfl (by decide) (by decide) u5 xs (t.extract 0 j) [.string (t.extract 0 j)] (fun _ => True) (fun _ => False) rfl rfl rfl (fun _ h => h.elim) (fun _ _ => trivial) HR.out HB.out (HB.out.size) hb16 ?_)
              intro v1 w4 hr1 hb1 _ _
              have HR1 := Aside0.mk hr1
              have HB1 := Aside0.mk hb1
              clear hr1 hb1
              go_wp2
              have hes : (t.extract (j + 1) t.size).size = t.size - (j + 1) := by rw [ByteArray.size_extract]; omega
              go_roundw
              case rel => exact ⟨t.extract (j + 1) t.size, xs ++ [t.extract 0 j], rfl, by omega, HR1, ⟨by rw [← HX.out, HP.out]; simp⟩, by rw [List.length_append, hes]; simp only [List.length_cons, List.length_nil]; omega, HB1⟩
              case measure => first | (show (t.extract (j + 1) t.size).size < t.size; omega) | (simp; omega)
        · have HNL := Aside0.mk hlong
          have HP := Aside0.mk (show xs ++ [t] = cutUp n (l0.take (x + 1)) by rw [← HX.out, pieces_last n t (fun h => HNL.out h.1)])
          have hpl : (cutUp n (l0.take (x + 1))).length ≤ 401 * (x + 1) := by
            rw [← HP.out, List.length_append]; simp only [List.length_cons, List.length_nil]; omega
          have hb16 : (xs.length + 1) * 16 ≤ 140737488355328 := by omega
          clear hlen
          go_wp2_with (at_builtin; refine Kd.R_append Kd.string w.heap.size rfl _ _ 30 9 (.string ⟨#[]⟩) 16 rfl Tryd.underlying30 info9 rfl (by decide) (by decide) u5 xs t [.string t] (fun _ => True) (fun _ => False) rfl rfl rfl (fun _ h => h.elim) (fun _ _ => trivial) HR.out HB.out (HB.out.size) hb16 ?_)
          intro v1 w4 hr1 hb1 _ _
          rw [HP.out] at hr1
          have HR1 := Aside0.mk hr1
          have HB1 := Aside0.mk hb1
          clear hr1 hb1
          go_wp2
          go_roundw
          case rel => exact ⟨x + 1, by go_num, by omega, HR1, by omega, HB1⟩
          case measure => simp [intOf]; omega
    · have HF := Aside0.mk (show cutUp n (l0.take x) = cutUp n l0 by rw [List.take_of_length_le (by omega)])
      rw [HF.out] at HR
      go_wp2
      go_ret
      exact ⟨_, rfl, HR.out, HB.out⟩

set_option maxHeartbeats 4000000 in
set_option maxRecDepth 100000 in
theorem wrap_range (A0 : Option Addr) (c0 m : Nat) (n : Int) (hn : n < 20 ∨ 400 < n) (w : World) :
    Calls Tryd.prog 14 #[.slice A0 m c0, .int .i64 n] w fun e w' => e = .returned (.tuple #[.slice none 0 0, .int .i64 2]) ∧ Below w.heap.size w w' := by
  rcases hn with hn | hn <;>
  · go_enter Tryd.func14, Tryd.ntmps14
    go_wp2
    go_ret2
    exact ⟨rfl, Below.refl _ _⟩
set_option maxHeartbeats 4000000 in
set_option maxRecDepth 100000 in
theorem wrap_lines (A0 : Option Addr) (c0 m : Nat) (n : Int) (hn1 : 20 ≤ n) (hn2 : n ≤ 400) (hm : 400 < m) (w : World) :
    Calls Tryd.prog 14 #[.slice A0 m c0, .int .i64 n] w fun e w' => e = .returned (.tuple #[.slice none 0 0, .int .i64 4]) ∧ Below w.heap.size w w' := by
  go_enter Tryd.func14, Tryd.ntmps14
  go_wp2
  go_ret2
  exact ⟨rfl, Below.refl _ _⟩
set_option maxHeartbeats 4000000 in
set_option maxRecDepth 100000 in
theorem wrap_large (A0 : Option Addr) (c0 : Nat) (l0 : List ByteArray) (n : Int) (hn1 : 20 ≤ n) (hn2 : n ≤ 400) (hl0 : l0.length ≤ 400) (hs : ∃ s ∈ l0, 400 < s.size) (w : World) (hr0 : Kd.C Kd.string w A0 l0.length l0) :
    Calls Tryd.prog 14 #[.slice A0 l0.length c0, .int .i64 n] w fun e w' => e = .returned (.tuple #[.slice none 0 0, .int .i64 4]) ∧ Below w.heap.size w w' := by
  have HR0 := Aside0.mk hr0
  have HS := Aside0.mk hs
  clear hr0 hs
  go_enter Tryd.func14, Tryd.ntmps14
  go_wp2
  go_loopw [23] (fun v w' => ∃ x : Nat, v = .int .i64 x ∧ x ≤ l0.length ∧ Aside0 (∀ j : Nat, j < x → (rdOf ByteArray.empty l0 j).size ≤ 400) ∧ Aside0 (Below w.heap.size w w')) (fun v _ => l0.length - (intOf v).toNat)
  case atStart => exact ⟨0, rfl, Nat.zero_le _, ⟨fun j h => absurd h (Nat.not_lt_zero j)⟩, ⟨Below.refl _ _⟩⟩
  case round =>
    obtain ⟨x, rfl, hx, HE, HB⟩ := hrel
    by_cases hlt : x < l0.length
    · obtain ⟨ad, e, h0⟩ := at_str HR0.out x (by omega) (by omega)
      cases e
      replace h0 := (HB.out.cell (World.block_lt_of_cell? w _ h0)).trans h0
      simp only [Int.toNat_natCast] at h0
      generalize hg : rdOf ByteArray.empty l0 (x : Int) = s at h0
      have HG := Aside0.mk hg
      clear hg
      by_cases hsz : 400 < s.size
      · go_wp2
        go_ret2
        exact ⟨rfl, HB.out⟩
      · have HZ := Aside0.mk hsz
        go_wp2
        go_roundw
        case rel => exact ⟨x + 1, by go_num, by omega, ⟨fun j hj => by
          by_cases e : j = x
          · rw [e, HG.out]; have := HZ.out; omega
          · exact HE.out j (by omega)⟩, HB⟩
        case measure => simp [intOf]; omega
    · exfalso
      obtain ⟨s, hs, h⟩ := HS.out
      obtain ⟨j, hj, rfl⟩ := List.getElem_of_mem hs
      have := HE.out j (by omega)
      rw [rdOf_getElem l0 j hj] at this
      omega
end Go.Proofs.YtfnmcpgngnlodaaDoor.Wraps
