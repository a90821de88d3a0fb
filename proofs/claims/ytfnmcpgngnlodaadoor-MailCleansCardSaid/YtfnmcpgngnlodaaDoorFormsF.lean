/- slices.IndexFunc over fields, with each of the three functions that compare a field's name, answers the first place whose name is the one that was captured; ContainsFunc whether there is one. No condition but that the memory lies as told. -/
import Derived.Test.YtfnmcpgngnlodaaDoorPTicketFormsx0
namespace Go.Proofs.YtfnmcpgngnlodaaDoor.Forms
open Go.RowKit Go.Proofs.YtfnmcpgngnlodaaDoorW.PrintWords Go.Proofs.YtfnmcpgngnlodaaDoorW.PrintLast Go.Proofs.YtfnmcpgngnlodaaDoorW.PrintMore
open Go.Proofs.YtfnmcpgngnlodaaDoor.PTicketForms
set_option linter.unusedVariables false
set_option linter.unusedSimpArgs false

theorem bytes_eq {a b : ByteArray} (h : a.toList = b.toList) : a = b := by
  rw [ByteArray.toList_eq, ByteArray.toList_eq] at h
  cases a; cases b
  simp only [ByteArray.mk.injEq]
  exact Array.ext' h
open Classical in
noncomputable def eqB {α : Type} (a b : α) : Bool := decide (a = b)
theorem eqB_true {α : Type} {a b : α} (h : a = b) : eqB a b = true := by simp [eqB, h]
theorem eqB_false {α : Type} {a b : α} (h : a ≠ b) : eqB a b = false := by simp [eqB, h]
theorem eqB_bytes (a b : ByteArray) : (a.toList == b.toList) = eqB a b := by
  by_cases h : a = b
  · rw [eqB_true h, h]; simp
  · rw [eqB_false h]; exact beq_eq_false_iff_ne.mpr fun e => h (bytes_eq e)
theorem eqB_bytes' (a b : ByteArray) : (a.toList == b.toList) = eqB b a := by
  rw [eqB_bytes]
  by_cases h : a = b
  · rw [eqB_true h, eqB_true h.symm]
  · rw [eqB_false h, eqB_false (Ne.symm h)]
theorem ret_bool {a b : Bool} (h : a = b) : Ending.returned (.bool a) = .returned (.bool b) := by rw [h]
theorem ret_int {a b : Int} (h : a = b) : Ending.returned (.int .i64 a) = .returned (.int .i64 b) := by rw [h]
theorem alloc_keep {w : World} {a : Addr} {v : Value} (h : w.cell? a = some v) : ∀ o, (w.alloc o).cell? a = some v := fun o => (World.cell?_alloc_lt w o a (World.block_lt_of_cell? w _ h)).trans h
theorem wrap1 {x : Int} {n : Nat} (h0 : 0 ≤ x) (h : x < (n : Int)) (hn : n ≤ 9223372036854775807) : wrap64 (x + 1) = x + 1 := by
  unfold wrap64; omega

/-- The first place of a field with a name, or -1. -/
noncomputable def fidx (l : List S32) (nm : ByteArray) : Int := match l.findIdx? (fun x => eqB x.f0 nm) with | some i => i | none => -1
theorem fidx_at {l : List S32} {nm : ByteArray} {x : Int} (h0 : 0 ≤ x) (h1 : x < l.length) (hb : ∀ j : Nat, (j : Int) < x → (rd_T32 l j).f0 ≠ nm) (h : (rd_T32 l x).f0 = nm) : fidx l nm = x := by
  obtain ⟨n, rfl⟩ := Int.eq_ofNat_of_zero_le h0
  unfold fidx
  have hn : n < l.length := by omega
  have e : l.findIdx? (fun x => eqB x.f0 nm) = some n := by
    rw [List.findIdx?_eq_some_iff_getElem]
    refine ⟨hn, ?_, fun j hj => ?_⟩
    · have := h
      simp only [rd_T32, Int.toNat_natCast, List.getD_eq_getElem?_getD, List.getElem?_eq_getElem hn, Option.getD_some] at this
      exact eqB_true this
    · have := hb j (by omega)
      simp only [rd_T32, Int.toNat_natCast, List.getD_eq_getElem?_getD, List.getElem?_eq_getElem (Nat.lt_trans hj hn), Option.getD_some] at this
      rw [eqB_false this]; simp
  rw [e]
theorem fidx_none {l : List S32} {nm : ByteArray} (hb : ∀ j : Nat, j < l.length → (rd_T32 l j).f0 ≠ nm) : fidx l nm = -1 := by
  unfold fidx
  have e : l.findIdx? (fun x => eqB x.f0 nm) = none := by
    rw [List.findIdx?_eq_none_iff]
    intro x hx
    obtain ⟨j, hj, rfl⟩ := List.mem_iff_getElem.1 hx
    have := hb j hj
    simp only [rd_T32, Int.toNat_natCast, List.getD_eq_getElem?_getD, List.getElem?_eq_getElem hj, Option.getD_some] at this
    exact eqB_false this
  rw [e]

theorem f10_calls (p : Addr) (nm : ByteArray) (x : S32) (cx : List Value) (w : World) (hnm : w.cell? p = some (.string nm)) (hx : k32.K w x cx) :
    Calls Tryd.prog 10 #[.agg cx.toArray, .pointer (some p)] w fun e w' => e = .returned (.bool (eqB x.f0 nm)) ∧ Below w.heap.size w w' := by
  obtain ⟨A2, c2, rfl, _, _⟩ := k32_open hx
  clear hx
  have hal := alloc_keep hnm
  clear hnm
  go_enter Tryd.func10, Tryd.ntmps10
  go_wp2
  go_ret
  exact ⟨ret_bool (eqB_bytes _ _), below_alloc (Below.refl _ _) _⟩

set_option maxHeartbeats 2000000 in
theorem index10_calls (p : Addr) (nm : ByteArray) (A0 : Option Addr) (c0 : Nat) (l0 : List S32) (w : World) (hnm : w.cell? p = some (.string nm)) (hr0 : Kd.C k32 w A0 l0.length l0) :
    Calls Tryd.prog 9 #[.slice A0 l0.length c0, .func (.func 10) #[] #[.pointer (some p)]] w fun e w' => e = .returned (.int .i64 (fidx l0 nm)) ∧ Below w.heap.size w w' := by
  have hb0 : l0.length ≤ 9223372036854775807 := hr0.2.1
  have HR0 := Aside0.mk hr0
  have HN := Aside0.mk hnm
  clear hr0 hnm
  go_enter Tryd.func9, Tryd.ntmps9
  go_wp2
  go_loopw [8] (fun v w' => ∃ (x : Int), v = .int .i64 x ∧ 0 ≤ x ∧ x ≤ l0.length ∧ Aside0 (∀ j : Nat, (j : Int) < x → (rd_T32 l0 j).f0 ≠ nm) ∧ Aside0 (Below w.heap.size w w')) (fun v _ => l0.length - (intOf v).toNat)
  case atStart => exact ⟨0, rfl, Int.le_refl _, by omega, ⟨fun j h => by omega⟩, ⟨Below.refl _ _⟩⟩
  case round =>
    obtain ⟨x, rfl, hx0, hx1, HE, HB⟩ := hrel
    by_cases hlt : x < l0.length
    · obtain ⟨ad, A2, c2, e, h0, h1, h2, h3, l2, g2⟩ := at_T32 HR0.out x hx0 hlt
      have K := Aside0.mk (k32_mk w (rd_T32 l0 x) l2 g2)
      clear l2 g2
      cases e
      replace h0 := (HB.out.cell (World.block_lt_of_cell? w _ h0)).trans h0
      replace h1 := (HB.out.cell (World.block_lt_of_cell? w _ h1)).trans h1
      replace h2 := (HB.out.cell (World.block_lt_of_cell? w _ h2)).trans h2
      replace h3 := (HB.out.cell (World.block_lt_of_cell? w _ h3)).trans h3
      by_cases heq : (rd_T32 l0 x).f0 = nm
      · have HQ := Aside0.mk heq
        have HF := Aside0.mk (fidx_at hx0 hlt HE.out heq)
        clear heq
        go_wp2_with fail
        refine (f10_calls p nm (rd_T32 l0 x) _ _ ((HB.out.cell (World.block_lt_of_cell? w _ HN.out)).trans HN.out) (k32.K_below HB.out K.out)).mono ?_
        rw [eqB_true HQ.out]
        rintro e w' ⟨rfl, hb⟩
        have HB2 := Aside0.mk (below_step HB.out hb)
        clear hb
        go_wp2
        go_ret
        exact ⟨ret_int HF.out.symm, HB2.out⟩
      · have HQ := Aside0.mk heq
        clear heq
        go_wp2_with fail
        refine (f10_calls p nm (rd_T32 l0 x) _ _ ((HB.out.cell (World.block_lt_of_cell? w _ HN.out)).trans HN.out) (k32.K_below HB.out K.out)).mono ?_
        rw [eqB_false HQ.out]
        rintro e w' ⟨rfl, hb⟩
        have HB2 := Aside0.mk (below_step HB.out hb)
        clear hb
        go_wp2
        go_roundw
        case rel => exact ⟨x + 1, rfl, by omega, by omega, ⟨fun j hj => by
          rcases Int.lt_or_eq_of_le (show (j : Int) ≤ x by omega) with h | h
          · exact HE.out j h
          · rw [h]; exact HQ.out⟩, HB2⟩
        case measure => simp [intOf]; omega
    · have HF := Aside0.mk (fidx_none (l := l0) (nm := nm) (fun j hj => HE.out j (by omega)))
      go_wp2
      go_ret
      exact ⟨ret_int HF.out.symm, HB.out⟩

theorem f39_calls (p : Addr) (nm : ByteArray) (x : S32) (cx : List Value) (w : World) (hnm : w.cell? p = some (.string nm)) (hx : k32.K w x cx) :
    Calls Tryd.prog 39 #[.agg cx.toArray, .pointer (some p)] w fun e w' => e = .returned (.bool (eqB x.f0 nm)) ∧ Below w.heap.size w w' := by
  obtain ⟨A2, c2, rfl, _, _⟩ := k32_open hx
  clear hx
  have hal := alloc_keep hnm
  clear hnm
  go_enter Tryd.func39, Tryd.ntmps39
  go_wp2
  go_ret
  exact ⟨ret_bool (eqB_bytes _ _), below_alloc (Below.refl _ _) _⟩

set_option maxHeartbeats 2000000 in
theorem index39_calls (p : Addr) (nm : ByteArray) (A0 : Option Addr) (c0 : Nat) (l0 : List S32) (w : World) (hnm : w.cell? p = some (.string nm)) (hr0 : Kd.C k32 w A0 l0.length l0) :
    Calls Tryd.prog 9 #[.slice A0 l0.length c0, .func (.func 39) #[] #[.pointer (some p)]] w fun e w' => e = .returned (.int .i64 (fidx l0 nm)) ∧ Below w.heap.size w w' := by
  have hb0 : l0.length ≤ 9223372036854775807 := hr0.2.1
  have HR0 := Aside0.mk hr0
  have HN := Aside0.mk hnm
  clear hr0 hnm
  go_enter Tryd.func9, Tryd.ntmps9
  go_wp2
  go_loopw [8] (fun v w' => ∃ (x : Int), v = .int .i64 x ∧ 0 ≤ x ∧ x ≤ l0.length ∧ Aside0 (∀ j : Nat, (j : Int) < x → (rd_T32 l0 j).f0 ≠ nm) ∧ Aside0 (Below w.heap.size w w')) (fun v _ => l0.length - (intOf v).toNat)
  case atStart => exact ⟨0, rfl, Int.le_refl _, by omega, ⟨fun j h => by omega⟩, ⟨Below.refl _ _⟩⟩
  case round =>
    obtain ⟨x, rfl, hx0, hx1, HE, HB⟩ := hrel
    by_cases hlt : x < l0.length
    · obtain ⟨ad, A2, c2, e, h0, h1, h2, h3, l2, g2⟩ := at_T32 HR0.out x hx0 hlt
      have K := Aside0.mk (k32_mk w (rd_T32 l0 x) l2 g2)
      clear l2 g2
      cases e
      replace h0 := (HB.out.cell (World.block_lt_of_cell? w _ h0)).trans h0
      replace h1 := (HB.out.cell (World.block_lt_of_cell? w _ h1)).trans h1
      replace h2 := (HB.out.cell (World.block_lt_of_cell? w _ h2)).trans h2
      replace h3 := (HB.out.cell (World.block_lt_of_cell? w _ h3)).trans h3
      by_cases heq : (rd_T32 l0 x).f0 = nm
      · have HQ := Aside0.mk heq
        have HF := Aside0.mk (fidx_at hx0 hlt HE.out heq)
        clear heq
        go_wp2_with fail
        refine (f39_calls p nm (rd_T32 l0 x) _ _ ((HB.out.cell (World.block_lt_of_cell? w _ HN.out)).trans HN.out) (k32.K_below HB.out K.out)).mono ?_
        rw [eqB_true HQ.out]
        rintro e w' ⟨rfl, hb⟩
        have HB2 := Aside0.mk (below_step HB.out hb)
        clear hb
        go_wp2
        go_ret
        exact ⟨ret_int HF.out.symm, HB2.out⟩
      · have HQ := Aside0.mk heq
        clear heq
        go_wp2_with fail
        refine (f39_calls p nm (rd_T32 l0 x) _ _ ((HB.out.cell (World.block_lt_of_cell? w _ HN.out)).trans HN.out) (k32.K_below HB.out K.out)).mono ?_
        rw [eqB_false HQ.out]
        rintro e w' ⟨rfl, hb⟩
        have HB2 := Aside0.mk (below_step HB.out hb)
        clear hb
        go_wp2
        go_roundw
        case rel => exact ⟨x + 1, rfl, by omega, by omega, ⟨fun j hj => by
          rcases Int.lt_or_eq_of_le (show (j : Int) ≤ x by omega) with h | h
          · exact HE.out j h
          · rw [h]; exact HQ.out⟩, HB2⟩
        case measure => simp [intOf]; omega
    · have HF := Aside0.mk (fidx_none (l := l0) (nm := nm) (fun j hj => HE.out j (by omega)))
      go_wp2
      go_ret
      exact ⟨ret_int HF.out.symm, HB.out⟩

theorem f36_calls (p : Addr) (nm : ByteArray) (hp : p.spot = none) (x : S32) (cx : List Value) (w : World) (hnm : w.cell? p = some (.string nm)) (hx : k32.K w x cx) :
    Calls Tryd.prog 36 #[.agg cx.toArray, .pointer (some p)] w fun e w' => e = .returned (.bool (eqB x.f0 nm)) ∧ Below w.heap.size w w' := by
  obtain ⟨A2, c2, rfl, _, _⟩ := k32_open hx
  clear hx
  obtain ⟨b, off, sp⟩ := p
  obtain rfl : sp = none := hp
  have hal := alloc_keep hnm
  clear hnm
  go_enter Tryd.func36, Tryd.ntmps36
  go_wp2
  go_ret
  exact ⟨ret_bool (eqB_bytes' _ _), below_alloc (Below.refl _ _) _⟩

set_option maxHeartbeats 2000000 in
theorem index36_calls (p : Addr) (nm : ByteArray) (hp : p.spot = none) (A0 : Option Addr) (c0 : Nat) (l0 : List S32) (w : World) (hnm : w.cell? p = some (.string nm)) (hr0 : Kd.C k32 w A0 l0.length l0) :
    Calls Tryd.prog 9 #[.slice A0 l0.length c0, .func (.func 36) #[] #[.pointer (some p)]] w fun e w' => e = .returned (.int .i64 (fidx l0 nm)) ∧ Below w.heap.size w w' := by
  have hb0 : l0.length ≤ 9223372036854775807 := hr0.2.1
  have HR0 := Aside0.mk hr0
  have HN := Aside0.mk hnm
  clear hr0 hnm
  go_enter Tryd.func9, Tryd.ntmps9
  go_wp2
  go_loopw [8] (fun v w' => ∃ (x : Int), v = .int .i64 x ∧ 0 ≤ x ∧ x ≤ l0.length ∧ Aside0 (∀ j : Nat, (j : Int) < x → (rd_T32 l0 j).f0 ≠ nm) ∧ Aside0 (Below w.heap.size w w')) (fun v _ => l0.length - (intOf v).toNat)
  case atStart => exact ⟨0, rfl, Int.le_refl _, by omega, ⟨fun j h => by omega⟩, ⟨Below.refl _ _⟩⟩
  case round =>
    obtain ⟨x, rfl, hx0, hx1, HE, HB⟩ := hrel
    by_cases hlt : x < l0.length
    · obtain ⟨ad, A2, c2, e, h0, h1, h2, h3, l2, g2⟩ := at_T32 HR0.out x hx0 hlt
      have K := Aside0.mk (k32_mk w (rd_T32 l0 x) l2 g2)
      clear l2 g2
      cases e
      replace h0 := (HB.out.cell (World.block_lt_of_cell? w _ h0)).trans h0
      replace h1 := (HB.out.cell (World.block_lt_of_cell? w _ h1)).trans h1
      replace h2 := (HB.out.cell (World.block_lt_of_cell? w _ h2)).trans h2
      replace h3 := (HB.out.cell (World.block_lt_of_cell? w _ h3)).trans h3
      by_cases heq : (rd_T32 l0 x).f0 = nm
      · have HQ := Aside0.mk heq
        have HF := Aside0.mk (fidx_at hx0 hlt HE.out heq)
        clear heq
        go_wp2_with fail
        refine (f36_calls p nm hp (rd_T32 l0 x) _ _ ((HB.out.cell (World.block_lt_of_cell? w _ HN.out)).trans HN.out) (k32.K_below HB.out K.out)).mono ?_
        rw [eqB_true HQ.out]
        rintro e w' ⟨rfl, hb⟩
        have HB2 := Aside0.mk (below_step HB.out hb)
        clear hb
        go_wp2
        go_ret
        exact ⟨ret_int HF.out.symm, HB2.out⟩
      · have HQ := Aside0.mk heq
        clear heq
        go_wp2_with fail
        refine (f36_calls p nm hp (rd_T32 l0 x) _ _ ((HB.out.cell (World.block_lt_of_cell? w _ HN.out)).trans HN.out) (k32.K_below HB.out K.out)).mono ?_
        rw [eqB_false HQ.out]
        rintro e w' ⟨rfl, hb⟩
        have HB2 := Aside0.mk (below_step HB.out hb)
        clear hb
        go_wp2
        go_roundw
        case rel => exact ⟨x + 1, rfl, by omega, by omega, ⟨fun j hj => by
          rcases Int.lt_or_eq_of_le (show (j : Int) ≤ x by omega) with h | h
          · exact HE.out j h
          · rw [h]; exact HQ.out⟩, HB2⟩
        case measure => simp [intOf]; omega
    · have HF := Aside0.mk (fidx_none (l := l0) (nm := nm) (fun j hj => HE.out j (by omega)))
      go_wp2
      go_ret
      exact ⟨ret_int HF.out.symm, HB.out⟩

theorem contains_calls (p : Addr) (nm : ByteArray) (hp : p.spot = none) (A0 : Option Addr) (c0 : Nat) (l0 : List S32) (w : World) (hnm : w.cell? p = some (.string nm)) (hr0 : Kd.C k32 w A0 l0.length l0) :
    Calls Tryd.prog 35 #[.slice A0 l0.length c0, .func (.func 36) #[] #[.pointer (some p)]] w fun e w' => e = .returned (.bool (decide (0 ≤ fidx l0 nm))) ∧ Below w.heap.size w w' := by
  have H := Aside0.mk (index36_calls p nm hp A0 c0 l0 w hnm hr0)
  clear hr0 hnm
  generalize fidx l0 nm = r at H ⊢
  go_enter Tryd.func35, Tryd.ntmps35
  go_wp2_with fail
  refine H.out.mono ?_
  rintro e w' ⟨rfl, hb⟩
  by_cases h : 0 ≤ r
  · go_wp2
    go_ret
    exact ⟨ret_bool (by simp [h]), hb⟩
  · go_wp2
    go_ret
    exact ⟨ret_bool (by simp [h]), hb⟩

theorem fieldNumber_calls (A0 : Option Addr) (c0 : Nat) (l0 : List S32) (nm : ByteArray) (w : World) (hr0 : Kd.C k32 w A0 l0.length l0) :
    Calls Tryd.prog 12 #[.agg #[.slice A0 l0.length c0], .string nm] w fun e w' => e = .returned (.int .i64 (fidx l0 nm)) ∧ Below w.heap.size w w' := by
  have HR0 := Aside0.mk hr0
  clear hr0
  have hmf : ∀ (fn : Fn) (first cap : Array Value) (w : World), (Instr.makeFunc fn first cap).run Tryd.prog w = .ok (.func fn first cap) w := fun _ _ _ _ => rfl
  go_enter Tryd.func12, Tryd.ntmps12
  go_wp2_with fail
  refine (index39_calls _ nm A0 c0 l0 _ ?_ (Kd.C_below HR0.out (below_alloc (below_alloc (Below.refl _ _) _) _))).mono ?_
  · go_simp
  rintro e w' ⟨rfl, hb⟩
  have HB := Aside0.mk (below_step (below_alloc (below_alloc (Below.refl _ _) _) _) hb)
  clear hb
  go_wp2
  go_ret
  exact ⟨rfl, HB.out⟩
end Go.Proofs.YtfnmcpgngnlodaaDoor.Forms
