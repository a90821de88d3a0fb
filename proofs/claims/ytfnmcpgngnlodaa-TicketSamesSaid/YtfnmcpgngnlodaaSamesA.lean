/- slices.EqualFunc over two lists of states, with ticket.same handed in, answers whether the two lists are equal; ticket.Same as well. Condition: the contract of ticket.same. -/
import Derived.Test.YtfnmcpgngnlodaaPTicketSamesx0
namespace Go.Proofs.Ytfnmcpgngnlodaa.Sames
open Go.RowKit Go.Proofs.YtfnmcpgngnlodaaW.PrintWords Go.Proofs.YtfnmcpgngnlodaaW.PrintLast Go.Proofs.YtfnmcpgngnlodaaW.PrintMore
open Go.Proofs.Ytfnmcpgngnlodaa.PTicketSames
set_option linter.unusedVariables false
set_option linter.unusedSimpArgs false

open Classical in
noncomputable def eqB {α : Type} (a b : α) : Bool := decide (a = b)
theorem eqB_true {α : Type} {a b : α} (h : a = b) : eqB a b = true := by simp [eqB, h]
theorem eqB_false {α : Type} {a b : α} (h : a ≠ b) : eqB a b = false := by simp [eqB, h]

/-- ticket.same at two states whose cells lie as k30 says. -/
def SameCalls : Prop := ∀ (x y : S30) (cx cy : List Value) (w : World), k30.K w x cx → k30.K w y cy →
  Calls Try.prog 12 #[.agg cx.toArray, .agg cy.toArray] w fun e w' => e = .returned (.bool (eqB x y)) ∧ Below w.heap.size w w'

theorem alloc_keep {w : World} {a : Addr} {v : Value} (h : w.cell? a = some v) : ∀ o, (w.alloc o).cell? a = some v := fun o => (World.cell?_alloc_lt w o a (World.block_lt_of_cell? w _ h)).trans h
theorem ret_bool {a b : Bool} (h : a = b) : Ending.returned (.bool a) = .returned (.bool b) := by rw [h]
theorem getD_rd (l : List S30) (j : Nat) : rd_T30 l (j : Int) = l.getD j z30 := by simp [rd_T30]

set_option maxHeartbeats 2000000 in
theorem eqFunc_calls (hs : SameCalls) (A0 : Option Addr) (c0 : Nat) (l0 : List S30) (A1 : Option Addr) (c1 : Nat) (l1 : List S30) (w : World) (hr0 : Kd.C k30 w A0 l0.length l0) (hc0 : l0.length ≤ c0) (hr1 : Kd.C k30 w A1 l1.length l1) (hc1 : l1.length ≤ c1) :
    Calls Try.prog 11 #[.slice A0 l0.length c0, .slice A1 l1.length c1, .func (.func 12) #[] #[]] w fun e w' => e = .returned (.bool (eqB l0 l1)) ∧ Below w.heap.size w w' := by
  have HS := Aside0.mk hs
  clear hs
  have hb0 : l0.length ≤ 9223372036854775807 := hr0.2.1
  have HR0 := Aside0.mk hr0
  have HC0 := Aside0.mk hc0
  clear hr0 hc0
  have HR1 := Aside0.mk hr1
  have HC1 := Aside0.mk hc1
  clear hr1 hc1
  by_cases c3 : l0.length = l1.length
  · have c3b1 : ((l0.length : Int) != (l1.length : Int)) = false := by simp [c3]
    have C3 := Aside0.mk c3
    clear c3
    go_enter Try.func11, Try.ntmps11
    go_wp2
    go_loopw [17] (fun v w' => ∃ (x : Int), v = .int .i64 x ∧ 0 ≤ x ∧ x ≤ l0.length ∧ Aside0 (∀ j : Nat, (j : Int) < x → rd_T30 l0 j = rd_T30 l1 j) ∧ Aside0 (Below w.heap.size w w')) (fun v _ => l0.length - (intOf v).toNat)
    case atStart => exact ⟨0, rfl, Int.le_refl _, by omega, ⟨fun j h => by omega⟩, ⟨Below.refl _ _⟩⟩
    case round =>
      obtain ⟨x, rfl, hx0, hx1, HE, HB⟩ := hrel
      by_cases hlt : x < l0.length
      · have hlt1 : x < (l1.length : Int) := by have := C3.out; omega
        obtain ⟨adx, Ax8, cx8, Ax9, cx9, Ax10, cx10, ex, hx_0, hx_1, hx_2, hx_3, hx_4, hx_5, hx_6, hx_7, hx_8, hx_9, hx_10, hx_11, lx8, gx8, lx9, gx9, lx10, gx10⟩ := at_T30 HR0.out x hx0 hlt
        have Kx := Aside0.mk (k30_mk w (rd_T30 l0 x) lx8 gx8 lx9 gx9 lx10 gx10)
        clear lx8 gx8 lx9 gx9 lx10 gx10
        cases ex
        replace hx_0 := (HB.out.cell (World.block_lt_of_cell? w _ hx_0)).trans hx_0
        replace hx_1 := (HB.out.cell (World.block_lt_of_cell? w _ hx_1)).trans hx_1
        replace hx_2 := (HB.out.cell (World.block_lt_of_cell? w _ hx_2)).trans hx_2
        replace hx_3 := (HB.out.cell (World.block_lt_of_cell? w _ hx_3)).trans hx_3
        replace hx_4 := (HB.out.cell (World.block_lt_of_cell? w _ hx_4)).trans hx_4
        replace hx_5 := (HB.out.cell (World.block_lt_of_cell? w _ hx_5)).trans hx_5
        replace hx_6 := (HB.out.cell (World.block_lt_of_cell? w _ hx_6)).trans hx_6
        replace hx_7 := (HB.out.cell (World.block_lt_of_cell? w _ hx_7)).trans hx_7
        replace hx_8 := (HB.out.cell (World.block_lt_of_cell? w _ hx_8)).trans hx_8
        replace hx_9 := (HB.out.cell (World.block_lt_of_cell? w _ hx_9)).trans hx_9
        replace hx_10 := (HB.out.cell (World.block_lt_of_cell? w _ hx_10)).trans hx_10
        replace hx_11 := (HB.out.cell (World.block_lt_of_cell? w _ hx_11)).trans hx_11
        obtain ⟨ady, Ay8, cy8, Ay9, cy9, Ay10, cy10, ey, hy_0, hy_1, hy_2, hy_3, hy_4, hy_5, hy_6, hy_7, hy_8, hy_9, hy_10, hy_11, ly8, gy8, ly9, gy9, ly10, gy10⟩ := at_T30 HR1.out x hx0 hlt1
        have Ky := Aside0.mk (k30_mk w (rd_T30 l1 x) ly8 gy8 ly9 gy9 ly10 gy10)
        clear ly8 gy8 ly9 gy9 ly10 gy10
        cases ey
        replace hy_0 := (HB.out.cell (World.block_lt_of_cell? w _ hy_0)).trans hy_0
        replace hy_1 := (HB.out.cell (World.block_lt_of_cell? w _ hy_1)).trans hy_1
        replace hy_2 := (HB.out.cell (World.block_lt_of_cell? w _ hy_2)).trans hy_2
        replace hy_3 := (HB.out.cell (World.block_lt_of_cell? w _ hy_3)).trans hy_3
        replace hy_4 := (HB.out.cell (World.block_lt_of_cell? w _ hy_4)).trans hy_4
        replace hy_5 := (HB.out.cell (World.block_lt_of_cell? w _ hy_5)).trans hy_5
        replace hy_6 := (HB.out.cell (World.block_lt_of_cell? w _ hy_6)).trans hy_6
        replace hy_7 := (HB.out.cell (World.block_lt_of_cell? w _ hy_7)).trans hy_7
        replace hy_8 := (HB.out.cell (World.block_lt_of_cell? w _ hy_8)).trans hy_8
        replace hy_9 := (HB.out.cell (World.block_lt_of_cell? w _ hy_9)).trans hy_9
        replace hy_10 := (HB.out.cell (World.block_lt_of_cell? w _ hy_10)).trans hy_10
        replace hy_11 := (HB.out.cell (World.block_lt_of_cell? w _ hy_11)).trans hy_11
        replace hy_0 := alloc_keep hy_0
        replace hy_1 := alloc_keep hy_1
        replace hy_2 := alloc_keep hy_2
        replace hy_3 := alloc_keep hy_3
        replace hy_4 := alloc_keep hy_4
        replace hy_5 := alloc_keep hy_5
        replace hy_6 := alloc_keep hy_6
        replace hy_7 := alloc_keep hy_7
        replace hy_8 := alloc_keep hy_8
        replace hy_9 := alloc_keep hy_9
        replace hy_10 := alloc_keep hy_10
        replace hy_11 := alloc_keep hy_11
        by_cases heq : rd_T30 l0 x = rd_T30 l1 x
        · have HQ := Aside0.mk heq
          clear heq
          go_wp2_with fail
          refine (HS.out (rd_T30 l0 x) (rd_T30 l1 x) _ _ _ (k30.K_below (below_alloc (below_alloc HB.out _) _) Kx.out) (k30.K_below (below_alloc (below_alloc HB.out _) _) Ky.out)).mono ?_
          rw [eqB_true HQ.out]
          rintro e w' ⟨rfl, hb⟩
          have HB2 := Aside0.mk (below_step (below_alloc (below_alloc HB.out _) _) hb)
          clear hb
          go_wp2
          go_roundw
          case rel => exact ⟨x + 1, rfl, by omega, by omega, ⟨fun j hj => by
            rcases Int.lt_or_eq_of_le (show (j : Int) ≤ x by omega) with h | h
            · exact HE.out j h
            · rw [h]; exact HQ.out⟩, HB2⟩
          case measure => simp [intOf]; omega
        · have hne : eqB l0 l1 = false := eqB_false (fun e => heq (by rw [e]))
          have HN := Aside0.mk hne
          clear hne
          have HQ := Aside0.mk heq
          clear heq
          go_wp2_with fail
          refine (HS.out (rd_T30 l0 x) (rd_T30 l1 x) _ _ _ (k30.K_below (below_alloc (below_alloc HB.out _) _) Kx.out) (k30.K_below (below_alloc (below_alloc HB.out _) _) Ky.out)).mono ?_
          rw [eqB_false HQ.out]
          rintro e w' ⟨rfl, hb⟩
          have HB2 := Aside0.mk (below_step (below_alloc (below_alloc HB.out _) _) hb)
          clear hb
          go_wp2
          go_ret
          exact ⟨ret_bool HN.out.symm, HB2.out⟩
      · have hall : eqB l0 l1 = true := eqB_true (by
          have hx : x = l0.length := by omega
          refine List.ext_getElem C3.out fun j h1 h2 => ?_
          have := HE.out j (by omega)
          simpa [rd_T30, h1, h2] using this)
        have HN := Aside0.mk hall
        clear hall
        go_wp2
        go_ret
        exact ⟨ret_bool HN.out.symm, HB.out⟩
  · have c3b1 : ((l0.length : Int) != (l1.length : Int)) = true := by simp; omega
    have hne : eqB l0 l1 = false := eqB_false (fun e => c3 (by rw [e]))
    rw [hne]
    clear hne
    go_enter Try.func11, Try.ntmps11
    go_wp2
    go_ret
    exact ⟨rfl, Below.refl _ _⟩
theorem same_calls (hs : SameCalls) (A0 : Option Addr) (c0 : Nat) (l0 : List S30) (A1 : Option Addr) (c1 : Nat) (l1 : List S30) (w : World) (hr0 : Kd.C k30 w A0 l0.length l0) (hc0 : l0.length ≤ c0) (hr1 : Kd.C k30 w A1 l1.length l1) (hc1 : l1.length ≤ c1) :
    Calls Try.prog 7 #[.slice A0 l0.length c0, .slice A1 l1.length c1] w fun e w' => e = .returned (.bool (eqB l0 l1)) ∧ Below w.heap.size w w' := by
  have H := Aside0.mk (eqFunc_calls hs A0 c0 l0 A1 c1 l1 w hr0 hc0 hr1 hc1)
  clear hr0 hr1 hc0 hc1 hs
  go_enter Try.func7, Try.ntmps7
  go_wp2_with fail
  refine H.out.mono ?_
  rintro e w' ⟨rfl, hb⟩
  go_wp2
  go_ret
  exact ⟨rfl, hb⟩
end Go.Proofs.Ytfnmcpgngnlodaa.Sames
