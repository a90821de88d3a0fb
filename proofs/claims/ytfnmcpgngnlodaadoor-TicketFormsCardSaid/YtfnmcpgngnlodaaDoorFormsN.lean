/- TicketForms answers true: both sides give the same error, field and text. Condition: laid words for kinds. -/
import Derived.Test.YtfnmcpgngnlodaaDoorFormsM
namespace Go.Proofs.YtfnmcpgngnlodaaDoor.Forms
open Go.RowKit Go.Proofs.YtfnmcpgngnlodaaDoorW.PrintWords Go.Proofs.YtfnmcpgngnlodaaDoorW.PrintLast Go.Proofs.YtfnmcpgngnlodaaDoorW.PrintMore
open Go.Proofs.YtfnmcpgngnlodaaDoor.PTicketForms
set_option linter.unusedVariables false
set_option linter.unusedSimpArgs false

noncomputable def txt (l : List S32) : ByteArray := if formErr l = 0 then str (fmt l) else ⟨#[]⟩
theorem formText_any (A0 : Option Addr) (c0 : Nat) (l0 : List S32) (hs : ∀ x ∈ l0, SmallF x) (w : World) (hr0 : Kd.C k32 w A0 l0.length l0) (hc0 : l0.length ≤ c0) :
    Calls Tryd.prog 8 #[.agg #[.slice A0 l0.length c0]] w fun e w' => e = .returned (.tuple #[.string (txt l0), .int .i64 (formErr l0)]) ∧ Below w.heap.size w w' := by
  by_cases h : formErr l0 = 0
  · refine (formText_calls A0 c0 l0 hs w hr0 hc0 h).mono ?_
    rintro e w' ⟨rfl, hb⟩
    rw [txt, if_pos h, h]
    exact ⟨rfl, hb⟩
  · refine (formText_err A0 c0 l0 hs w hr0 hc0 h).mono ?_
    rintro e w' ⟨rfl, hb⟩
    rw [txt, if_neg h]
    exact ⟨rfl, hb⟩

set_option maxHeartbeats 4000000 in
set_option maxRecDepth 100000 in
theorem ticketForms_calls (A0 : Option Addr) (c0 : Nat) (l0 : List S32) (nm : ByteArray) (hs : ∀ x ∈ l0, SmallF x) (w : World) (hkw : KindWords w) (hr0 : Kd.C k32 w A0 l0.length l0) (hc0 : l0.length ≤ c0) :
    Calls Tryd.prog 3 #[.agg #[.slice A0 l0.length c0], .string nm] w fun e w' => e = .returned (.bool true) ∧ Below w.heap.size w w' := by
  have HR0 := Aside0.mk hr0
  have HKW := Aside0.mk hkw
  have HS := Aside0.mk hs
  have HC0 := Aside0.mk hc0
  clear hr0 hkw hs hc0
  have hmf : ∀ (fn : Fn) (first cap : Array Value) (w : World), (Instr.makeFunc fn first cap).run Tryd.prog w = .ok (.func fn first cap) w := fun _ _ _ _ => rfl
  go_enter Tryd.func3, Tryd.ntmps3
  go_wp2_with fail
  refine (formError_calls A0 c0 l0 HS.out _ (Kd.C_below HR0.out (below_alloc (below_alloc (Below.refl _ _) _) _)) HC0.out).mono ?_
  rintro e w1 ⟨rfl, hb⟩
  have HB1 := Aside0.mk (below_step (below_alloc (below_alloc (Below.refl _ _) _) _) hb)
  have hq0 : w1.cell? ⟨w.heap.size, 0, none⟩ = some (.slice A0 l0.length c0) := (hb.cell (by simp; omega)).trans (by go_simp)
  have hq1 : w1.cell? ⟨w.heap.size + 1, 0, none⟩ = some (.string nm) := (hb.cell (by simp)).trans (by go_simp)
  clear hb
  go_wp2_with fail
  refine (formText_any A0 c0 l0 HS.out _ (Kd.C_below HR0.out HB1.out) HC0.out).mono ?_
  rintro e w2 ⟨rfl, hb⟩
  have HB2 := Aside0.mk (below_step HB1.out hb)
  replace hq0 := (hb.cell (World.block_lt_of_cell? w1 _ hq0)).trans hq0
  replace hq1 := (hb.cell (World.block_lt_of_cell? w1 _ hq1)).trans hq1
  clear hb HB1
  go_wp2_with fail
  refine (index10_calls _ nm A0 c0 l0 _ hq1 (Kd.C_below HR0.out HB2.out)).mono ?_
  rintro e w3 ⟨rfl, hb⟩
  have HB3 := Aside0.mk (below_step HB2.out hb)
  replace hq0 := (hb.cell (World.block_lt_of_cell? w2 _ hq0)).trans hq0
  replace hq1 := (hb.cell (World.block_lt_of_cell? w2 _ hq1)).trans hq1
  clear hb HB2
  go_wp2_with fail
  refine (checkForm_calls A0 c0 l0 HS.out _ (Kd.C_below HR0.out HB3.out) HC0.out).mono ?_
  rintro e w4 ⟨rfl, hb⟩
  have HB4 := Aside0.mk (below_step HB3.out hb)
  replace hq0 := (hb.cell (World.block_lt_of_cell? w3 _ hq0)).trans hq0
  replace hq1 := (hb.cell (World.block_lt_of_cell? w3 _ hq1)).trans hq1
  clear hb HB3
  go_wp2_with fail
  refine (fieldNumber_calls A0 c0 l0 nm _ (Kd.C_below HR0.out HB4.out)).mono ?_
  rintro e w5 ⟨rfl, hb⟩
  have HB5 := Aside0.mk (below_step HB4.out hb)
  replace hq0 := (hb.cell (World.block_lt_of_cell? w4 _ hq0)).trans hq0
  clear hb HB4 hq1
  by_cases hz : formErr l0 = 0
  · have HT := Aside0.mk (show txt l0 = str (fmt l0) by rw [txt, if_pos hz])
    have HZ := Aside0.mk hz
    rw [hz, HT.out]
    clear hz
    go_wp2_with fail
    refine (formString_calls A0 c0 l0 _ (HKW.out.below HB5.out) (Kd.C_below HR0.out HB5.out) HZ.out).mono ?_
    rintro e w6 ⟨rfl, hb⟩
    have HB6 := Aside0.mk (below_step HB5.out hb)
    clear hb HB5 hq0
    go_wp2
    go_ret
    exact ⟨by simp, HB6.out⟩
  · have HT := Aside0.mk (show txt l0 = ⟨#[]⟩ by rw [txt, if_neg hz])
    rw [HT.out]
    go_wp2
    go_ret
    exact ⟨by simp, HB5.out⟩
end Go.Proofs.YtfnmcpgngnlodaaDoor.Forms
