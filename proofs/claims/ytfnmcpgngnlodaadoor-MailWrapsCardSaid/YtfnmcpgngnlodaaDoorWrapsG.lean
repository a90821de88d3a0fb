/- MailWraps answers true: Wrap divides lines as WrappedOf does, and gives the errors of the law. No condition. -/
import Derived.Test.YtfnmcpgngnlodaaDoorWrapsF
namespace Go.Proofs.YtfnmcpgngnlodaaDoor.Wraps
open Go.RowKit Go.Proofs.YtfnmcpgngnlodaaDoorW.PrintWords Go.Proofs.YtfnmcpgngnlodaaDoorW.PrintLast Go.Proofs.YtfnmcpgngnlodaaDoorW.PrintMore
open Go.Proofs.YtfnmcpgngnlodaaDoor.Forms
set_option linter.unusedVariables false
set_option linter.unusedSimpArgs false

set_option maxHeartbeats 4000000 in
set_option maxRecDepth 100000 in
theorem mailWraps_calls (A0 : Option Addr) (c0 : Nat) (l0 : List ByteArray) (n : Int) (w : World) (hr0 : Kd.C Kd.string w A0 l0.length l0) :
    Calls Tryd.prog 4 #[.slice A0 l0.length c0, .int .i64 n] w fun e w' => e = .returned (.bool true) ∧ Below w.heap.size w w' := by
  have hb0 : l0.length ≤ 9223372036854775807 := hr0.2.1
  have HR0 := Aside0.mk hr0
  clear hr0
  by_cases hrange : n < 20 ∨ 400 < n
  · have H := Aside0.mk (wrap_range A0 c0 l0.length n hrange)
    rcases hrange with hn | hn <;>
    · go_enter Tryd.func4, Tryd.ntmps4
      go_wp2_with fail
      refine (H.out _).mono ?_
      rintro e w1 ⟨rfl, hb⟩
      have HB := Aside0.mk hb
      clear hb
      go_wp2
      go_ret
      exact ⟨by simp, HB.out⟩
  · have hn1 : 20 ≤ n := by omega
    have hn2 : n ≤ 400 := by omega
    clear hrange
    by_cases hm : 400 < l0.length
    · go_enter Tryd.func4, Tryd.ntmps4
      go_wp2_with fail
      refine (wrap_lines A0 c0 l0.length n hn1 hn2 hm _).mono ?_
      rintro e w1 ⟨rfl, hb⟩
      have HB := Aside0.mk hb
      clear hb
      go_wp2
      go_ret
      exact ⟨by simp, HB.out⟩
    · have hm2 : l0.length ≤ 400 := by omega
      clear hm
      by_cases hs : ∃ s ∈ l0, 400 < s.size
      · have HS := Aside0.mk hs
        clear hs
        go_enter Tryd.func4, Tryd.ntmps4
        go_wp2_with fail
        refine (wrap_large A0 c0 l0 n hn1 hn2 hm2 HS.out _ HR0.out).mono ?_
        rintro e w1 ⟨rfl, hb⟩
        have HB := Aside0.mk hb
        clear hb
        go_wp2_with fail
        refine (contains_calls A0 c0 l0 _ (Kd.C_below HR0.out HB.out)).mono ?_
        rintro e w2 ⟨⟨b, rfl, hbb⟩, hb⟩
        obtain rfl : b = true := hbb.2 HS.out
        have HB2 := Aside0.mk (below_step HB.out hb)
        clear hb HB hbb
        go_wp2
        go_ret
        exact ⟨by simp, HB2.out⟩
      · have HS := Aside0.mk hs
        have HS2 := Aside0.mk (fun s hs2 => show s.size ≤ 400 from by
          by_cases h : 400 < s.size
          · exact absurd ⟨s, hs2, h⟩ HS.out
          · omega : ∀ s ∈ l0, s.size ≤ 400)
        clear hs
        go_enter Tryd.func4, Tryd.ntmps4
        go_wp2_with fail
        refine (wrap_calls A0 c0 l0 n hn1 hn2 hm2 HS2.out _ HR0.out).mono ?_
        rintro e w1 ⟨v, rfl, hr, hb⟩
        obtain ⟨A1, c1, rfl, hc1, hC1⟩ := Kd.R_reads hr
        have HC1 := Aside0.mk hC1
        have HL1 := Aside0.mk hc1
        have HB := Aside0.mk hb
        clear hb hr hC1 hc1
        go_wp2_with fail
        refine (contains_calls A0 c0 l0 _ (Kd.C_below HR0.out HB.out)).mono ?_
        rintro e w2 ⟨⟨b, rfl, hbb⟩, hb⟩
        obtain rfl : b = false := by
          cases b
          · rfl
          · exact absurd (hbb.1 rfl) HS.out
        have HB2 := Aside0.mk (below_step HB.out hb)
        have HC2 := Aside0.mk (Kd.C_below HC1.out hb)
        clear hb HB hbb HC1
        go_wp2_with fail
        refine (wrappedOf_calls A0 c0 l0 n hn1 hn2 hm2 HS2.out _ (Kd.C_below HR0.out HB2.out)).mono ?_
        rintro e w3 ⟨v, rfl, hr, hb⟩
        obtain ⟨A3, c3, rfl, hc3, hC3⟩ := Kd.R_reads hr
        have HC3 := Aside0.mk hC3
        have HL3 := Aside0.mk hc3
        have HB3 := Aside0.mk (below_step HB2.out hb)
        have HC4 := Aside0.mk (Kd.C_below HC2.out hb)
        clear hb hr hC3 hc3 HB2 HC2
        go_wp2_with fail
        refine (equal_calls A1 c1 (cutUp n l0) A3 c3 (cutUp n l0) _ HC4.out HL1.out HC3.out HL3.out).mono ?_
        rintro e w4 ⟨rfl, nd, rfl⟩
        have HB4 := Aside0.mk (show Below w.heap.size w (w3.drewN nd) from pw_below_drewN HB3.out nd)
        clear HB3 HC4 HC3
        simp only [decide_true]
        go_wp2
        go_ret
        exact ⟨by simp, HB4.out⟩
end Go.Proofs.YtfnmcpgngnlodaaDoor.Wraps
