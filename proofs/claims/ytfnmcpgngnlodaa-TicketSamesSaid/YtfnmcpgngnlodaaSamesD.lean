/- Same answers for all two lists of states what the reference's SameStates answers: the law TicketSames returns true for every input. No condition. -/
import Derived.Test.YtfnmcpgngnlodaaRows
import Derived.Test.YtfnmcpgngnlodaaSamesC
import Derived.Test.YtfnmcpgngnlodaaOpn
import Derived.WalkKit
import Derived.ProofKit
import Derived.OpenShut
import Derived.Carry
import Derived.Below
namespace Go.Proofs.Ytfnmcpgngnlodaa.Sames
open Go.ChangeShapes Go.WideShapes Go.ChangeAt Go.RowKit
open Go.Proofs.YtfnmcpgngnlodaaW.PrintWords Go.Proofs.Ytfnmcpgngnlodaa.PTicketSames Go.Proofs.Ytfnmcpgngnlodaa.Opn
set_option linter.unusedVariables false

/-! ### How the arguments read -/
theorem cells30 : Try.prog.cellsOf 30 = 12 := by kernel_rfl
theorem cells34 : Try.prog.cellsOf 34 = 3 := by kernel_rfl
theorem cells3 : Try.prog.cellsOf 3 = 1 := by kernel_rfl
theorem cells9 : Try.prog.cellsOf 9 = 1 := by kernel_rfl
theorem cells27 : Try.prog.cellsOf 27 = 1 := by kernel_rfl
theorem cells28 : Try.prog.cellsOf 28 = 1 := by kernel_rfl
section
variable {H : Type} {enc : TypeId × Value → H} {w : World} {base : Nat} {spare : Nat → Bool} {held : Bool}
theorem opens34 : Opens enc Try.prog w base spare held 34 k34 (fun _ => True) := by
  intro fuel cs x h
  have hl := struct_len Try.underlying34 h
  rw [cells34] at hl
  obtain ⟨v0, h0, _⟩ := field_at Try.underlying34 h 0 0 1 rfl rfl rfl cells3 (opens_int Try.underlying3)
  obtain ⟨v1, h1, _⟩ := field_at Try.underlying34 h 1 1 1 rfl rfl rfl cells3 (opens_int Try.underlying3)
  obtain ⟨v2, h2, _⟩ := field_at Try.underlying34 h 2 2 1 rfl rfl rfl cells9 (opens_string Try.underlying9)
  exact ⟨⟨v0, v1, v2⟩, field_cons (cs := cs) 0 1 h0 (field_cons 1 1 h1 (field_last 2 1 hl h2)), trivial⟩
theorem opens30 : Opens enc Try.prog w base spare held 30 k30 (fun _ => True) := by
  intro fuel cs x h
  have hl := struct_len Try.underlying30 h
  rw [cells30] at hl
  obtain ⟨v0, h0, _⟩ := field_at Try.underlying30 h 0 0 1 rfl rfl rfl cells3 (opens_int Try.underlying3)
  obtain ⟨v1, h1, _⟩ := field_at Try.underlying30 h 1 1 1 rfl rfl rfl cells3 (opens_int Try.underlying3)
  obtain ⟨v2, h2, _⟩ := field_at Try.underlying30 h 2 2 1 rfl rfl rfl cells3 (opens_int Try.underlying3)
  obtain ⟨v3, h3, _⟩ := field_at Try.underlying30 h 3 3 1 rfl rfl rfl cells3 (opens_int Try.underlying3)
  obtain ⟨v4, h4, _⟩ := field_at Try.underlying30 h 4 4 1 rfl rfl rfl cells3 (opens_int Try.underlying3)
  obtain ⟨v5, h5, _⟩ := field_at Try.underlying30 h 5 5 1 rfl rfl rfl cells3 (opens_int Try.underlying3)
  obtain ⟨v6, h6, _⟩ := field_at Try.underlying30 h 6 6 1 rfl rfl rfl cells3 (opens_int Try.underlying3)
  obtain ⟨v7, h7, _⟩ := field_at Try.underlying30 h 7 7 1 rfl rfl rfl cells3 (opens_int Try.underlying3)
  obtain ⟨v8, h8, _⟩ := field_at Try.underlying30 h 8 8 1 rfl rfl rfl cells27 (opens_slice Try.underlying27 cells34 opens34)
  obtain ⟨v9, h9, _⟩ := field_at Try.underlying30 h 9 9 1 rfl rfl rfl cells28 (opens_slice Try.underlying28 cells3 (opens_int Try.underlying3))
  obtain ⟨v10, h10, _⟩ := field_at Try.underlying30 h 10 10 1 rfl rfl rfl cells28 (opens_slice Try.underlying28 cells3 (opens_int Try.underlying3))
  obtain ⟨v11, h11, _⟩ := field_at Try.underlying30 h 11 11 1 rfl rfl rfl cells3 (opens_int Try.underlying3)
  exact ⟨⟨v0, v1, v2, v3, v4, v5, v6, v7, v8, v9, v10, v11⟩, field_cons (cs := cs) 0 1 h0 (field_cons 1 1 h1 (field_cons 2 1 h2 (field_cons 3 1 h3 (field_cons 4 1 h4 (field_cons 5 1 h5 (field_cons 6 1 h6 (field_cons 7 1 h7 (field_cons 8 1 h8 (field_cons 9 1 h9 (field_cons 10 1 h10 (field_last 11 1 hl h11))))))))))), trivial⟩
theorem opens23 : Opens enc Try.prog w base spare held 23 (Kd.slice 30 k30) (fun l => ∀ v ∈ l, True) := opens_slice Try.underlying23 cells30 opens30
end

theorem walk (A0 : Option Addr) (c0 : Nat) (l0 : List S30) (A1 : Option Addr) (c1 : Nat) (l1 : List S30) (w : World) (hr0 : Kd.C k30 w A0 l0.length l0) (hc0 : l0.length ≤ c0) (hr1 : Kd.C k30 w A1 l1.length l1) (hc1 : l1.length ≤ c1) :
    Calls Try.prog 4 #[.slice A0 l0.length c0, .slice A1 l1.length c1] w fun e w' => e = .returned (.bool true) ∧ Below w.heap.size w w' := by
  have h1 := Aside0.mk (same_calls sameCalls A0 c0 l0 A1 c1 l1 w hr0 hc0 hr1 hc1)
  have h2 : Aside0 (∀ w', Below w.heap.size w w' → Calls Try.prog 8 #[.slice A0 l0.length c0, .slice A1 l1.length c1] w' fun e w'' => e = .returned (.bool (eqB l0 l1)) ∧ Below w'.heap.size w' w'') :=
    ⟨fun w' hb => sameStates_calls A0 c0 l0 A1 c1 l1 w' (Kd.C_below hr0 hb) hc0 (Kd.C_below hr1 hb) hc1⟩
  clear hr0 hr1 hc0 hc1
  generalize eqB l0 l1 = b at h1 h2
  go_enter Try.func4, Try.ntmps4
  go_wp2_with fail
  refine h1.out.mono ?_
  rintro e w1 ⟨rfl, hb1⟩
  go_wp2_with fail
  refine (h2.out _ hb1).mono ?_
  rintro e w2 ⟨rfl, hb2⟩
  have hb := Aside0.mk (below_step hb1 hb2)
  clear hb1 hb2
  go_wp2
  go_ret
  exact ⟨ret_bool (by simp), hb.out⟩

theorem own : ownKnob Try.prog.godebug = none := by kernel_rfl
theorem laidOut : laidOutB Try.prog = true := by kernel_rfl
set_option maxRecDepth 100000 in
set_option maxHeartbeats 1000000 in
theorem lifted (os : Os) (started : os.Started) (H : Type) (enc : TypeId × Value → H) :
    ReturnsInHanded {} Try.checked os 4 .any (Rows.ticketSamesSpec.pre6 enc Try.prog Try.f4 Rows.ticketSamesRow.domain false) (Rows.ticketSamesSpec.post enc Try.prog Try.f4 false true false false) := by
  refine returnsInHanded_of_change (C := Try.checked) own started (by kernel_rfl) Try.func4
    (ChangeSpec.witness6 (enc := enc) (C := Try.checked) false ⟨#[], #[.slice none 0 0, .slice none 0 0], []⟩ 8 (by kernel_rfl) (by kernel_rfl) (by kernel_rfl) (by kernel_rfl)) ?_
  intro W base args ds gs before hval0 hW hcnd _
  have hW' := hW
  obtain ⟨p, q, hA0, hV, rfl, hfz, hnd⟩ := hW
  have hA : DataW.TrodAll enc Try.prog W 0 (fun _ => true) true Try.f4.params.toList args.toList ds p := hA0
  have hval : ∀ (j : Nat) t v, Try.f4.params[j]? = some t → args[j]? = some v → Value.okWide Try.prog W .any base t v := hval0
  rw [Try.params4] at hA hval
  obtain ⟨v0, vs0, d0, ds0, p0, q0, hargs, rfl, rfl, h0, r0⟩ := trodAll_cons hA
  obtain ⟨v1, vs1, d1, ds1, p1, q1, rfl, rfl, rfl, h1, r1⟩ := trodAll_cons r0
  obtain ⟨rfl, rfl, rfl⟩ := trodAll_nil r1
  obtain rfl : args = #[v0, v1] := by cases args; simp_all
  obtain ⟨rfl, rfl⟩ := trodVars_none hV
  have h0k := h0
  have h1k := h1
  obtain ⟨X0, n0, k0, rfl⟩ := okWide_slice Try.underlying23 (hval 0 23 v0 rfl rfl)
  obtain ⟨X1, n1, k1, rfl⟩ := okWide_slice Try.underlying23 (hval 1 23 v1 rfl rfl)
  obtain ⟨m0, hm0⟩ := h0
  obtain ⟨m1, hm1⟩ := h1
  obtain ⟨l0, ⟨A0, c0, e0, hc0, hr0⟩, _⟩ := opens23 _ _ _ hm0
  obtain ⟨l1, ⟨A1, c1, e1, hc1, hr1⟩, _⟩ := opens23 _ _ _ hm1
  obtain ⟨rfl, rfl, rfl⟩ : X0 = A0 ∧ n0 = l0.length ∧ k0 = c0 := by simpa [Value.cells] using e0
  obtain ⟨rfl, rfl, rfl⟩ : X1 = A1 ∧ n1 = l1.length ∧ k1 = c1 := by simpa [Value.cells] using e1
  have hlt : ∀ x ∈ p0 ++ p1, x.block < W.heap.size := fun x hx => by simpa using hW'.lt x (by simpa using hx)
  refine (walk _ _ l0 _ _ l1 W hr0 hc0 hr1 hc1).mono fun e W' ⟨he, bel⟩ => ?_
  subst he
  exact ⟨_, rfl, _, _, _, [], _, [], hW', trodAll_mk1 (shut_bool Try.underlying4 _),
    (trodAll_cons_mk (Below.trod laidOut (by kernel_rfl) (of_decide_eq_true (by kernel_rfl)) h0k bel (fun x hx => hlt x (by simp [hx]))) (trodAll_cons_mk (Below.trod laidOut (by kernel_rfl) (of_decide_eq_true (by kernel_rfl)) h1k bel (fun x hx => hlt x (by simp [hx]))) trodAll_mk0)), rfl, bel.frame _, fun h => by cases h⟩

theorem over : Rows.ticketSamesRow.holds Try.pinned (OpenSpec.ofChange Rows.ticketSamesSpec) :=
  OpenClaim.holds_of_wide 4 Try.f4 rfl rfl rfl rfl rfl rfl rfl ⟨rfl, rfl, rfl, rfl, rfl⟩ rfl rfl rfl rfl rfl (by kernel_rfl) Try.func4 (by kernel_rfl)
    (of_decide_eq_true (by kernel_rfl)) (by unfold Func.isWrapper; first | (rw [if_pos (by decide +kernel)]; kernel_rfl) | (rw [if_neg (by decide +kernel)]; exact ⟨rfl, rfl⟩))
    (fun os started H enc _ => lifted os started H enc)
end Go.Proofs.Ytfnmcpgngnlodaa.Sames
namespace Go.Proofs.Ytfnmcpgngnlodaa
theorem ticketSames_holds : Rows.TicketSamesSaid := Sames.over
#print axioms ticketSames_holds
end Go.Proofs.Ytfnmcpgngnlodaa
