/- A form's text for every form and name is what the reference says: the law TicketForms returns true for every input; its row and its card. No condition. -/
import Derived.Test.YtfnmcpgngnlodaaDoorCards
import Derived.Test.YtfnmcpgngnlodaaDoorTie
import Derived.Test.YtfnmcpgngnlodaaDoorFormsN
import Derived.Test.YtfnmcpgngnlodaaDoorOpn
import Derived.WalkKit
import Derived.ProofKit
import Derived.OpenShut
import Derived.Carry
import Derived.Below
import Derived.Deep.DeepHandedRow
import Derived.Deep.DeepWitnessRowRef
import Derived.Lib.LaidTab
import Derived.Lib.LaidU8
namespace Go.Proofs.YtfnmcpgngnlodaaDoor.Forms
open Go.ChangeShapes Go.WideShapes Go.ChangeAt Go.RowKit
open Go.Proofs.YtfnmcpgngnlodaaDoorW.PrintWords Go.Proofs.YtfnmcpgngnlodaaDoor.PTicketForms Go.Proofs.YtfnmcpgngnlodaaDoor.Opn
set_option linter.unusedVariables false
set_option maxRecDepth 100000

theorem own : ownKnob Tryd.prog.godebug = none := by kernel_rfl
theorem laidOut : laidOutB Tryd.prog = true := by kernel_rfl
theorem cells32 : Tryd.prog.cellsOf 32 = 4 := by kernel_rfl
theorem cells24 : Tryd.prog.cellsOf 24 = 1 := by kernel_rfl
theorem cells22 : Tryd.prog.cellsOf 22 = 1 := by kernel_rfl
theorem cells30 : Tryd.prog.cellsOf 30 = 1 := by kernel_rfl
theorem cells9 : Tryd.prog.cellsOf 9 = 1 := by kernel_rfl
theorem cells3 : Tryd.prog.cellsOf 3 = 1 := by kernel_rfl
theorem gKinds : Tryd.prog.globalNamed "porterslodge/portref1.kindWords" = some 0 := by kernel_rfl
theorem gKindsType : (Tryd.prog.globals[0]?).map (·.type) = some 30 := by kernel_rfl

/-- What the list gives: the words lie. -/
theorem kinds_of {W : World} (h : laidMet Tryd.prog Rows.ticketFormsRow.laid W) : KindWords W := by
  obtain ⟨g, t, cs, fuel, p, hg, ht, hv, hr⟩ := Lib.laidMet.reads h (n := "porterslodge/portref1.kindWords") (d := Rows.laid_porterslodge_portref1_kindWords) (.tail _ (.tail _ (.tail _ (.head _))))
  obtain rfl : (0 : Nat) = g := Option.some.inj (gKinds.symm.trans hg)
  obtain rfl : (30 : Nat) = t := Option.some.inj (gKindsType.symm.trans ht)
  rcases Deep.open_slice1 Tryd.underlying30 cells9 hr with ⟨_, he⟩ | ⟨a, len, cap, m, n, V, D, Pl, hcs, hb, hl, hm, hmm, hx, hall⟩
  · cases he
  · have hx1 : DataW.slice _ _ = DataW.slice _ _ := congrArg (·.1) hx
    obtain ⟨hx2, _⟩ := DataW.slice.inj hx1
    have hlen : len = 7 := by
      have := congrArg List.length hx2
      simpa using this.symm
    subst hlen
    have hm7 : 7 ≤ m := by rw [hmm]; split <;> omega
    have hcell : W.cell? ⟨0, 0, none⟩ = some (.slice (some a) 7 cap) := by
      unfold World.var? at hv
      rw [gKinds] at hv
      simp only [Option.bind_some] at hv
      unfold World.cell?
      split at hv
      · rename_i cs' t' f' hh
        cases hv
        have : cs.toList[0]? = some (.slice (some a) 7 cap) := by rw [hcs]; rfl
        have hh' : W.heap[0]? = some (.cells cs t' f') := hh
        simp [hh']
        simpa using this
      · cases hv
    refine ⟨a, cap, hcell, fun k hk1 hk6 => ?_⟩
    have key : ∀ (i : Nat) (l : List UInt8), i < 7 → D i = .lit (.string l) → W.cell? (a.add i) = some (.string ⟨l.toArray⟩) := by
      intro i l hi hD
      obtain ⟨hc, ht⟩ := hall i (by omega)
      obtain ⟨s, hs, hd, _⟩ := DataW.trod_string Tryd.underlying9 ht
      have hs' : V i = .string s := by simpa using hs
      have hd' : D i = .lit (.string s.data.toList) := congrArg (·.1) hd
      rw [hD] at hd'
      have : l = s.data.toList := by simpa using hd'
      rw [hc, hs', this]
    simp only [List.range_succ, List.range_zero, List.nil_append, List.map_cons, List.map_nil, List.cons_append, List.cons.injEq, and_true] at hx2
    obtain ⟨d0, d1, d2, d3, d4, d5, d6⟩ := hx2
    have h : k = 1 ∨ k = 2 ∨ k = 3 ∨ k = 4 ∨ k = 5 ∨ k = 6 := by omega
    rcases h with rfl | rfl | rfl | rfl | rfl | rfl
    · exact key 1 _ (by omega) d1.symm
    · exact key 2 _ (by omega) d2.symm
    · exact key 3 _ (by omega) d3.symm
    · exact key 4 _ (by omega) d4.symm
    · exact key 5 _ (by omega) d5.symm
    · exact key 6 _ (by omega) d6.symm

section
variable {H : Type} {enc : TypeId × Value → H} {w : World} {base : Nat} {spare : Nat → Bool} {held : Bool}
theorem opens32 : Opens enc Tryd.prog w base spare held 32 k32 SmallF := by
  intro fuel cs x h
  have hl := struct_len Tryd.underlying32 h
  rw [cells32] at hl
  obtain ⟨v0, h0, b0⟩ := field_at Tryd.underlying32 h 0 0 1 rfl rfl rfl cells9 (opens_string Tryd.underlying9)
  obtain ⟨v1, h1, _⟩ := field_at Tryd.underlying32 h 1 1 1 rfl rfl rfl cells3 (opens_int Tryd.underlying3)
  obtain ⟨v2, h2, b2⟩ := field_at Tryd.underlying32 h 2 2 1 rfl rfl rfl cells30 (opens_slice Tryd.underlying30 cells9 (opens_string Tryd.underlying9))
  obtain ⟨v3, h3, _⟩ := field_at Tryd.underlying32 h 3 3 1 rfl rfl rfl cells3 (opens_int Tryd.underlying3)
  have hk : k32.K w ⟨v0, v1, v2, v3⟩ cs := field_cons (cs := cs) 0 1 h0 (field_cons 1 1 h1 (field_cons 2 1 h2 (field_last 3 1 hl h3)))
  refine ⟨⟨v0, v1, v2, v3⟩, hk, b0, ?_, b2⟩
  obtain ⟨A2, c2, _, _, g2⟩ := k32_open hk
  exact g2.2.1
theorem opens22 : Opens enc Tryd.prog w base spare held 22 (Kd.slice 32 k32) (fun l => ∀ v ∈ l, SmallF v) := opens_slice Tryd.underlying22 cells32 opens32
theorem opens24 {fuel : Nat} {cs : List Value} {x : DataW H × List MemPlace} (h : DataW.trod enc Tryd.prog w base spare held fuel 24 cs = some x) : ∃ (l0 : List S32) (A0 : Option Addr) (c0 : Nat), cs = [.slice A0 l0.length c0] ∧ l0.length ≤ c0 ∧ Kd.C k32 w A0 l0.length l0 ∧ ∀ v ∈ l0, SmallF v := by
  have hl := struct_len Tryd.underlying24 h
  rw [cells24] at hl
  obtain ⟨l0, ⟨A0, c0, e0, hc0, hr0⟩, hb⟩ := field_at Tryd.underlying24 h 0 0 1 rfl rfl rfl cells22 opens22
  rw [List.drop_zero, List.take_of_length_le (by omega)] at e0
  exact ⟨l0, A0, c0, e0, hc0, hr0, hb⟩
end

/-- What the walk gives, for every argument and every world that holds the words. -/
theorem contract (H : Type) (enc : TypeId × Value → H) (W : World) (base : Nat) (args : Array Value) (ds gs : List (DataW H)) (before : List MemPlace)
    (hval : ∀ (j : Nat) t v, Tryd.f3.params[j]? = some t → args[j]? = some v → Value.okWide Tryd.prog W .any base t v)
    (hW : DataW.Whole enc Tryd.prog Tryd.f3.params.toList Rows.ticketFormsSpec.vars false W args.toList ds gs before) (hL : laidMetH Tryd.prog Rows.ticketFormsRow.laid W) :
    Calls Tryd.prog 3 args W fun e W' => ∃ v, e = .returned v ∧ Rows.ticketFormsSpec.post enc Tryd.prog Tryd.f3 false true false false W args v W' := by
  have hW' := hW
  obtain ⟨p, q, hA0, hV, rfl, hfz, hnd⟩ := hW
  have hA : DataW.TrodAll enc Tryd.prog W 0 (fun _ => true) true Tryd.f3.params.toList args.toList ds p := hA0
  rw [Tryd.params3] at hA hval
  obtain ⟨v0, vs0, d0, ds0, p0, q0, hargs, rfl, rfl, h0, r0⟩ := trodAll_cons hA
  obtain ⟨v1, vs1, d1, ds1, p1, q1, rfl, rfl, rfl, h1, r1⟩ := trodAll_cons r0
  obtain ⟨rfl, rfl, rfl⟩ := trodAll_nil r1
  obtain rfl : args = #[v0, v1] := by cases args; simp_all
  obtain ⟨rfl, rfl⟩ := trodVars_none hV
  have h0k := h0
  have h1k := h1
  obtain ⟨X0, rfl, hX0⟩ := okWide_struct Tryd.underlying24 (hval 0 24 v0 rfl rfl)
  obtain ⟨nm, rfl⟩ := okWide_string Tryd.underlying9 (hval 1 9 v1 rfl rfl)
  obtain ⟨m0, hm0⟩ := h0
  obtain ⟨l0, A0, c0, e0, hc0, hr0, hsm⟩ := opens24 hm0
  obtain rfl : X0 = #[.slice A0 l0.length c0] := by cases X0; simpa [Value.cells] using e0
  have hlt : ∀ x ∈ p0 ++ p1, x.block < W.heap.size := fun x hx => by simpa using hW'.lt x (by simpa using hx)
  refine (ticketForms_calls A0 c0 l0 nm hsm W (kinds_of hL) hr0 hc0).mono fun e W' ⟨he, bel⟩ => ?_
  subst he
  exact ⟨_, rfl, _, _, _, [], _, [], hW', trodAll_mk1 (shut_bool Tryd.underlying4 _),
    (trodAll_cons_mk (Below.trod laidOut (by kernel_rfl) (of_decide_eq_true (by kernel_rfl)) h0k bel (fun x hx => hlt x (by simp [hx]))) (trodAll_cons_mk (Below.trod laidOut (by kernel_rfl) (of_decide_eq_true (by kernel_rfl)) h1k bel (fun x hx => hlt x (by simp [hx]))) trodAll_mk0)), rfl, bel.frame _, fun h => by cases h⟩

/-! ### A world for the witness -/
def cellsOfTab : DataW Unit → Array Value
  | .agg xs => (xs.map fun | .lit (.int k n) => Value.int k n | _ => .int .u8 0).toArray
  | _ => #[]
def kindCells : Array Value := #[.string ⟨#[45]⟩, .string ⟨#[102, 108, 97, 103]⟩, .string ⟨#[110, 117, 109, 98, 101, 114]⟩, .string ⟨#[116, 101, 120, 116]⟩, .string ⟨#[99, 104, 111, 105, 99, 101]⟩, .string ⟨#[109, 111, 109, 101, 110, 116]⟩, .string ⟨#[112, 101, 114, 115, 111, 110]⟩]
noncomputable def laidWorld (os : Os) : World :=
  let N := (World.settled Tryd.prog os).heap.size
  let w0 := World.holding Tryd.prog os ⟨#[.cells kindCells 9], #[], []⟩
  let put (h : Array Obj) (g : Nat) (cs : Array Value) : Array Obj := h.modify g fun
    | .cells _ t frozen => .cells cs t frozen
    | o => o
  let h1 := put w0.heap 0 #[.slice (some ⟨N, 0, none⟩) 7 7]
  let h2 := put h1 1 (cellsOfTab Rows.laid_internal_strconv_uint64pow10)
  let h3 := put h2 6 (cellsOfTab Rows.laid_math_bits_deBruijn32tab)
  let h4 := put h3 7 (cellsOfTab Rows.laid_math_bits_deBruijn64tab)
  { w0 with heap := h4 }
def argsW : Array Value := #[.agg #[.slice none 0 0], .string ⟨#[]⟩]
theorem laid_met (os : Os) : laidMet Tryd.prog Rows.ticketFormsRow.laid ((laidWorld os).forCall (fun _ _ => 0) ⟨#[], argsW, []⟩).memory :=
  laidMet_of_run' 8 (by kernel_rfl) (by kernel_rfl)
theorem reads (os : Os) {H : Type} (enc : TypeId × Value → H) : ∃ places, DataW.whole enc Tryd.prog ((laidWorld os).forCall (fun _ _ => 0) ⟨#[], argsW, []⟩).memory Tryd.f3.params.toList Rows.ticketFormsSpec.vars false argsW.toList 8 = some ([.agg [.nil], .lit (.string [])], [], places) :=
  ⟨[], by kernel_rfl⟩
theorem lifted (os : Os) (started : os.Started) (H : Type) (enc : TypeId × Value → H) (F : Stop.Interp) :
    ReturnsInHanded {} Tryd.checked os 3 .any ((OpenSpec.ofChange Rows.ticketFormsSpec).preRow enc Tryd.prog Tryd.f3 Rows.ticketFormsRow.domain false Rows.ticketFormsRow.laid) (((OpenSpec.ofChange Rows.ticketFormsSpec).at F).post enc Tryd.prog Tryd.f3 false true false false) := by
  obtain ⟨places, hx⟩ := reads os enc
  refine returnsInHanded_of_row (C := Tryd.checked) (s := OpenSpec.ofChange Rows.ticketFormsSpec) own started (by kernel_rfl) Tryd.func3
    (witness_row_atRef (enc := enc) (C := Tryd.checked) false (laidWorld os) argsW rfl (by kernel_rfl) (by kernel_rfl) (by kernel_rfl)
      (OpenSpec.preRow_of_cond 8 hx (by kernel_rfl) (fun k hk => by cases hk) (by kernel_rfl) (laid_met os))) ?_
  intro W base args ds gs before hval hW _ _ _ hL _ _
  exact contract H enc W base args ds gs before hval hW hL
theorem over : Rows.TicketFormsSaid :=
  OpenClaim.holds_of_cond 3 Tryd.f3 rfl rfl rfl rfl rfl rfl rfl ⟨rfl, rfl, rfl, rfl, rfl⟩ rfl rfl rfl rfl rfl (by kernel_rfl) Tryd.func3 (by kernel_rfl)
    (of_decide_eq_true (by kernel_rfl)) (by unfold Func.isWrapper; first | (rw [if_pos (by decide +kernel)]; kernel_rfl) | (rw [if_neg (by decide +kernel)]; exact ⟨rfl, rfl⟩))
    (fun os started H enc _ F => by rw [OpenClaim.pre_eq_preRow]; exact lifted os started H enc F)
theorem plain (f : FuncId) (fn : Func) (hf : Tryd.pinned.checked.prog.funcNamed "porterslodge/portlaw1.TicketForms" = some f) (hfn : Tryd.pinned.checked.prog.funcs[f]? = some fn) :
    false = Tryd.pinned.checked.prog.looks [] ∧ ∀ (j : Nat) t, fn.params[j]? = some t → Tryd.pinned.checked.prog.wantsStandIn t = false := by
  obtain rfl : f = 3 := Option.some.inj ((show Tryd.prog.funcNamed "porterslodge/portlaw1.TicketForms" = some 3 by kernel_rfl).symm.trans hf) |>.symm
  obtain rfl : fn = Tryd.f3 := (Option.some.inj (Tryd.func3.symm.trans hfn)).symm
  refine ⟨by kernel_rfl, fun j t ht => ?_⟩
  rw [Tryd.params3] at ht
  have : t = 24 ∨ t = 9 := by simpa using Array.mem_of_getElem? ht
  rcases this with rfl | rfl
  · exact (show Tryd.prog.wantsStandIn 24 = false by kernel_rfl)
  · exact (show Tryd.prog.wantsStandIn 9 = false by kernel_rfl)
theorem card : Rows.TicketFormsCardSaid :=
  Claim7.holds_tied_plain_at .later [] _ _ _ _ over (fun _ h => by cases h) (by kernel_rfl) (fun _ h => by cases h) ticketForms_row_tie rfl ⟨rfl, rfl⟩ (by kernel_rfl) rfl plain (by kernel_rfl)
end Go.Proofs.YtfnmcpgngnlodaaDoor.Forms
namespace Go.Proofs.YtfnmcpgngnlodaaDoor
theorem ticketForms_holds : Rows.TicketFormsCardSaid := Forms.card
#print axioms ticketForms_holds
end Go.Proofs.YtfnmcpgngnlodaaDoor
