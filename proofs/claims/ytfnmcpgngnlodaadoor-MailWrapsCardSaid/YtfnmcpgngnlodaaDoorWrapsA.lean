/- Small functions that MailWraps reaches, by their contracts. No condition but what each asks. -/
import Derived.Test.YtfnmcpgngnlodaaDoorWrapsL
import Derived.Test.YtfnmcpgngnlodaaDoorWrapsE
namespace Go.Proofs.YtfnmcpgngnlodaaDoor.Wraps
open Go.RowKit Go.Proofs.YtfnmcpgngnlodaaDoorW.PrintWords Go.Proofs.YtfnmcpgngnlodaaDoorW.PrintLast Go.Proofs.YtfnmcpgngnlodaaDoorW.PrintMore
open Go.Proofs.YtfnmcpgngnlodaaDoor.Forms
set_option linter.unusedVariables false
set_option linter.unusedSimpArgs false

theorem at_str {w : World} {A : Option Addr} {n : Nat} {xs : List ByteArray} (h : Kd.C Kd.string w A n xs) (i : Int) (h0 : 0 ≤ i) (h1 : i < n) : ∃ ad, A = some ad ∧ w.cell? (ad.add i.toNat) = some (.string (rdOf ByteArray.empty xs i)) := by
  obtain ⟨ad, c, e, _, hK, hc⟩ := Kd.C_get h ByteArray.empty i h0 h1
  obtain rfl : c = [.string (rdOf ByteArray.empty xs i)] := hK
  refine ⟨ad, e, ?_⟩
  have := hc 0 _ rfl
  rwa [Nat.add_zero, show Kd.string.sz = 1 from rfl, Nat.mul_one] at this

def sm (s : ByteArray) : Prop := s.size ≤ 9223372036854775807
def tr (s : ByteArray) : ByteArray := ⟨(Lib.trimS s.data.toList [32, 9]).toArray⟩
def empt (s : ByteArray) : Bool := decide (tr s = ⟨#[]⟩)

theorem rtrim_calls (s : ByteArray) (hs : sm s) (w : World) : Calls Tryd.prog 56 #[.string s] w fun e w' => e = .returned (.string (tr s)) ∧ Below w.heap.size w w' := by
  go_enter Tryd.func56, Tryd.ntmps56
  go_wp2_with fail
  refine (Tryd.trim_bl s _ hs).mono ?_
  rintro e w1 ⟨rfl, hb⟩
  go_wp2
  go_ret
  exact ⟨rfl, hb⟩
theorem empty_calls (s : ByteArray) (hs : sm s) (w : World) : Calls Tryd.prog 65 #[.string s] w fun e w' => e = .returned (.bool (empt s)) ∧ Below w.heap.size w w' := by
  go_enter Tryd.func65, Tryd.ntmps65
  go_wp2_with fail
  refine (rtrim_calls s hs _).mono ?_
  rintro e w1 ⟨rfl, hb⟩
  have HE := Aside0.mk (show empt s = decide (tr s = ⟨#[]⟩) from rfl)
  generalize tr s = t at HE ⊢
  go_wp2
  go_ret
  refine ⟨ret_bool ?_, hb⟩
  rw [HE.out, show t.toList.isEmpty = (t.toList == (⟨#[]⟩ : ByteArray).toList) by
    rw [show (⟨#[]⟩ : ByteArray).toList = [] by simp [ByteArray.toList, ByteArray.toList.loop, ByteArray.size]]
    cases t.toList <;> rfl, eqB_bytes]
  simp [eqB]
def qt (s : ByteArray) : Bool := Lib.hasPrefix s.data.toList [62]
theorem quoted_calls (s : ByteArray) (w : World) : Calls Tryd.prog 41 #[.string s] w fun e w' => e = .returned (.bool (qt s)) ∧ Below w.heap.size w w' := by
  go_enter Tryd.func41, Tryd.ntmps41
  go_wp2_with fail
  refine (Tryd.strings_HasPrefix s ⟨#[62]⟩ _).mono ?_
  rintro e w1 ⟨rfl, rfl⟩
  go_wp2
  go_ret
  exact ⟨rfl, Below.refl _ _⟩
theorem f16_calls (s : ByteArray) (w : World) : Calls Tryd.prog 16 #[.string s] w fun e w' => e = .returned (.bool (decide (400 < s.size))) ∧ Below w.heap.size w w' := by
  by_cases h : 400 < s.size
  · go_enter Tryd.func16, Tryd.ntmps16
    go_wp2
    go_ret
    exact ⟨ret_bool (by simp; omega), Below.refl _ _⟩
  · go_enter Tryd.func16, Tryd.ntmps16
    go_wp2
    go_ret
    exact ⟨ret_bool (by simp; omega), Below.refl _ _⟩

set_option maxHeartbeats 2000000 in
theorem index_calls (A0 : Option Addr) (c0 : Nat) (l0 : List ByteArray) (w : World) (hr0 : Kd.C Kd.string w A0 l0.length l0) :
    Calls Tryd.prog 43 #[.slice A0 l0.length c0, .func (.func 16) #[] #[]] w fun e w' => ∃ r : Int, e = .returned (.int .i64 r) ∧ (0 ≤ r ↔ ∃ s ∈ l0, 400 < s.size) ∧ Below w.heap.size w w' := by
  have hb0 : l0.length ≤ 9223372036854775807 := hr0.2.1
  have HR0 := Aside0.mk hr0
  clear hr0
  go_enter Tryd.func43, Tryd.ntmps43
  go_wp2
  go_loopw [8] (fun v w' => ∃ (x : Int), v = .int .i64 x ∧ 0 ≤ x ∧ x ≤ l0.length ∧ Aside0 (∀ j : Nat, (j : Int) < x → ¬ 400 < (rdOf ByteArray.empty l0 j).size) ∧ Aside0 (Below w.heap.size w w')) (fun v _ => l0.length - (intOf v).toNat)
  case atStart => exact ⟨0, rfl, Int.le_refl _, by omega, ⟨fun j h => by omega⟩, ⟨Below.refl _ _⟩⟩
  case round =>
    obtain ⟨x, rfl, hx0, hx1, HE, HB⟩ := hrel
    by_cases hlt : x < l0.length
    · obtain ⟨ad, e, h0⟩ := at_str HR0.out x hx0 hlt
      cases e
      replace h0 := (HB.out.cell (World.block_lt_of_cell? w _ h0)).trans h0
      by_cases heq : 400 < (rdOf ByteArray.empty l0 x).size
      · have HQ := Aside0.mk heq
        clear heq
        go_wp2_with fail
        refine (f16_calls _ _).mono ?_
        rw [decide_eq_true HQ.out]
        rintro e w' ⟨rfl, hb⟩
        have HB2 := Aside0.mk (below_step HB.out hb)
        clear hb
        go_wp2
        go_ret
        exact ⟨x, rfl, ⟨fun _ => ⟨_, List.getElem_mem (show x.toNat < l0.length by omega), by
          have := HQ.out
          rw [show x = ((x.toNat : Nat) : Int) by omega, rdOf_getElem l0 x.toNat (by omega)] at this
          exact this⟩, fun _ => hx0⟩, HB2.out⟩
      · have HQ := Aside0.mk heq
        clear heq
        go_wp2_with fail
        refine (f16_calls _ _).mono ?_
        rw [decide_eq_false HQ.out]
        rintro e w' ⟨rfl, hb⟩
        have HB2 := Aside0.mk (below_step HB.out hb)
        clear hb
        go_wp2
        go_roundw
        case rel => exact ⟨x + 1, rfl, by omega, by omega, ⟨fun j hj => by
          rcases Int.lt_or_eq_of_le (show (j : Int) ≤ x by omega) with h | h
          · exact HE.out j h
          · rw [h]; exact HQ.out⟩, HB2⟩
        case measure => simp [intOf]; omega
    · go_wp2
      go_ret
      exact ⟨-1, rfl, ⟨fun h => absurd h (by omega), fun ⟨s, hs, h⟩ => by
        obtain ⟨j, hj, rfl⟩ := List.getElem_of_mem hs
        exact absurd (by rw [rdOf_getElem l0 j hj]; exact h) (HE.out j (by omega))⟩, HB.out⟩
theorem contains_calls (A0 : Option Addr) (c0 : Nat) (l0 : List ByteArray) (w : World) (hr0 : Kd.C Kd.string w A0 l0.length l0) :
    Calls Tryd.prog 15 #[.slice A0 l0.length c0, .func (.func 16) #[] #[]] w fun e w' => (∃ b : Bool, e = .returned (.bool b) ∧ (b = true ↔ ∃ s ∈ l0, 400 < s.size)) ∧ Below w.heap.size w w' := by
  have H := Aside0.mk (index_calls A0 c0 l0 w hr0)
  clear hr0
  go_enter Tryd.func15, Tryd.ntmps15
  go_wp2_with fail
  refine H.out.mono ?_
  rintro e w' ⟨r, rfl, hr, hb⟩
  have HR := Aside0.mk hr
  clear hr
  by_cases h : 0 ≤ r
  · go_wp2
    go_ret
    exact ⟨⟨_, rfl, by rw [← HR.out]; simp [h]⟩, hb⟩
  · go_wp2
    go_ret
    exact ⟨⟨_, rfl, by rw [← HR.out]; simp [h]⟩, hb⟩
end Go.Proofs.YtfnmcpgngnlodaaDoor.Wraps
