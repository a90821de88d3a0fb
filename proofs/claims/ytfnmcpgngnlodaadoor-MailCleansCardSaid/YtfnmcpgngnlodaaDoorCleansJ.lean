/- strings.IndexAny at the two brackets answers one number for each string, whatever its bytes. Condition: a string within the reach. -/
import Derived.Test.YtfnmcpgngnlodaaDoorCleansI
import Derived.Lib.OthersKept
namespace Go.Proofs.YtfnmcpgngnlodaaDoor.Cleans
open Go.RowKit Go.Proofs.YtfnmcpgngnlodaaDoorW.PrintWords Go.Proofs.YtfnmcpgngnlodaaDoorW.PrintLast Go.Proofs.YtfnmcpgngnlodaaDoorW.PrintMore
open Go.Proofs.YtfnmcpgngnlodaaDoor.Forms
set_option linter.unusedVariables false
set_option linter.unusedSimpArgs false

def byt (s : ByteArray) (i : Nat) : UInt8 := s.data.toList.getD i 0
def isB (b : UInt8) : Bool := [91, 93].contains b
/-- By bytes. -/
def bi (s : ByteArray) : Nat → Nat → Int
  | 0, _ => -1
  | f + 1, p => if isB (byt s p) = true then (p : Int) else bi s f (p + 1)
/-- By code points. -/
def ri (s : ByteArray) : Nat → Nat → Int
  | 0, _ => -1
  | f + 1, p => if p < s.size then (if isBr (Utf8.decode s p).1 = true then (p : Int) else ri s f (p + (Utf8.decode s p).2)) else -1
def iany (s : ByteArray) : Int := if 8 < s.size then bi s s.size 0 else ri s s.size 0
theorem width_pos (s : ByteArray) (p : Nat) : 1 ≤ (Utf8.decode s p).2 := by
  unfold Utf8.decode
  simp only
  repeat' split
  all_goals first | omega | decide
theorem bi_bound (s : ByteArray) (f p : Nat) : -1 ≤ bi s f p ∧ bi s f p < p + f := by
  induction f generalizing p with
  | zero => simp only [bi]; omega
  | succ f ih =>
    unfold bi
    split
    · omega
    · have := ih (p + 1); omega
theorem ri_bound (s : ByteArray) (f p : Nat) : -1 ≤ ri s f p ∧ (0 ≤ ri s f p → ri s f p < s.size) := by
  induction f generalizing p with
  | zero => simp only [ri]; omega
  | succ f ih =>
    unfold ri
    split
    · split
      · omega
      · exact ih _
    · omega
theorem iany_bound (s : ByteArray) : -1 ≤ iany s ∧ (0 ≤ iany s → iany s < s.size) := by
  unfold iany
  split
  · have := bi_bound s s.size 0; omega
  · exact ri_bound s s.size 0
set_option maxHeartbeats 4000000 in
set_option maxRecDepth 1000000 in
theorem indexAny_short (s : ByteArray) (h8 : s.size ≤ 8) (w : World) :
    Calls Tryd.prog 82 #[.string s, .string ⟨#[91, 93]⟩] w fun e w' => e = .returned (.int .i64 (iany s)) ∧ Below w.heap.size w w' := by
  have HI := Aside0.mk (show iany s = ri s s.size 0 by unfold iany; rw [if_neg (by omega)])
  go_enter Tryd.func82, Tryd.ntmps82
  go_wp2_with fail
  refine (Tryd.strings_shouldUseASCIISet _ _).mono ?_
  rintro e w' ⟨rfl, rfl⟩
  rw [show decide ((8 : Int) < (s.size : Int)) = false from decide_eq_false (by omega)]
  go_wp2
  have hst := World.iter_heap w' s 0
  have HB0 := Aside0.mk (show Below w'.heap.size w' (w'.iter s 0) from below_alloc (Below.refl _ _) _)
  go_loopg [9, 10] s.size (fun g _ _ wx => ∃ p : Nat, wx.heap[w'.heap.size]? = some (.stringIter s p) ∧ Aside0 (ri s g p = ri s s.size 0) ∧ s.size ≤ p + g ∧ Aside0 (Below w'.heap.size w' wx))
  case atStart => exact ⟨0, hst, ⟨rfl⟩, by omega, HB0⟩
  case round =>
    clear hst HB0
    obtain ⟨p, hk, HR, hpg, HB⟩ := hrel
    have HK := Aside0.mk hk
    cases gk with
    | zero =>
      have hnx := fun ty => Lib.run_next_end_at (P := Tryd.prog) wr w'.heap.size s p ty hk (by omega)
      have HE := Aside0.mk (show (-1 : Int) = iany s by rw [HI.out, ← HR.out]; rfl)
      clear hk
      go_wp2
      go_ret
      exact ⟨ret_int HE.out, HB.out⟩
    | succ g =>
      by_cases hlt : p < s.size
      · have hnx := fun ty => Lib.run_next_any_at (P := Tryd.prog) wr w'.heap.size s p ty hk hlt
        have hw := width_pos s p
        have hR : ri s (g + 1) p = if isBr (Utf8.decode s p).1 = true then (p : Int) else ri s g (p + (Utf8.decode s p).2) := by
          show (if p < s.size then _ else _) = _
          rw [if_pos hlt]
        rw [HR.out] at hR
        have hi := fun q => Lib.iterAt_heap wr w'.heap.size s p q hk
        have hB := fun q => Lib.below_iterAt HB.out (Nat.le_refl _) s q
        generalize Utf8.decode s p = d at hnx hw hR
        obtain ⟨r, wd⟩ := d
        simp only at hnx hw hR
        have HR1 := Aside0.mk hR
        have HI1 := Aside0.mk (hi (p + wd))
        have HB1 := Aside0.mk (hB (p + wd))
        clear hR hi hB hk HB HK HR
        generalize wr.iterAt w'.heap.size s (p + wd) = W1 at hnx HI1 HB1
        go_wp2_with fail
        refine (rune_any (r : Int) _).mono ?_
        rintro e w2 ⟨⟨k, rfl, hkb⟩, hb⟩
        have HB2 := Aside0.mk (below_step HB1.out hb)
        have HI2 := Aside0.mk (show w2.heap[w'.heap.size]? = some (.stringIter s (p + wd)) from (hb.block _ (by
          have := (Array.getElem?_eq_some_iff.1 HI1.out).1; exact this)).trans HI1.out)
        have HKB := Aside0.mk hkb
        clear hb HB1 HI1 hkb hnx
        by_cases hk0 : 0 ≤ k
        · have HE := Aside0.mk (show (p : Int) = iany s by rw [HI.out, HR1.out, if_pos (HKB.out.1 hk0)])
          go_wp2
          go_ret
          exact ⟨ret_int HE.out, HB2.out⟩
        · have HE := Aside0.mk (show ri s g (p + wd) = ri s s.size 0 by rw [HR1.out, if_neg (fun h => hk0 (HKB.out.2 h))])
          go_wp2
          go_roundg g
          case measure => omega
          case rel => exact ⟨p + wd, HI2.out, HE, by omega, HB2⟩
      · have hnx := fun ty => Lib.run_next_end_at (P := Tryd.prog) wr w'.heap.size s p ty hk hlt
        have HE := Aside0.mk (show (-1 : Int) = iany s by
          rw [HI.out, ← HR.out]
          show _ = (if p < s.size then _ else _)
          rw [if_neg hlt])
        clear hk
        go_wp2
        go_ret
        exact ⟨ret_int HE.out, HB.out⟩

theorem zero88 : ∀ w, (zeroValue 88).run Tryd.prog w = .ok (.agg (Array.replicate 256 (.bool false))) w :=
  (zero_of_info (show (Tryd.prog.info? 88).map (fun i => (i.zero, i.size)) = some (some (.agg (Array.replicate 256 (.bool false))), 256) by kernel_rfl)).1
set_option maxHeartbeats 4000000 in
set_option maxRecDepth 1000000 in
theorem indexAny_long (s : ByteArray) (h8 : 8 < s.size) (hs : s.size ≤ 140737488355328) (w : World) :
    Calls Tryd.prog 82 #[.string s, .string ⟨#[91, 93]⟩] w fun e w' => e = .returned (.int .i64 (iany s)) ∧ Below w.heap.size w w' := by
  have HI := Aside0.mk (show iany s = bi s s.size 0 by unfold iany; rw [if_pos h8])
  have hz88 := zero88
  go_enter Tryd.func82, Tryd.ntmps82
  go_wp2_with fail
  refine (Tryd.strings_shouldUseASCIISet _ _).mono ?_
  rintro e w' ⟨rfl, rfl⟩
  rw [show decide ((8 : Int) < (s.size : Int)) = true from decide_eq_true (by omega)]
  go_wp2_with fail
  refine (Tryd.strings_makeASCIISet zero88 ⟨#[91, 93]⟩ _ (by decide) (ascii_of_all (by decide))).mono ?_
  rintro e w1 ⟨rfl, rfl⟩
  have hsz := Lib.setCells_size [91, 93]
  have hat := Lib.setCells_at [91, 93]
  have hone := Lib.setCells_one [91, 93]
  generalize hL : Lib.setCells [91, 93] = L at hsz hat hone
  have hsc : (storeCells ⟨w'.heap.size + 1, 0, none⟩ L.toList 0).run Tryd.prog ((w'.alloc (.cells L 88)).alloc (.cells (Array.replicate 256 (.bool false)) 88)) = .ok () ((w'.alloc (.cells L 88)).alloc (.cells L 88)) := by
    have := run_storeCells_new (P := Tryd.prog) (w'.alloc (.cells L 88)) 88 (Array.replicate 256 (.bool false)) L (by rw [hsz]; kernel_rfl) (by rw [hsz, Array.size_replicate]) hone
    simpa using this
  clear hL hone
  have hcellAt : ∀ x : UInt8, ((w'.alloc (.cells L 88)).alloc (.cells L 88)).cell? ⟨w'.heap.size + 1, x.toNat, none⟩ = some (.bool (isB x)) := fun x => by
    rw [World.cell?_alloc_at _ _ _ _ (by simp), hat]; rfl
  have HC := Aside0.mk hcellAt
  clear hat hcellAt
  go_wp2
  have HB0 := Aside0.mk (show Below w'.heap.size w' ((w'.alloc (.cells L 88)).alloc (.cells L 88)) from below_alloc (below_alloc (Below.refl _ _) _) _)
  clear hsc hz88
  generalize hN : w'.heap.size = N0 at *
  have HN := Aside0.mk hN
  clear hN
  generalize (w'.alloc (.cells L 88)).alloc (.cells L 88) = W0 at *
  go_wp2
  clear hsz
  go_loopg [8] s.size (fun g v wx => ∃ p : Nat, v = .int .i64 p ∧ p + g = s.size ∧ Aside0 (bi s g p = bi s s.size 0) ∧ wx = W0)
  case atStart => exact ⟨0, rfl, by omega, ⟨rfl⟩, rfl⟩
  case round =>
    obtain ⟨p, rfl, hpg, HR, rfl⟩ := hrel
    cases gk with
    | zero =>
      have HE := Aside0.mk (show (-1 : Int) = iany s by rw [HI.out, ← HR.out]; rfl)
      have hnl : ¬ (p : Int) < (s.size : Int) := by omega
      clear hpg
      go_wp2
      go_ret
      exact ⟨ret_int HE.out, by rw [HN.out]; exact HB0.out⟩
    | succ g =>
      have hlt : p < s.size := by omega
      have HBY := Aside0.mk (show byt s p = s[p] by
        unfold byt
        have hl : p < s.data.toList.length := by rw [Array.length_toList]; exact hlt
        rw [show s.data.toList.getD p 0 = s.data.toList[p] by simp [List.getD, List.getElem?_eq_getElem hl]]
        rfl)
      have hR : bi s (g + 1) p = if isB (byt s p) = true then (p : Int) else bi s g (p + 1) := rfl
      rw [HR.out, HBY.out] at hR
      have hc := HC.out s[p]
      have HR1 := Aside0.mk hR
      have HCX := Aside0.mk hc
      clear hR hc HR
      go_wp2_with fail
      refine (Tryd.asciiSet_contains _ _ _ _ HCX.out).mono ?_
      rintro e w5 ⟨rfl, rfl⟩
      cases hb : isB s[p]
      · have HE := Aside0.mk (show bi s g (p + 1) = bi s s.size 0 by rw [HR1.out, hb]; rfl)
        clear hb
        go_wp2
        go_roundg g
        case measure => omega
        case rel => exact ⟨p + 1, by go_num, by omega, HE, rfl⟩
      · have HE := Aside0.mk (show (p : Int) = iany s by rw [HI.out, HR1.out, hb]; rfl)
        clear hb
        go_wp2
        go_ret
        exact ⟨ret_int HE.out, by rw [HN.out]; exact HB0.out⟩

theorem indexAny_calls (s : ByteArray) (hs : s.size ≤ 140737488355328) (w : World) :
    Calls Tryd.prog 82 #[.string s, .string ⟨#[91, 93]⟩] w fun e w' => e = .returned (.int .i64 (iany s)) ∧ Below w.heap.size w w' := by
  by_cases h : 8 < s.size
  · exact indexAny_long s h hs w
  · exact indexAny_short s (by omega) w
end Go.Proofs.YtfnmcpgngnlodaaDoor.Cleans
