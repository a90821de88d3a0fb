/- FormString over a form without error answers its text. Condition: the reference's kindWords holds its words, and no string is longer than Go lets it be. -/
import Derived.Test.YtfnmcpgngnlodaaDoorFormsK
namespace Go.Proofs.YtfnmcpgngnlodaaDoor.Forms
open Go.RowKit Go.Proofs.YtfnmcpgngnlodaaDoorW.PrintWords Go.Proofs.YtfnmcpgngnlodaaDoorW.PrintLast Go.Proofs.YtfnmcpgngnlodaaDoorW.PrintMore
open Go.Proofs.YtfnmcpgngnlodaaDoor.PTicketForms
set_option linter.unusedVariables false
set_option linter.unusedSimpArgs false

def R13 : Bool × List (List Nat × List Nat) := (true, [([], []), ([], []), ([1], [1]), ([2], [2]), ([], []), ([], []), ([5], [5]), ([4, 6], [4, 6]), ([7], [7]), ([3, 8], [3, 8]), ([9], [9]), ([], []), ([11], [11]), ([12], [12]), ([10, 13], [10, 13]), ([0, 14], [0, 14]), ([15, 13, 0, 1, 2, 3, 4, 5, 6, 7, 8, 9, 10, 11, 12, 13, 14, 15], [0, 15])])
def R13B : List Nat := [0, 0, 2, 6, 0, 0, 32, 112, 240, 510, 1022, 0, 2048, 6144, 16382, 32767, 65535]
theorem R13tab : rtab .any (opsOf Tryd.f13 5) = R13 := by kernel_rfl
theorem R13bits : waitsOk R13.2 R13B = true := by kernel_rfl
/-- The reference's words for kinds lie in a world. -/
def KindWords (w : World) : Prop := ∃ a c, w.cell? ⟨0, 0, none⟩ = some (.slice (some a) 7 c) ∧ ∀ k : Int, 1 ≤ k → k ≤ 6 → w.cell? (a.add k.toNat) = some (.string ⟨(kw k).toArray⟩)
theorem KindWords.below {w w' : World} (h : KindWords w) (hb : Below w.heap.size w w') : KindWords w' := by
  obtain ⟨a, c, h0, h1⟩ := h
  exact ⟨a, c, pw_cell_below hb h0, fun k h2 h3 => pw_cell_below hb (h1 k h2 h3)⟩
theorem told_calls (n : Int) (h0 : 0 ≤ n) (h6 : n ≤ 6) (w : World) : Calls Tryd.prog 40 #[.int .i64 n] w fun e w' => e = .returned (.string ⟨(dg n).toArray⟩) ∧ Below w.heap.size w w' :=
  portref1_told.calls 1 n _ w (told_small n h0 h6)
def str (l : List UInt8) : ByteArray := ⟨l.toArray⟩
theorem str_size (l : List UInt8) : (str l).size = l.length := by show l.toArray.size = _; simp
theorem str_append (l m : List UInt8) : str l ++ str m = str (l ++ m) := by
  have : (str l ++ str m).data = (str (l ++ m)).data := by simp [str]
  cases h1 : (str l ++ str m); cases h2 : str (l ++ m)
  simp_all
theorem str_data (s : ByteArray) : str s.data.toList = s := by cases s; simp [str]

set_option maxHeartbeats 8000000 in
set_option maxRecDepth 100000 in
theorem formString_calls (A0 : Option Addr) (c0 : Nat) (l0 : List S32) (w : World) (hkw : KindWords w) (hr0 : Kd.C k32 w A0 l0.length l0) (hok : formErr l0 = 0) :
    Calls Tryd.prog 13 #[.agg #[.slice A0 l0.length c0]] w fun e w' => e = .returned (.string (str (fmt l0))) ∧ Below w.heap.size w w' := by
  obtain ⟨hl20, hval⟩ := formErr_zero hok
  have hfl := fmt_length l0 hval
  have HFL := Aside0.mk hfl
  have HV := Aside0.mk hval
  have hb0 : l0.length ≤ 9223372036854775807 := hr0.2.1
  have HR0 := Aside0.mk hr0
  have HKW := Aside0.mk hkw
  clear hr0 hok hval hfl hkw
  go_enter Tryd.func13, Tryd.ntmps13
  go_wp2
  go_loopw [3, 11] (fun s v w' => ∃ x : Nat, v = .int .i64 x ∧ x ≤ l0.length ∧ s = .string (str (fmt (l0.take x))) ∧ Aside0 (Below w.heap.size w w')) (fun _ v _ => l0.length - (intOf v).toNat)
  case atStart => exact ⟨0, rfl, Nat.zero_le _, rfl, ⟨below_alloc (Below.refl _ _) _⟩⟩
  case round =>
    obtain ⟨x, rfl, hx1, rfl, HB⟩ := hrel
    by_cases hlt : x < l0.length
    · have hlt' : (x : Int) < (l0.length : Int) := by omega
      obtain ⟨ad, A2, c2, e, h0, h1, h2, h3, l2, g2⟩ := at_T32 HR0.out x (by omega) hlt'
      have L2 := Aside0.mk l2
      have G2 := Aside0.mk g2
      have VX := Aside0.mk (HV.out x hlt)
      have FT := Aside0.mk (fmt_take l0 x hlt)
      have FL := HFL.out x hx1
      clear l2 g2
      cases e
      replace h0 := (HB.out.cell (World.block_lt_of_cell? w _ h0)).trans h0
      replace h1 := (HB.out.cell (World.block_lt_of_cell? w _ h1)).trans h1
      replace h2 := (HB.out.cell (World.block_lt_of_cell? w _ h2)).trans h2
      replace h3 := (HB.out.cell (World.block_lt_of_cell? w _ h3)).trans h3
      simp only [Int.toNat_natCast] at h0 h1 h2 h3
      generalize rd_T32 l0 (x : Int) = X at *
      have FS : (str (fmt (l0.take x))).size ≤ 500 * x := by rw [str_size]; exact FL
      clear FL
      have hx20 : x ≤ 20 := by omega
      have SF := Aside0.mk (show str (fmt (l0.take x)) = str (fmt (l0.take x)) from rfl)
      generalize hT : str (fmt (l0.take x)) = T at FS SF ⊢
      have HT := Aside0.mk hT
      clear hT
      go_wp2
      have hz := blk_new wr (.cells #[.string X.f0, .int .i64 X.f1, .slice A2 X.f2.length c2, .int .i64 X.f3] 32)
      have HB2 := Aside0.mk (below_alloc HB.out (.cells #[.string X.f0, .int .i64 X.f1, .slice A2 X.f2.length c2, .int .i64 X.f3] 32))
      have hbs : (wr.alloc (.cells #[.string X.f0, .int .i64 X.f1, .slice A2 X.f2.length c2, .int .i64 X.f3] 32)).heap.size = wr.heap.size + 1 := by simp
      clear h0 h1 h2 h3 HB
      generalize wr.heap.size = bx at *
      generalize wr.alloc (.cells #[.string X.f0, .int .i64 X.f1, .slice A2 X.f2.length c2, .int .i64 X.f3] 32) = W0 at *
      have hbx0 : bx < W0.heap.size := by omega
      clear hbs
      have HZ := Aside0.mk hz
      clear hz
      have HK0 := Aside0.mk (HKW.out.below HB2.out)
      obtain ⟨a, c, hka, hkb⟩ := HK0.out
      have HKA := Aside0.mk hka
      have HKB := Aside0.mk (hkb X.f1 VX.out.2.1.1 VX.out.2.1.2)
      clear hka hkb HK0
      refine start_ (n := 17) (ds := []) (S := fun w' => Below W0.heap.size W0 w') #[false, false, false, false, false, false, false, false, false, false, false, false, false, false, false, false, false] rfl rfl rfl (below_drew1 (Below.refl _ _)) (fun hHeld => ?_)
      refine with_tabW R13tab R13bits (fun HT_ HW_ => ?_)
      have HHeld := Aside0.mk hHeld
      clear hHeld
      have HB3 := Aside0.mk (below_step HB2.out HHeld.out)
      generalize hWd : W0.drew = Wd at HHeld HB3 ⊢
      clear hWd
      have hn20 : X.f0.size ≤ 20 := isNm_size VX.out.1
      have hkl := kw_length X.f1
      have hdl : (dg X.f3).length ≤ 1 := by have := dg_length X.f3; omega
      have hk0 : 0 ≤ X.f1 := by have := VX.out.2.1.1; omega
      have hk7 : X.f1 < 7 := by have := VX.out.2.1.2; omega
      refine pure_ (i := 0) (N := some 15) (v := ?_) (a' := ?_) #[true, false, false, false, false, false, false, false, false, false, false, false, false, false, false, false, false] rfl rfl (any_of HT_.out (by kernel_rfl)) (fun _ _ _ h => h) (Or.inl ⟨by rfl, ?_⟩) ?_ ?_
      rotate_left
      · intro w'
        go_simp
        first | (with_reducible rfl) | (rw [if_neg (by simp [ByteArray.size_append] <;> omega)])
      rotate_left
      · simp only [Act.put, List.setIfInBounds_toArray, List.set_cons_zero, List.set_cons_succ, i64_w, i32_w]
        rfl
      refine pure_ (i := 1) (N := some 16) (v := ?_) (a' := ?_) #[true, true, false, false, false, false, false, false, false, false, false, false, false, false, false, false, false] rfl rfl (any_of HT_.out (by kernel_rfl)) (fun _ _ _ h => h) (Or.inl ⟨by rfl, ?_⟩) ?_ ?_
      rotate_left
      · intro w'
        go_simp
        first | (with_reducible rfl) | (rw [if_neg (by simp [ByteArray.size_append] <;> omega)])
      rotate_left
      · simp only [Act.put, List.setIfInBounds_toArray, List.set_cons_zero, List.set_cons_succ, i64_w, i32_w]
        rfl
      refine take_ (i := 2) (N := some 17) (v := ?_) (a' := ?_) #[true, true, true, false, false, false, false, false, false, false, false, false, false, false, false, false, false] rfl rfl (take_ofW HT_.out HW_.out (by kernel_rfl)) (fun _ _ _ h => h) (Or.inl ⟨by rfl, ?_⟩) HHeld.out ?_ ?_
      rotate_left
      · intro w' hB'
        have s0 : w'.cell? ⟨bx, 0, none⟩ = some (.string X.f0) := (hB'.cell hbx0).trans ((blk_cell HZ.out 0).trans rfl)
        clear hB'
        go_simp
        with_reducible rfl
      rotate_left
      · simp only [Act.put, List.setIfInBounds_toArray, List.set_cons_zero, List.set_cons_succ, i64_w, i32_w]
        rfl
      refine pure_ (i := 3) (N := some 18) (v := ?_) (a' := ?_) #[true, true, true, true, false, false, false, false, false, false, false, false, false, false, false, false, false] rfl rfl (any_of HT_.out (by kernel_rfl)) (fun _ _ _ h => h) (Or.inl ⟨by rfl, ?_⟩) ?_ ?_
      rotate_left
      · intro w'
        go_simp
        first | (with_reducible rfl) | (rw [if_neg (by simp [ByteArray.size_append] <;> omega)])
      rotate_left
      · simp only [Act.put, List.setIfInBounds_toArray, List.set_cons_zero, List.set_cons_succ, i64_w, i32_w]
        rfl
      refine take_ (i := 4) (N := some 19) (v := ?_) (a' := ?_) #[true, true, true, true, true, false, false, false, false, false, false, false, false, false, false, false, false] rfl rfl (take_ofW HT_.out HW_.out (by kernel_rfl)) (fun _ _ _ h => h) (Or.inl ⟨by rfl, ?_⟩) HHeld.out ?_ ?_
      rotate_left
      · intro w' hB'
        have sg : w'.cell? ⟨0, 0, none⟩ = some (.slice (some a) 7 c) := pw_cell_below hB' HKA.out
        clear hB'
        go_simp
        with_reducible rfl
      rotate_left
      · simp only [Act.put, List.setIfInBounds_toArray, List.set_cons_zero, List.set_cons_succ, i64_w, i32_w]
        rfl
      refine pure_ (i := 5) (N := some 20) (v := ?_) (a' := ?_) #[true, true, true, true, true, true, false, false, false, false, false, false, false, false, false, false, false] rfl rfl (any_of HT_.out (by kernel_rfl)) (fun _ _ _ h => h) (Or.inl ⟨by rfl, ?_⟩) ?_ ?_
      rotate_left
      · intro w'
        go_simp
        first | (with_reducible rfl) | (rw [if_neg (by simp [ByteArray.size_append] <;> omega)])
      rotate_left
      · simp only [Act.put, List.setIfInBounds_toArray, List.set_cons_zero, List.set_cons_succ, i64_w, i32_w]
        rfl
      refine take_ (i := 6) (N := some 21) (v := ?_) (a' := ?_) #[true, true, true, true, true, true, true, false, false, false, false, false, false, false, false, false, false] rfl rfl (take_ofW HT_.out HW_.out (by kernel_rfl)) (fun _ _ _ h => h) (Or.inl ⟨by rfl, ?_⟩) HHeld.out ?_ ?_
      rotate_left
      · intro w' hB'
        have s1 : w'.cell? ⟨bx, 1, none⟩ = some (.int .i64 X.f1) := (hB'.cell hbx0).trans ((blk_cell HZ.out 1).trans rfl)
        clear hB'
        go_simp
        with_reducible rfl
      rotate_left
      · simp only [Act.put, List.setIfInBounds_toArray, List.set_cons_zero, List.set_cons_succ, i64_w, i32_w]
        rfl
      refine pure_ (i := 7) (N := some 22) (v := ?_) (a' := ?_) #[true, true, true, true, true, true, true, true, false, false, false, false, false, false, false, false, false] rfl rfl (any_of HT_.out (by kernel_rfl)) (fun _ _ _ h => h) (Or.inl ⟨by rfl, ?_⟩) ?_ ?_
      rotate_left
      · intro w'
        go_simp
        first | (with_reducible rfl) | (rw [if_neg (by simp [ByteArray.size_append] <;> omega)])
      rotate_left
      · simp only [Act.put, List.setIfInBounds_toArray, List.set_cons_zero, List.set_cons_succ, i64_w, i32_w]
        rfl
      refine take_ (i := 8) (N := some 23) (v := ?_) (a' := ?_) #[true, true, true, true, true, true, true, true, true, false, false, false, false, false, false, false, false] rfl rfl (take_ofW HT_.out HW_.out (by kernel_rfl)) (fun _ _ _ h => h) (Or.inl ⟨by rfl, ?_⟩) HHeld.out ?_ ?_
      rotate_left
      · intro w' hB'
        have sk : w'.cell? (a.add X.f1.toNat) = some (.string ⟨(kw X.f1).toArray⟩) := pw_cell_below hB' HKB.out
        clear hB'
        go_simp
        with_reducible rfl
      rotate_left
      · simp only [Act.put, List.setIfInBounds_toArray, List.set_cons_zero, List.set_cons_succ, i64_w, i32_w]
        rfl
      refine pure_ (i := 9) (N := some 24) (v := ?_) (a' := ?_) #[true, true, true, true, true, true, true, true, true, true, false, false, false, false, false, false, false] rfl rfl (any_of HT_.out (by kernel_rfl)) (fun _ _ _ h => h) (Or.inl ⟨by rfl, ?_⟩) ?_ ?_
      rotate_left
      · intro w'
        go_simp
        first | (with_reducible rfl) | (rw [if_neg (by simp [ByteArray.size_append] <;> omega)])
      rotate_left
      · simp only [Act.put, List.setIfInBounds_toArray, List.set_cons_zero, List.set_cons_succ, i64_w, i32_w]
        rfl
      refine pure_ (i := 10) (N := some 25) (v := ?_) (a' := ?_) #[true, true, true, true, true, true, true, true, true, true, true, false, false, false, false, false, false] rfl rfl (any_of HT_.out (by kernel_rfl)) (fun _ _ _ h => h) (Or.inl ⟨by rfl, ?_⟩) ?_ ?_
      rotate_left
      · intro w'
        go_simp
        first | (with_reducible rfl) | (rw [if_neg (by simp [ByteArray.size_append] <;> omega)])
      rotate_left
      · simp only [Act.put, List.setIfInBounds_toArray, List.set_cons_zero, List.set_cons_succ, i64_w, i32_w]
        rfl
      refine pure_ (i := 11) (N := some 26) (v := ?_) (a' := ?_) #[true, true, true, true, true, true, true, true, true, true, true, true, false, false, false, false, false] rfl rfl (any_of HT_.out (by kernel_rfl)) (fun _ _ _ h => h) (Or.inl ⟨by rfl, ?_⟩) ?_ ?_
      rotate_left
      · intro w'
        go_simp
        first | (with_reducible rfl) | (rw [if_neg (by simp [ByteArray.size_append] <;> omega)])
      rotate_left
      · simp only [Act.put, List.setIfInBounds_toArray, List.set_cons_zero, List.set_cons_succ, i64_w, i32_w]
        rfl
      refine take_ (i := 12) (N := some 27) (v := ?_) (a' := ?_) #[true, true, true, true, true, true, true, true, true, true, true, true, true, false, false, false, false] rfl rfl (take_ofW HT_.out HW_.out (by kernel_rfl)) (fun _ _ _ h => h) (Or.inl ⟨by rfl, ?_⟩) HHeld.out ?_ ?_
      rotate_left
      · intro w' hB'
        have s3 : w'.cell? ⟨bx, 3, none⟩ = some (.int .i64 X.f3) := (hB'.cell hbx0).trans ((blk_cell HZ.out 3).trans rfl)
        clear hB'
        go_simp
        with_reducible rfl
      rotate_left
      · simp only [Act.put, List.setIfInBounds_toArray, List.set_cons_zero, List.set_cons_succ, i64_w, i32_w]
        rfl
      refine one_ (i := 13) (N := some 28) #[true, true, true, true, true, true, true, true, true, true, true, true, true, true, false, false, false] rfl rfl (one_of HT_.out (by kernel_rfl)) (by decide) (fun K hK => ?_)
      refine goes_ Tryd.func40 (by kernel_rfl) rfl #[.int .i64 X.f3] (by rfl) rfl rfl (by simp only [List.map_toArray, List.map_cons, List.map_nil]; rfl) ?_
      refine (told_calls X.f3 VX.out.2.2.2.2.1 VX.out.2.2.2.2.2 Wd).mono ?_
      rintro e w5 ⟨rfl, hb5⟩
      refine ⟨_, rfl, ?_⟩
      refine hK.out _ _ (below_step HHeld.out hb5) (fun _ => ?_)
      clear hK K
      have HB5 := Aside0.mk (below_step HB3.out hb5)
      have HH5 := Aside0.mk (below_step HHeld.out hb5)
      clear hb5
      refine norm_ (a' := ?_) ?_ ?_
      rotate_left
      · show Act.put _ (some 28) _ = _
        simp only [Act.put, List.setIfInBounds_toArray, List.set_cons_zero, List.set_cons_succ, i64_w, i32_w]
        rfl
      refine pure_ (i := 14) (N := some 29) (v := ?_) (a' := ?_) #[true, true, true, true, true, true, true, true, true, true, true, true, true, true, true, false, false] rfl rfl (any_of HT_.out (by kernel_rfl)) (fun _ _ _ h => h) (Or.inl ⟨by rfl, ?_⟩) ?_ ?_
      rotate_left
      · intro w'
        go_simp
        first | (with_reducible rfl) | (rw [if_neg (by simp [ByteArray.size_append] <;> omega)])
      rotate_left
      · simp only [Act.put, List.setIfInBounds_toArray, List.set_cons_zero, List.set_cons_succ, i64_w, i32_w]
        rfl
      refine pure_ (i := 15) (N := some 30) (v := ?_) (a' := ?_) #[true, true, true, true, true, true, true, true, true, true, true, true, true, true, true, true, false] rfl rfl (any_of HT_.out (by kernel_rfl)) (fun _ _ _ h => h) (Or.inl ⟨by rfl, ?_⟩) ?_ ?_
      rotate_left
      · intro w'
        go_simp
        first | (with_reducible rfl) | (rw [if_neg (by simp [ByteArray.size_append] <;> omega)])
      rotate_left
      · simp only [Act.put, List.setIfInBounds_toArray, List.set_cons_zero, List.set_cons_succ, i64_w, i32_w]
        rfl
      refine pure_ (i := 16) (N := some 3) (v := ?_) (a' := ?_) #[true, true, true, true, true, true, true, true, true, true, true, true, true, true, true, true, true] rfl rfl (any_of HT_.out (by kernel_rfl)) (fun _ _ _ h => h) (Or.inl ⟨by rfl, ?_⟩) ?_ ?_
      rotate_left
      · intro w'
        go_simp
        first | (with_reducible rfl) | (rw [if_neg (by simp [ByteArray.size_append] <;> omega)])
      rotate_left
      · simp only [Act.put, List.setIfInBounds_toArray, List.set_cons_zero, List.set_cons_succ, i64_w, i32_w]
        rfl
      refine done_ (done_of HT_.out (by kernel_rfl)) ?_
      have hz6 : w5.heap[bx]? = some (.cells #[.string X.f0, .int .i64 X.f1, .slice A2 X.f2.length c2, .int .i64 X.f3] 32 (0, 0)) := (HH5.out.block bx hbx0).trans HZ.out
      clear HT_ HW_ HH5 HZ HHeld HB3 HB2 HKA HKB
      have hq2 : w5.cell? ⟨bx, 2, none⟩ = some (.slice A2 X.f2.length c2) := (blk_cell hz6 2).trans rfl
      clear hz6
      have hol : X.f2.length ≤ 20 := VX.out.2.2.1
      have hb8 : X.f2.length ≤ 9223372036854775807 := by omega
      have HS := Aside0.mk (show T ++ (X.f0 ++ ⟨#[32]⟩ ++ ⟨(kw X.f1).toArray⟩ ++ ⟨#[32]⟩ ++ ⟨(dg X.f3).toArray⟩) = str (fmt (l0.take x) ++ headBytes X) by
        rw [← HT.out]
        have e1 : X.f0 = str X.f0.data.toList := (str_data _).symm
        have e2 : (⟨#[32]⟩ : ByteArray) = str [32] := rfl
        have e3 : (⟨(kw X.f1).toArray⟩ : ByteArray) = str (kw X.f1) := rfl
        have e4 : (⟨(dg X.f3).toArray⟩ : ByteArray) = str (dg X.f3) := rfl
        rw [e1, e2, e3, e4, str_append, str_append, str_append, str_append, str_append]
        simp [headBytes, str_data])
      go_wp2
      rw [HS.out]
      have FS2 : (str (fmt (l0.take x) ++ headBytes X)).size ≤ 500 * x + 40 := by
        have h4 := head_length VX.out
        have h5 : (fmt (l0.take x)).length = T.size := by rw [← HT.out, str_size]
        rw [str_size, List.length_append]; omega
      go_loopw [3, 34] (fun s v w' => ∃ y : Nat, v = .int .i64 y ∧ y ≤ X.f2.length ∧ s = .string (str (fmt (l0.take x) ++ headBytes X ++ optsBytes (X.f2.take y))) ∧ Aside0 (Below w.heap.size w w')) (fun _ v _ => X.f2.length - (intOf v).toNat)
      case atStart => exact ⟨0, rfl, Nat.zero_le _, by simp [optsBytes], HB5⟩
      case round =>
        clear HB5 hq2 HS
        obtain ⟨y, rfl, hy1, rfl, HBy⟩ := hrel
        have h5 : (fmt (l0.take x)).length = T.size := by rw [← HT.out, str_size]
        have OL := opts_length (X.f2.take y) (fun o ho => VX.out.2.2.2.1 o (List.mem_of_mem_take ho))
        rw [List.length_take, Nat.min_eq_left hy1] at OL
        have FS3 : (str (fmt (l0.take x) ++ headBytes X ++ optsBytes (X.f2.take y))).size ≤ 500 * x + 40 + 21 * y := by
          have h4 := head_length VX.out
          rw [str_size, List.length_append, List.length_append]; omega
        clear OL h5
        by_cases hly : y < X.f2.length
        · obtain ⟨ado, eo, hos⟩ := at_str G2.out (y : Int) (by omega) (by omega)
          cases eo
          replace hos := (HBy.out.cell (World.block_lt_of_cell? w _ hos)).trans hos
          simp only [Int.toNat_natCast] at hos
          have OT := Aside0.mk (opts_take X.f2 y hly)
          have OV := Aside0.mk (isNm_size (VX.out.2.2.2.1 _ (by rw [rdOf_getElem X.f2 y hly]; exact List.getElem_mem _) : isNm (rdOf ByteArray.empty X.f2 y) = true))
          generalize rdOf ByteArray.empty X.f2 (y : Int) = o at *
          have ho20 : o.size ≤ 20 := OV.out
          have HS3 := Aside0.mk (show str (fmt (l0.take x) ++ headBytes X ++ optsBytes (X.f2.take y)) ++ (⟨#[32]⟩ ++ o) = str (fmt (l0.take x) ++ headBytes X ++ optsBytes (X.f2.take (y + 1))) by
            rw [OT.out]
            have e1 : o = str o.data.toList := (str_data _).symm
            have e2 : (⟨#[32]⟩ : ByteArray) = str [32] := rfl
            rw [e1, e2, str_append, str_append]
            simp [str_data])
          have h320 : (⟨#[32]⟩ : ByteArray).size = 1 := rfl
          generalize str (fmt (l0.take x) ++ headBytes X ++ optsBytes (X.f2.take y)) = T3 at *
          go_wp2
          go_roundw
          case rel => exact ⟨y + 1, by go_num, by omega, by rw [HS3.out], HBy⟩
          case measure => simp [intOf]; omega
        · have HS3 := Aside0.mk (show str (fmt (l0.take x) ++ headBytes X ++ optsBytes (X.f2.take y)) ++ ⟨#[10]⟩ = str (fmt (l0.take (x + 1))) by
            rw [FT.out, show X.f2.take y = X.f2 from List.take_of_length_le (by omega)]
            have e2 : (⟨#[10]⟩ : ByteArray) = str [10] := rfl
            rw [e2, str_append]
            simp [fieldBytes])
          generalize str (fmt (l0.take x) ++ headBytes X ++ optsBytes (X.f2.take y)) = T3 at *
          go_wp2
          go_roundw
          case rel => exact ⟨x + 1, by go_num, by omega, by rw [HS3.out], HBy⟩
          case measure => simp [intOf]; omega
    · have HF := Aside0.mk (show fmt (l0.take x) = fmt l0 by rw [List.take_of_length_le (by omega)])
      rw [HF.out]
      go_wp2
      go_ret
      exact ⟨rfl, HB.out⟩
end Go.Proofs.YtfnmcpgngnlodaaDoor.Forms
