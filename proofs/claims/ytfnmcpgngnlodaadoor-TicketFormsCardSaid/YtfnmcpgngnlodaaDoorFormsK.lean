/- FormText over a form answers its error, or its text. Condition: no string is longer than Go lets it be. -/
import Derived.Test.YtfnmcpgngnlodaaDoorFormsI
import Derived.Test.YtfnmcpgngnlodaaDoorFormsJ
import Derived.Test.YtfnmcpgngnlodaaDoorFormsB
import Derived.Test.YtfnmcpgngnlodaaDoorFormsL
namespace Go.Proofs.YtfnmcpgngnlodaaDoor.Forms
open Go.RowKit Go.Proofs.YtfnmcpgngnlodaaDoorW.PrintWords Go.Proofs.YtfnmcpgngnlodaaDoorW.PrintLast Go.Proofs.YtfnmcpgngnlodaaDoorW.PrintMore
open Go.Proofs.YtfnmcpgngnlodaaDoor.PTicketForms
set_option linter.unusedVariables false
set_option linter.unusedSimpArgs false

def R8 : Bool × List (List Nat × List Nat) := (true, [([], []), ([0], [0]), ([1], [1]), ([], []), ([], []), ([4], [4]), ([3, 5], [3, 5]), ([6], [6]), ([2, 7], [2, 7]), ([8], [8]), ([], []), ([10], [10]), ([11, 3], [11]), ([9, 12], [9, 12]), ([13, 12], [13])])
def R8B : List Nat := [0, 1, 3, 0, 0, 16, 56, 120, 255, 511, 0, 1024, 3080, 8191, 16383]
theorem R8tab : rtab .any (opsOf Tryd.f8 8) = R8 := by kernel_rfl
theorem R8bits : waitsOk R8.2 R8B = true := by kernel_rfl
theorem at_str {w : World} {A : Option Addr} {n : Nat} {xs : List ByteArray} (h : Kd.C Kd.string w A n xs) (i : Int) (h0 : 0 ≤ i) (h1 : i < n) : ∃ ad, A = some ad ∧ w.cell? (ad.add i.toNat) = some (.string (rdOf ByteArray.empty xs i)) := by
  obtain ⟨ad, cs, e, _, hK, hc⟩ := Kd.C_get h ByteArray.empty i h0 h1
  have hcs : cs = [.string _] := hK
  have h0 := hc 0
  rw [hcs] at h0
  have h0' := h0 _ rfl
  rw [show Kd.string.sz = 1 from rfl, Nat.mul_one, Nat.add_zero] at h0'
  exact ⟨ad, e, h0'⟩
/-- kindWords' slice, read at a kind. -/
theorem kindWords_calls (w : World) : Calls Tryd.prog 30 #[] w fun e w' => ∃ A c, e = .returned (.slice A 7 c) ∧ (∀ k : Int, 1 ≤ k → k ≤ 6 → ∃ ad, A = some ad ∧ w'.cell? (ad.add k.toNat) = some (.string ⟨(kw k).toArray⟩)) ∧ Below w.heap.size w w' := by
  refine (ticket_kindWords.calls _ w rfl).mono ?_
  rintro e w' ⟨v, rfl, hR, hB⟩
  obtain ⟨A, c, rfl, hl, hC⟩ := Kd.R_reads hR
  refine ⟨A, c, rfl, fun k h1 h6 => ?_, hB⟩
  obtain ⟨ad, cs, e, _, hK, hc⟩ := Kd.C_get hC (⟨#[]⟩ : ByteArray) k (by omega) (by simp; omega)
  refine ⟨ad, e, ?_⟩
  have h0 := hc 0
  have hcs : cs = [.string _] := hK
  rw [hcs] at h0
  have h0' := h0 _ rfl
  rw [show Kd.string.sz = 1 from rfl, Nat.mul_one, Nat.add_zero] at h0'
  rw [h0']
  have : k = 1 ∨ k = 2 ∨ k = 3 ∨ k = 4 ∨ k = 5 ∨ k = 6 := by omega
  rcases this with rfl | rfl | rfl | rfl | rfl | rfl <;> rfl
theorem itoa_calls (n : Int) (h0 : 0 ≤ n) (h6 : n ≤ 6) (w : World) : Calls Tryd.prog 31 #[.int .i64 n] w fun e w' => e = .returned (.string ⟨(dg n).toArray⟩) ∧ w = w' := by
  have h := Tryd.strconv_Itoa_small n.toNat (by omega) w
  rw [dec_small n h0 h6, Int.toNat_of_nonneg h0] at h
  exact h.mono fun _ _ hh => ⟨hh.1, hh.2.symm⟩
theorem strCells_bytes (s : ByteArray) : Lib.strCells s = Lib.byteCells s.data.toList := rfl
theorem byteCells_append (a b : List UInt8) : Lib.byteCells (a ++ b) = Lib.byteCells a ++ Lib.byteCells b := by simp [Lib.byteCells]
theorem builder_below {B b : Nat} {bs : List Value} {w w' : World} (h : Lib.IsBuilder 63 5 B b bs w) (hb : Below w.heap.size w w') : Lib.IsBuilder 63 5 B b bs w' := by
  have one : ∀ p, Lib.BuilderAt 63 5 B b p bs w → Lib.BuilderAt 63 5 B b p bs w' := by
    rintro p ⟨hB, v, hv, hown, hne⟩
    exact ⟨hB, v, blk_below hv hb, pw_own_below hown hb, hne⟩
  exact h.imp (one _) (one _)

set_option maxHeartbeats 8000000 in
set_option maxRecDepth 100000 in
theorem formText_calls (A0 : Option Addr) (c0 : Nat) (l0 : List S32) (hs : ∀ x ∈ l0, SmallF x) (w : World) (hr0 : Kd.C k32 w A0 l0.length l0) (hc0 : l0.length ≤ c0) (hok : formErr l0 = 0) :
    Calls Tryd.prog 8 #[.agg #[.slice A0 l0.length c0]] w fun e w' => e = .returned (.tuple #[.string ⟨(fmt l0).toArray⟩, .int .i64 0]) ∧ Below w.heap.size w w' := by
  obtain ⟨hl20, hval⟩ := formErr_zero hok
  have hfl := fmt_length l0 hval
  have HFL := Aside0.mk hfl
  have HV := Aside0.mk hval
  have hb0 : l0.length ≤ 9223372036854775807 := hr0.2.1
  have HCF := Aside0.mk (fun (W : World) (hW : Below w.heap.size w W) => checkForm_calls A0 c0 l0 hs W (Kd.C_below hr0 hW) hc0)
  have HR0 := Aside0.mk hr0
  have HC0 := Aside0.mk hc0
  have HOK := Aside0.mk hok
  clear hr0 hc0 hs hok hval hfl
  go_enter Tryd.func8, Tryd.ntmps8
  go_wp2_with fail
  refine (HCF.out _ (below_alloc (Below.refl _ _) _)).mono ?_
  rw [HOK.out]
  rintro e w1 ⟨rfl, hb⟩
  have hbx : w1.cell? ⟨w.heap.size, 0, none⟩ = some (.slice A0 l0.length c0) := (hb.cell (by simp)).trans (by go_simp)
  have HB1 := Aside0.mk (below_step (below_alloc (Below.refl _ _) _) hb)
  have hsz1 : w.heap.size < w1.heap.size := by have := hb.size; simp at this; omega
  clear hb HCF
  have hbx2 := alloc_keep hbx
  go_wp2
  have HG := Aside0.mk (Lib.fresh_isBuilder 63 5 w1)
  have HB2 := Aside0.mk (below_alloc HB1.out (.cells #[.pointer none, .slice none 0 0] 63))
  go_loopw [18] (fun v w' => ∃ x : Nat, v = .int .i64 x ∧ x ≤ l0.length ∧ Aside0 (Lib.IsBuilder 63 5 w1.heap.size w1.heap.size (Lib.byteCells (fmt (l0.take x))) w') ∧ Aside0 (Below w.heap.size w w') ∧ w1.heap.size < w'.heap.size) (fun v _ => l0.length - (intOf v).toNat)
  case atStart => exact ⟨0, rfl, Nat.zero_le _, HG, HB2, by simp⟩
  case round =>
    clear hbx hbx2 HG HB2
    obtain ⟨x, rfl, hx1, HG, HB, hgs⟩ := hrel
    by_cases hlt : x < l0.length
    · have hlt' : (x : Int) < (l0.length : Int) := by omega
      obtain ⟨ad, A2, c2, e, h0, h1, h2, h3, l2, g2⟩ := at_T32 HR0.out x (by omega) hlt'
      have L2 := Aside0.mk l2
      have G2 := Aside0.mk g2
      have VX := Aside0.mk (HV.out x hlt)
      have FT := Aside0.mk (fmt_take l0 x hlt)
      have FL := Aside0.mk (HFL.out x hx1)
      clear l2 g2
      cases e
      replace h0 := (HB.out.cell (World.block_lt_of_cell? w _ h0)).trans h0
      replace h1 := (HB.out.cell (World.block_lt_of_cell? w _ h1)).trans h1
      replace h2 := (HB.out.cell (World.block_lt_of_cell? w _ h2)).trans h2
      replace h3 := (HB.out.cell (World.block_lt_of_cell? w _ h3)).trans h3
      simp only [Int.toNat_natCast] at h0 h1 h2 h3
      generalize rd_T32 l0 (x : Int) = X at *
      go_wp2
      have hz := blk_new wr (.cells #[.string X.f0, .int .i64 X.f1, .slice A2 X.f2.length c2, .int .i64 X.f3] 32)
      have HG2 := Aside0.mk (builder_below HG.out (below_alloc (Below.refl _ _) (.cells #[.string X.f0, .int .i64 X.f1, .slice A2 X.f2.length c2, .int .i64 X.f3] 32)))
      have HB2 := Aside0.mk (below_alloc HB.out (.cells #[.string X.f0, .int .i64 X.f1, .slice A2 X.f2.length c2, .int .i64 X.f3] 32))
      have hbs : (wr.alloc (.cells #[.string X.f0, .int .i64 X.f1, .slice A2 X.f2.length c2, .int .i64 X.f3] 32)).heap.size = wr.heap.size + 1 := by simp
      clear h0 h1 h2 h3 HG HB
      generalize wr.heap.size = bx at *
      generalize wr.alloc (.cells #[.string X.f0, .int .i64 X.f1, .slice A2 X.f2.length c2, .int .i64 X.f3] 32) = W0 at *
      have hbx0 : bx < W0.heap.size := by omega
      clear hbs
      have HZ := Aside0.mk hz
      clear hz
      refine start_ (n := 15) (ds := [14]) (S := fun w' => Below W0.heap.size W0 w') #[false, false, false, false, false, false, false, false, false, false, false, false, false, false, false] rfl rfl rfl (below_drew1 (Below.refl _ _)) (fun hHeld => ?_)
      refine with_tabW R8tab R8bits (fun HT_ HW_ => ?_)
      have HHeld := Aside0.mk hHeld
      clear hHeld
      have HG3 := Aside0.mk (builder_below HG2.out HHeld.out)
      have HB3 := Aside0.mk (below_step HB2.out HHeld.out)
      generalize hWd : W0.drew = Wd at HHeld HG3 HB3 ⊢
      clear hWd
      have hn20 : X.f0.size ≤ 20 := isNm_size VX.out.1
      refine pure_ (i := 0) (N := some 22) (v := ?_) (a' := ?_) #[true, false, false, false, false, false, false, false, false, false, false, false, false, false, false] rfl rfl (any_of HT_.out (by kernel_rfl)) (fun _ _ _ h => h) (Or.inl ⟨by rfl, ?_⟩) ?_ ?_
      rotate_left
      · intro w'
        go_simp
        first | (with_reducible rfl) | (rw [if_neg (by simp [ByteArray.size_append] <;> omega)])
      rotate_left
      · simp only [Act.put, List.setIfInBounds_toArray, List.set_cons_zero, List.set_cons_succ, i64_w, i32_w]
        rfl
      refine take_ (i := 1) (N := some 23) (v := ?_) (a' := ?_) #[true, true, false, false, false, false, false, false, false, false, false, false, false, false, false] rfl rfl (take_ofW HT_.out HW_.out (by kernel_rfl)) (fun _ _ _ h => h) (Or.inl ⟨by rfl, ?_⟩) HHeld.out ?_ ?_
      rotate_left
      · intro w' hB'
        have s0 : w'.cell? ⟨bx, 0, none⟩ = some (.string X.f0) := (hB'.cell hbx0).trans ((blk_cell HZ.out 0).trans rfl)
        clear hB'
        go_simp
        with_reducible rfl
      rotate_left
      · simp only [Act.put, List.setIfInBounds_toArray, List.set_cons_zero, List.set_cons_succ, i64_w, i32_w]
        rfl
      refine pure_ (i := 2) (N := some 24) (v := ?_) (a' := ?_) #[true, true, true, false, false, false, false, false, false, false, false, false, false, false, false] rfl rfl (any_of HT_.out (by kernel_rfl)) (fun _ _ _ h => h) (Or.inl ⟨by rfl, ?_⟩) ?_ ?_
      rotate_left
      · intro w'
        go_simp
        first | (with_reducible rfl) | (rw [if_neg (by simp [ByteArray.size_append] <;> omega)])
      rotate_left
      · simp only [Act.put, List.setIfInBounds_toArray, List.set_cons_zero, List.set_cons_succ, i64_w, i32_w]
        rfl
      refine pure_ (i := 4) (N := some 26) (v := ?_) (a' := ?_) #[true, true, true, false, true, false, false, false, false, false, false, false, false, false, false] rfl rfl (any_of HT_.out (by kernel_rfl)) (fun _ _ _ h => h) (Or.inl ⟨by rfl, ?_⟩) ?_ ?_
      rotate_left
      · intro w'
        go_simp
        first | (with_reducible rfl) | (rw [if_neg (by simp [ByteArray.size_append] <;> omega)])
      rotate_left
      · simp only [Act.put, List.setIfInBounds_toArray, List.set_cons_zero, List.set_cons_succ, i64_w, i32_w]
        rfl
      refine take_ (i := 5) (N := some 27) (v := ?_) (a' := ?_) #[true, true, true, false, true, true, false, false, false, false, false, false, false, false, false] rfl rfl (take_ofW HT_.out HW_.out (by kernel_rfl)) (fun _ _ _ h => h) (Or.inl ⟨by rfl, ?_⟩) HHeld.out ?_ ?_
      rotate_left
      · intro w' hB'
        have s1 : w'.cell? ⟨bx, 1, none⟩ = some (.int .i64 X.f1) := (hB'.cell hbx0).trans ((blk_cell HZ.out 1).trans rfl)
        clear hB'
        go_simp
        with_reducible rfl
      rotate_left
      · simp only [Act.put, List.setIfInBounds_toArray, List.set_cons_zero, List.set_cons_succ, i64_w, i32_w]
        rfl
      refine pure_ (i := 10) (N := some 32) (v := ?_) (a' := ?_) #[true, true, true, false, true, true, false, false, false, false, true, false, false, false, false] rfl rfl (any_of HT_.out (by kernel_rfl)) (fun _ _ _ h => h) (Or.inl ⟨by rfl, ?_⟩) ?_ ?_
      rotate_left
      · intro w'
        go_simp
        first | (with_reducible rfl) | (rw [if_neg (by simp [ByteArray.size_append] <;> omega)])
      rotate_left
      · simp only [Act.put, List.setIfInBounds_toArray, List.set_cons_zero, List.set_cons_succ, i64_w, i32_w]
        rfl
      refine take_ (i := 11) (N := some 33) (v := ?_) (a' := ?_) #[true, true, true, false, true, true, false, false, false, false, true, true, false, false, false] rfl rfl (take_ofW HT_.out HW_.out (by kernel_rfl)) (fun _ _ _ h => h) (Or.inl ⟨by rfl, ?_⟩) HHeld.out ?_ ?_
      rotate_left
      · intro w' hB'
        have s3 : w'.cell? ⟨bx, 3, none⟩ = some (.int .i64 X.f3) := (hB'.cell hbx0).trans ((blk_cell HZ.out 3).trans rfl)
        clear hB'
        go_simp
        with_reducible rfl
      rotate_left
      · simp only [Act.put, List.setIfInBounds_toArray, List.set_cons_zero, List.set_cons_succ, i64_w, i32_w]
        rfl
      refine one_ (i := 3) (N := some 25) #[true, true, true, true, true, true, false, false, false, false, true, true, false, false, false] rfl rfl (one_of HT_.out (by kernel_rfl)) (by decide) (fun K hK => ?_)
      refine goes_ Tryd.func30 (by kernel_rfl) rfl #[] (by rfl) rfl rfl (by simp) ?_
      refine (kindWords_calls Wd).mono ?_
      rintro e w5 ⟨A, c, rfl, hkw, hb5⟩
      refine ⟨_, rfl, ?_⟩
      refine hK.out _ _ (below_step HHeld.out hb5) (fun _ => ?_)
      clear hK K
      obtain ⟨adk, rfl, hck⟩ := hkw X.f1 VX.out.2.1.1 VX.out.2.1.2
      clear hkw
      have HG5 := Aside0.mk (builder_below HG3.out hb5)
      have HB5 := Aside0.mk (below_step HB3.out hb5)
      have HH5 := Aside0.mk (below_step HHeld.out hb5)
      clear hb5
      have hk0 : 0 ≤ X.f1 := by have := VX.out.2.1.1; omega
      have hk7 : X.f1 < 7 := by have := VX.out.2.1.2; omega
      have hk0' := eq_true hk0
      have hk7' := eq_true hk7
      have hkl := kw_length X.f1
      have hdl : (dg X.f3).length ≤ 1 := by have := dg_length X.f3; omega
      refine norm_ (a' := ?_) ?_ ?_
      rotate_left
      · show Act.put _ (some 25) _ = _
        simp only [Act.put, List.setIfInBounds_toArray, List.set_cons_zero, List.set_cons_succ, i64_w, i32_w]
        rfl
      refine pure_ (i := 6) (N := some 28) (v := ?_) (a' := ?_) #[true, true, true, true, true, true, true, false, false, false, true, true, false, false, false] rfl rfl (any_of HT_.out (by kernel_rfl)) (fun _ _ _ h => h) (Or.inl ⟨by rfl, ?_⟩) ?_ ?_
      rotate_left
      · intro w'
        go_simp
        first | (with_reducible rfl) | (rw [if_neg (by simp [ByteArray.size_append] <;> omega)])
      rotate_left
      · simp only [Act.put, List.setIfInBounds_toArray, List.set_cons_zero, List.set_cons_succ, i64_w, i32_w]
        rfl
      refine join_ (σ := Unit) 2 #[true, true, true, true, true, true, true, true, true, true, true, true, true, false, false] (fun _ => [(29, .string ⟨(kw X.f1).toArray⟩), (30, .string (X.f0 ++ ⟨#[32]⟩ ++ ⟨(kw X.f1).toArray⟩)), (31, .string (X.f0 ++ ⟨#[32]⟩ ++ ⟨(kw X.f1).toArray⟩ ++ ⟨#[32]⟩)), (34, .string ⟨(dg X.f3).toArray⟩)]) (fun (_ : Unit) w' => w5 = w') ?_ ?_
      rotate_left
      · intro hCont
        refine two_ (i := 7) (j := 12) (Ni := some 29) (Nj := some 34) #[true, true, true, true, true, true, true, true, false, false, true, true, false, false, false] #[true, true, true, true, true, true, true, false, false, false, true, true, true, false, false] rfl rfl rfl rfl (two_of HT_.out (by kernel_rfl)) (by decide) (by decide) (fun K hK => ?_) (fun K hK => ?_)
        · skip
          refine value_ (w1 := w5) (v := .string ⟨(kw X.f1).toArray⟩) (by rfl) rfl ?_ ?_
          · go_simp
          refine hK.out _ _ HH5.out (fun _ => ?_)
          clear hK K
          refine norm_ (a' := ?_) ?_ ?_
          rotate_left
          · show Act.put _ (some 29) _ = _
            simp only [Act.put, List.setIfInBounds_toArray, List.set_cons_zero, List.set_cons_succ, i64_w, i32_w]
            rfl
          refine pure_ (i := 8) (N := some 30) (v := ?_) (a' := ?_) #[true, true, true, true, true, true, true, true, true, false, true, true, false, false, false] rfl rfl (any_of HT_.out (by kernel_rfl)) (fun _ _ _ h => h) (Or.inl ⟨by rfl, ?_⟩) ?_ ?_
          rotate_left
          · intro w'
            go_simp
            first | (with_reducible rfl) | (rw [if_neg (by simp [ByteArray.size_append] <;> omega)])
          rotate_left
          · simp only [Act.put, List.setIfInBounds_toArray, List.set_cons_zero, List.set_cons_succ, i64_w, i32_w]
            rfl
          refine pure_ (i := 9) (N := some 31) (v := ?_) (a' := ?_) #[true, true, true, true, true, true, true, true, true, true, true, true, false, false, false] rfl rfl (any_of HT_.out (by kernel_rfl)) (fun _ _ _ h => h) (Or.inl ⟨by rfl, ?_⟩) ?_ ?_
          rotate_left
          · intro w'
            go_simp
            first | (with_reducible rfl) | (rw [if_neg (by simp [ByteArray.size_append] <;> omega)])
          rotate_left
          · simp only [Act.put, List.setIfInBounds_toArray, List.set_cons_zero, List.set_cons_succ, i64_w, i32_w]
            rfl
          refine one_ (i := 12) (N := some 34) #[true, true, true, true, true, true, true, true, true, true, true, true, true, false, false] rfl rfl (one_of HT_.out (by kernel_rfl)) (by decide) (fun K hK => ?_)
          refine goes_ Tryd.func31 (by kernel_rfl) rfl #[.int .i64 X.f3] (by rfl) rfl rfl (by simp only [List.map_toArray, List.map_cons, List.map_nil]; rfl) ?_
          refine (itoa_calls X.f3 VX.out.2.2.2.2.1 VX.out.2.2.2.2.2 w5).mono ?_
          rintro e w6 ⟨rfl, rfl⟩
          refine ⟨_, rfl, ?_⟩
          refine hK.out _ _ HH5.out (fun _ => ?_)
          clear hK K
          refine norm_ (a' := ?_) ?_ ?_
          rotate_left
          · show Act.put _ (some 34) _ = _
            simp only [Act.put, List.setIfInBounds_toArray, List.set_cons_zero, List.set_cons_succ, i64_w, i32_w]
            rfl
          exact norm_ (by simp only [putAll, Act.put, List.setIfInBounds_toArray, List.set_cons_zero, List.set_cons_succ]) (hCont () _ rfl)
        · skip
          refine goes_ Tryd.func31 (by kernel_rfl) rfl #[.int .i64 X.f3] (by rfl) rfl rfl (by simp only [List.map_toArray, List.map_cons, List.map_nil]; rfl) ?_
          refine (itoa_calls X.f3 VX.out.2.2.2.2.1 VX.out.2.2.2.2.2 w5).mono ?_
          rintro e w6 ⟨rfl, rfl⟩
          refine ⟨_, rfl, ?_⟩
          refine hK.out _ _ HH5.out (fun _ => ?_)
          clear hK K
          refine norm_ (a' := ?_) ?_ ?_
          rotate_left
          · show Act.put _ (some 34) _ = _
            simp only [Act.put, List.setIfInBounds_toArray, List.set_cons_zero, List.set_cons_succ, i64_w, i32_w]
            rfl
          refine one_ (i := 7) (N := some 29) #[true, true, true, true, true, true, true, true, false, false, true, true, true, false, false] rfl rfl (one_of HT_.out (by kernel_rfl)) (by decide) (fun K hK => ?_)
          refine value_ (w1 := w5) (v := .string ⟨(kw X.f1).toArray⟩) (by rfl) rfl ?_ ?_
          · go_simp
          refine hK.out _ _ HH5.out (fun _ => ?_)
          clear hK K
          refine norm_ (a' := ?_) ?_ ?_
          rotate_left
          · show Act.put _ (some 29) _ = _
            simp only [Act.put, List.setIfInBounds_toArray, List.set_cons_zero, List.set_cons_succ, i64_w, i32_w]
            rfl
          refine pure_ (i := 8) (N := some 30) (v := ?_) (a' := ?_) #[true, true, true, true, true, true, true, true, true, false, true, true, true, false, false] rfl rfl (any_of HT_.out (by kernel_rfl)) (fun _ _ _ h => h) (Or.inl ⟨by rfl, ?_⟩) ?_ ?_
          rotate_left
          · intro w'
            go_simp
            first | (with_reducible rfl) | (rw [if_neg (by simp [ByteArray.size_append] <;> omega)])
          rotate_left
          · simp only [Act.put, List.setIfInBounds_toArray, List.set_cons_zero, List.set_cons_succ, i64_w, i32_w]
            rfl
          refine pure_ (i := 9) (N := some 31) (v := ?_) (a' := ?_) #[true, true, true, true, true, true, true, true, true, true, true, true, true, false, false] rfl rfl (any_of HT_.out (by kernel_rfl)) (fun _ _ _ h => h) (Or.inl ⟨by rfl, ?_⟩) ?_ ?_
          rotate_left
          · intro w'
            go_simp
            first | (with_reducible rfl) | (rw [if_neg (by simp [ByteArray.size_append] <;> omega)])
          rotate_left
          · simp only [Act.put, List.setIfInBounds_toArray, List.set_cons_zero, List.set_cons_succ, i64_w, i32_w]
            rfl
          exact norm_ (by simp only [putAll, Act.put, List.setIfInBounds_toArray, List.set_cons_zero, List.set_cons_succ]) (hCont () _ rfl)
      rintro _ w6 rfl
      refine norm_ (a' := ?_) ?_ ?_
      rotate_left
      · simp only [putAll, Act.put, List.setIfInBounds_toArray, List.set_cons_zero, List.set_cons_succ]
        rfl
      refine pure_ (i := 13) (N := some 35) (v := ?_) (a' := ?_) #[true, true, true, true, true, true, true, true, true, true, true, true, true, true, false] rfl rfl (any_of HT_.out (by kernel_rfl)) (fun _ _ _ h => h) (Or.inl ⟨by rfl, ?_⟩) ?_ ?_
      rotate_left
      · intro w'
        go_simp
        first | (with_reducible rfl) | (rw [if_neg (by simp [ByteArray.size_append] <;> omega)])
      rotate_left
      · simp only [Act.put, List.setIfInBounds_toArray, List.set_cons_zero, List.set_cons_succ, i64_w, i32_w]
        rfl
      have hHead : Aside0 ((X.f0 ++ ⟨#[32]⟩ ++ ⟨(kw X.f1).toArray⟩ ++ ⟨#[32]⟩ ++ ⟨(dg X.f3).toArray⟩ : ByteArray).data.toList = headBytes X) := ⟨by simp [headBytes]⟩
      refine last_ (i := 14) (N := some 36) #[true, true, true, true, true, true, true, true, true, true, true, true, true, true, true] rfl rfl (one_of HT_.out (by kernel_rfl)) (by decide) (fun K hK => ?_)
      refine goes_ Tryd.func29 (by kernel_rfl) rfl #[.pointer (some ⟨w1.heap.size, 0, none⟩), .string (X.f0 ++ ⟨#[32]⟩ ++ ⟨(kw X.f1).toArray⟩ ++ ⟨#[32]⟩ ++ ⟨(dg X.f3).toArray⟩)] (by rfl) rfl rfl (by simp only [List.map_toArray, List.map_cons, List.map_nil]; rfl) ?_
      refine (Bld.writeString _ _ _ _ w5 HG5.out ?_ ?_).mono ?_
      · rw [Lib.byteCells_length]
        have h1 := FL.out
        have h2 := hHead.out
        have h3 := congrArg List.length h2
        rw [size_list] at h3
        rw [h3]
        have h4 := head_length VX.out
        omega
      · have h1 := HH5.out.size
        omega
      rintro e w6 ⟨rfl, hbd, hb6, hk6⟩
      refine ⟨_, rfl, ?_⟩
      refine hK.out _ _ ?_
      clear hK K
      rw [strCells_bytes, hHead.out, ← byteCells_append] at hbd
      have HG6 : Aside0 (Lib.IsBuilder 63 5 w1.heap.size w1.heap.size (Lib.byteCells (fmt (l0.take x) ++ headBytes X)) w6) := ⟨.inr hbd⟩
      have HB6 := Aside0.mk (below_weaken HB5.out (Nat.le_of_lt hsz1) hb6)
      have hz6 : w6.heap[bx]? = some (.cells #[.string X.f0, .int .i64 X.f1, .slice A2 X.f2.length c2, .int .i64 X.f3] 32 (0, 0)) := by
        have h5 := (HH5.out.block bx hbx0).trans HZ.out
        rw [hk6 bx (blk_lt h5) (by omega) (fun cells fr hc => by rw [h5] at hc; injection hc with hc; injection hc with _ hc _; exact absurd hc (by decide)), h5]
      refine done_ (done_of HT_.out (by kernel_rfl)) ?_
      clear HT_ HW_ hbd hb6 hk6 HG5 HB5 HH5 HZ HHeld HG3 HB3 HG2 HB2 hck hk0' hk7' hk0 hk7 hHead
      have hq2 : w6.cell? ⟨bx, 2, none⟩ = some (.slice A2 X.f2.length c2) := (blk_cell hz6 2).trans rfl
      have HZ6 := Aside0.mk hz6
      clear hz6
      have hol : X.f2.length ≤ 20 := VX.out.2.2.1
      have hsz6 : w1.heap.size < w6.heap.size := by have := blk_lt (w := w6) (g := bx) (o := .cells #[.string X.f0, .int .i64 X.f1, .slice A2 X.f2.length c2, .int .i64 X.f3] 32 (0, 0)) HZ6.out; omega
      clear HZ6
      have hb8 : X.f2.length ≤ 9223372036854775807 := by omega
      go_wp2
      obtain ⟨wo, hwo⟩ : ∃ wo : World, wo = wr := ⟨_, rfl⟩
      clear hwo
      go_loopw [40] (fun v w' => ∃ y : Nat, v = .int .i64 y ∧ y ≤ X.f2.length ∧ Aside0 (Lib.IsBuilder 63 5 w1.heap.size w1.heap.size (Lib.byteCells (fmt (l0.take x) ++ headBytes X ++ optsBytes (X.f2.take y))) w') ∧ Aside0 (Below w.heap.size w w') ∧ w1.heap.size < w'.heap.size) (fun v _ => X.f2.length - (intOf v).toNat)
      case atStart => exact ⟨0, rfl, Nat.zero_le _, ⟨by simpa [optsBytes] using HG6.out⟩, HB6, hsz6⟩
      case round =>
        clear HG6 HB6 hsz6 hq2
        obtain ⟨y, rfl, hy1, HGy, HBy, hgy⟩ := hrel
        by_cases hly : y < X.f2.length
        · obtain ⟨ado, eo, hos⟩ := at_str G2.out (y : Int) (by omega) (by omega)
          cases eo
          replace hos := (HBy.out.cell (World.block_lt_of_cell? w _ hos)).trans hos
          simp only [Int.toNat_natCast] at hos
          have OT := Aside0.mk (opts_take X.f2 y hly)
          have OV := Aside0.mk (isNm_size (VX.out.2.2.2.1 _ (by rw [rdOf_getElem X.f2 y hly]; exact List.getElem_mem _) : isNm (rdOf ByteArray.empty X.f2 y) = true))
          have OL := Aside0.mk (opts_length (X.f2.take y) (fun o ho => VX.out.2.2.2.1 o (List.mem_of_mem_take ho)))
          generalize rdOf ByteArray.empty X.f2 (y : Int) = o at *
          have ho20 : o.size ≤ 20 := OV.out
          go_wp2_with fail
          refine (Bld.writeString _ _ _ _ _ HGy.out ?_ (by omega)).mono ?_
          · rw [Lib.byteCells_length]
            have h1 := FL.out
            have h4 := head_length VX.out
            have h5 := OL.out
            rw [List.length_take] at h5
            simp only [List.length_append, ByteArray.size_append]
            have h6 : (⟨#[32]⟩ : ByteArray).size = 1 := rfl
            omega
          rintro e w7 ⟨rfl, hbd, hb7, hk7⟩
          rw [strCells_bytes, ← byteCells_append] at hbd
          have HG7 : Aside0 (Lib.IsBuilder 63 5 w1.heap.size w1.heap.size (Lib.byteCells (fmt (l0.take x) ++ headBytes X ++ optsBytes (X.f2.take (y + 1)))) w7) := ⟨by
            rw [OT.out]
            refine .inr ?_
            simpa using hbd⟩
          have HB7 := Aside0.mk (below_weaken HBy.out (Nat.le_of_lt hsz1) hb7)
          have hg7 : w1.heap.size < w7.heap.size := by have := hb7.size; omega
          clear hbd hb7 hk7
          go_wp2
          go_roundw
          case rel => exact ⟨y + 1, by go_num, by omega, HG7, HB7, hg7⟩
          case measure => simp [intOf]; omega
        · have HGz : Aside0 (Lib.IsBuilder 63 5 w1.heap.size w1.heap.size (Lib.byteCells (fmt (l0.take x) ++ headBytes X ++ optsBytes X.f2)) wr) := ⟨by
            have := HGy.out
            rwa [show X.f2.take y = X.f2 from List.take_of_length_le (by omega)] at this⟩
          have OL := Aside0.mk (opts_length X.f2 VX.out.2.2.2.1)
          go_wp2_with fail
          refine (Bld.writeByte _ _ _ _ _ HGz.out ?_ (by omega)).mono ?_
          · rw [Lib.byteCells_length]
            have h1 := FL.out
            have h4 := head_length VX.out
            have h5 := OL.out
            simp only [List.length_append]
            omega
          rintro e w7 ⟨rfl, hbd, hb7, hk7⟩
          have HG7 : Aside0 (Lib.IsBuilder 63 5 w1.heap.size w1.heap.size (Lib.byteCells (fmt (l0.take (x + 1)))) w7) := ⟨by
            rw [FT.out]
            refine .inr ?_
            simpa [fieldBytes, Lib.byteCells] using hbd⟩
          have HB7 := Aside0.mk (below_weaken HBy.out (Nat.le_of_lt hsz1) hb7)
          have hg7 : w1.heap.size < w7.heap.size := by have := hb7.size; omega
          clear hbd hb7 hk7
          go_wp2
          go_roundw
          case rel => exact ⟨x + 1, by go_num, by omega, HG7, HB7, hg7⟩
          case measure => simp [intOf]; omega
    · have HF := Aside0.mk (show fmt (l0.take x) = fmt l0 by rw [List.take_of_length_le (by omega)])
      have HG4 : Aside0 (Lib.IsBuilder 63 5 w1.heap.size w1.heap.size (Lib.byteCells (fmt l0)) wr) := ⟨HF.out ▸ HG.out⟩
      go_wp2_with fail
      refine (Tryd.Builder_String_any _ _ (fmt l0) wr HG4.out (Nat.le_of_lt hgs)).mono ?_
      rintro e w2 ⟨rfl, hb⟩
      have HB2 := Aside0.mk (below_weaken HB.out (Nat.le_of_lt hsz1) hb)
      clear hb
      go_wp2
      go_ret2
      exact ⟨rfl, HB2.out⟩

set_option maxRecDepth 100000 in
theorem formText_err (A0 : Option Addr) (c0 : Nat) (l0 : List S32) (hs : ∀ x ∈ l0, SmallF x) (w : World) (hr0 : Kd.C k32 w A0 l0.length l0) (hc0 : l0.length ≤ c0) (hok : formErr l0 ≠ 0) :
    Calls Tryd.prog 8 #[.agg #[.slice A0 l0.length c0]] w fun e w' => e = .returned (.tuple #[.string ⟨#[]⟩, .int .i64 (formErr l0)]) ∧ Below w.heap.size w w' := by
  have HCF := Aside0.mk (fun (W : World) (hW : Below w.heap.size w W) => checkForm_calls A0 c0 l0 hs W (Kd.C_below hr0 hW) hc0)
  clear hr0 hc0 hs
  generalize formErr l0 = r at *
  have hr : (r != 0) = true := bne_iff_ne.mpr hok
  clear hok
  go_enter Tryd.func8, Tryd.ntmps8
  go_wp2_with fail
  refine (HCF.out _ (below_alloc (Below.refl _ _) _)).mono ?_
  rintro e w1 ⟨rfl, hb⟩
  have HB1 := Aside0.mk (below_step (below_alloc (Below.refl _ _) _) hb)
  clear hb
  go_wp2
  go_ret2
  exact ⟨rfl, HB1.out⟩
end Go.Proofs.YtfnmcpgngnlodaaDoor.Forms
