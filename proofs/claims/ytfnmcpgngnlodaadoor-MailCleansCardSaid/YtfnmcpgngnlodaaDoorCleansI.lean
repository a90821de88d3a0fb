/- strings.IndexAny at the two brackets answers one number for each string, whatever its bytes. Condition: a string within the reach. -/
import Derived.Test.YtfnmcpgngnlodaaDoorCleansL
import Derived.Test.YtfnmcpgngnlodaaDoorFormsF
import Derived.Laws.RangeAny
import Derived.WalkMore
import Derived.Lib.RuneBytes
namespace Go.Proofs.YtfnmcpgngnlodaaDoor.Cleans
open Go.RowKit Go.Proofs.YtfnmcpgngnlodaaDoorW.PrintWords Go.Proofs.YtfnmcpgngnlodaaDoorW.PrintLast Go.Proofs.YtfnmcpgngnlodaaDoorW.PrintMore
open Go.Proofs.YtfnmcpgngnlodaaDoor.Forms
set_option linter.unusedVariables false
set_option linter.unusedSimpArgs false

def badRune (r : Int) : Prop := r < 0 ∨ (55296 ≤ r ∧ r ≤ 57343) ∨ 1114111 < r
instance (r : Int) : Decidable (badRune r) := by unfold badRune; exact inferInstance
set_option maxHeartbeats 4000000 in
theorem validRune_calls (r : Int) (w : World) : Calls Tryd.prog 117 #[.int .i32 r] w fun e w' => e = .returned (.bool (decide (¬ badRune r))) ∧ Below w.heap.size w w' := by
  have h : (r < 0) ∨ (0 ≤ r ∧ r < 55296) ∨ (55296 ≤ r ∧ r ≤ 57343) ∨ (57343 < r ∧ r ≤ 1114111) ∨ 1114111 < r := by omega
  unfold badRune
  rcases h with h | h | h | h | h <;>
  · go_enter Tryd.func117, Tryd.ntmps117
    go_wp2
    go_ret
    refine ⟨ret_bool ?_, Below.refl _ _⟩
    simp; try omega
set_option maxHeartbeats 4000000 in
set_option maxRecDepth 1000000 in
theorem rune_bad (r : Int) (h : badRune r) (w : World) : Calls Tryd.prog 98 #[.string ⟨#[91, 93]⟩, .int .i32 r] w fun e w' => e = .returned (.int .i64 (-1)) ∧ Below w.heap.size w w' := by
  have H := Aside0.mk h
  have hn : r ≠ 65533 := by unfold badRune at h; omega
  have h128 : r < 0 ∨ 128 ≤ r := by unfold badRune at h; omega
  clear h
  rcases h128 with h | h <;>
  · go_enter Tryd.func98, Tryd.ntmps98
    go_wp2_with fail
    refine (validRune_calls r _).mono ?_
    rw [decide_eq_false (fun hh => hh H.out)]
    rintro e w1 ⟨rfl, hb⟩
    go_wp2
    go_ret
    exact ⟨rfl, hb⟩
theorem byte_none (t : ByteArray) (c : Int) (w : World) (h : t.size = 0) : Calls Tryd.prog 116 #[.string t, .int .u8 c] w fun e w' => e = .returned (.int .i64 (-1)) ∧ w' = w := by
  have := Tryd.strings_IndexByte t c w
  have e : t.data.toList = [] := List.length_eq_zero_iff.1 (by rw [Array.length_toList]; exact h)
  rw [e] at this
  exact this
def R98 : Bool × List (List Nat × List Nat) := (true, [([], []), ([], []), ([1], [1]), ([0, 2], [0, 2]), ([], []), ([], []), ([4, 5], [4, 5]), ([3, 6], [3, 6]), ([7, 7, 0, 1, 2, 3, 4, 5, 6, 7], [7])])
def R98B : List Nat := [0, 0, 2, 7, 0, 0, 48, 127, 255]
theorem R98tab : rtab .any (opsOf Tryd.f98 7) = R98 := by kernel_rfl
theorem R98bits : waitsOk R98.2 R98B = true := by kernel_rfl
theorem encode_cases (r : Int) (h : 128 ≤ r) : (∃ a b : UInt8, Utf8.encode r = ⟨#[a, b]⟩ ∧ 128 ≤ b.toNat) ∨ (∃ a b c : UInt8, Utf8.encode r = ⟨#[a, b, c]⟩) ∨ (∃ a b c d : UInt8, Utf8.encode r = ⟨#[a, b, c, d]⟩) := by
  unfold Utf8.encode
  simp only
  generalize hc : (if Utf8.valid r = true then r.toNat else Utf8.runeError) = c
  have hc128 : 128 ≤ c := by
    rw [← hc]; split
    · omega
    · decide
  rw [if_neg (by omega)]
  split
  · exact .inl ⟨_, _, rfl, by rw [UInt8.toNat_ofNat']; omega⟩
  · split
    · exact .inr (.inl ⟨_, _, _, rfl⟩)
    · exact .inr (.inr ⟨_, _, _, _, rfl⟩)
set_option maxHeartbeats 4000000 in
set_option maxRecDepth 1000000 in
theorem rune_wide (r : Int) (h : ¬ badRune r) (h1 : 128 ≤ r) (h2 : r ≠ 65533) (w : World) : Calls Tryd.prog 98 #[.string ⟨#[91, 93]⟩, .int .i32 r] w fun e w' => e = .returned (.int .i64 (-1)) ∧ Below w.heap.size w w' := by
  have H := Aside0.mk h
  clear h
  go_enter Tryd.func98, Tryd.ntmps98
  go_wp2_with fail
  refine (validRune_calls r _).mono ?_
  rw [decide_eq_true H.out]
  rintro e w1 ⟨rfl, hb⟩
  go_wp2
  go_step3
  go_wp2
  have HB := Aside0.mk hb
  clear hb
  have hsmall : ∀ n : Int, 1 ≤ n → n ≤ 3 → wrap64 n = n := fun n a b => by have := wrap1 (x := n - 1) (n := 10) (by omega) (by omega) (by omega); simpa using this
  rcases encode_cases r h1 with ⟨a, b, he, hb⟩ | ⟨a, b, c, he⟩ | ⟨a, b, c, d, he⟩
  · rw [he]
    have ew : wrap64 (((⟨#[a, b]⟩ : ByteArray).size : Int) - 1) = 1 := hsmall 1 (by omega) (by omega)
    simp only [ew]
    have HW2 := Aside0.mk (hsmall 2 (by omega) (by omega))
    clear ew hsmall
    have h2r : (⟨#[a, b]⟩ : ByteArray).size = 2 := rfl
    have hr1 : ∀ p : 1 < (⟨#[a, b]⟩ : ByteArray).size, (⟨#[a, b]⟩ : ByteArray)[1]'p = b := fun _ => rfl
    obtain ⟨ch, hch⟩ : ∃ ch : ByteArray, ch = ⟨#[91, 93]⟩ := ⟨_, rfl⟩
    have h2c : ch.size = 2 := by rw [hch]; rfl
    have hc1 : ∀ p : 1 < ch.size, ch[1]'p = 93 := by subst hch; exact fun _ => rfl
    rw [← hch]
    generalize (⟨#[a, b]⟩ : ByteArray) = rs at h2r hr1 ⊢
    have g1 : 2 ≤ rs.size ∧ rs.size ≤ 2 := by omega
    have g2 : 2 ≤ ch.size ∧ ch.size ≤ 2 := by omega
    have hne0 : ∀ (p : 1 < ch.size) (q : 1 < rs.size), (ch[1]'p).toNat < (rs[1]'q).toNat := by
      intro p q; rw [hr1, hc1]; show 93 < b.toNat; omega
    clear hr1 hc1 hch h2r h2c he hb
    have hne := hne0 (by omega) (by omega)
    clear hne0
    go_loopw [9, 10] (fun x y w' => x = .int .i64 1 ∧ y = .int .i64 0 ∧ w' = w1) (fun _ _ _ => 0)
    case atStart => exact ⟨rfl, rfl, rfl⟩
    case round =>
      obtain ⟨rfl, rfl, rfl⟩ := hrel
      go_wp2
      go_step3
      go_wp2
      have i1 : (1 : Int) < (ch.size : Int) := by omega
      have i2 : (1 : Int) < (rs.size : Int) := by omega
      have i3 : (2 : Int) ≤ (ch.size : Int) := by omega
      have i4 : ((ch.size : Nat) : Int) ≤ 9223372036854775807 := by omega
      go_quiet (fail)
      go_wp2
      have HB2 := Aside0.mk (show Below w.heap.size w (wr.drewN nq) from pw_below_drewN HB.out nq)
      generalize wr.drewN nq = W0 at HB2 ⊢
      have w22 := HW2.out
      refine start_ (n := 9) (ds := []) (S := fun w' => Below W0.heap.size W0 w') #[false, false, false, false, false, false, false, false, false] rfl rfl rfl (below_drew1 (Below.refl _ _)) (fun hHeld => ?_)
      refine with_tabW R98tab R98bits (fun HT_ HW_ => ?_)
      have HHeld := Aside0.mk hHeld
      clear hHeld
      refine pure_ (i := 0) (N := some 34) (v := ?_) (a' := ?_) #[true, false, false, false, false, false, false, false, false] rfl rfl (any_of HT_.out (by kernel_rfl)) (fun _ _ _ h => h) (Or.inl ⟨by rfl, ?_⟩) ?_ ?_
      rotate_left
      · intro w'
        go_simp
        try simp only [w22]
        first | (with_reducible rfl) | (rw [if_neg (by omega)])
      rotate_left
      · simp only [Act.put, List.setIfInBounds_toArray, List.set_cons_zero, List.set_cons_succ, i64_w, i32_w]
        rfl
      refine pure_ (i := 1) (N := some 35) (v := ?_) (a' := ?_) #[true, true, false, false, false, false, false, false, false] rfl rfl (any_of HT_.out (by kernel_rfl)) (fun _ _ _ h => h) (Or.inl ⟨by rfl, ?_⟩) ?_ ?_
      rotate_left
      · intro w'
        go_simp
        try simp only [w22]
        first | (with_reducible rfl) | (rw [if_neg (by omega)])
      rotate_left
      · simp only [Act.put, List.setIfInBounds_toArray, List.set_cons_zero, List.set_cons_succ, i64_w, i32_w]
        rfl
      refine pure_ (i := 2) (N := some 36) (v := ?_) (a' := ?_) #[true, true, true, false, false, false, false, false, false] rfl rfl (any_of HT_.out (by kernel_rfl)) (fun _ _ _ h => h) (Or.inl ⟨by rfl, ?_⟩) ?_ ?_
      rotate_left
      · intro w'
        go_simp
        try simp only [w22]
        first | (with_reducible rfl) | (rw [if_neg (by omega)])
      rotate_left
      · simp only [Act.put, List.setIfInBounds_toArray, List.set_cons_zero, List.set_cons_succ, i64_w, i32_w, w22]
        rfl
      refine pure_ (i := 3) (N := some 37) (v := ?_) (a' := ?_) #[true, true, true, true, false, false, false, false, false] rfl rfl (any_of HT_.out (by kernel_rfl)) (fun _ _ _ h => h) (Or.inl ⟨by rfl, ?_⟩) ?_ ?_
      rotate_left
      · intro w'
        go_simp
        try simp only [w22]
        first | (with_reducible rfl) | (rw [if_neg (by omega)])
      rotate_left
      · simp only [Act.put, List.setIfInBounds_toArray, List.set_cons_zero, List.set_cons_succ, i64_w, i32_w]
        rfl
      refine pure_ (i := 4) (N := some 38) (v := ?_) (a' := ?_) #[true, true, true, true, true, false, false, false, false] rfl rfl (any_of HT_.out (by kernel_rfl)) (fun _ _ _ h => h) (Or.inl ⟨by rfl, ?_⟩) ?_ ?_
      rotate_left
      · intro w'
        go_simp
        try simp only [w22]
        first | (with_reducible rfl) | (rw [if_neg (by omega)])
      rotate_left
      · simp only [Act.put, List.setIfInBounds_toArray, List.set_cons_zero, List.set_cons_succ, i64_w, i32_w]
        rfl
      refine pure_ (i := 5) (N := some 39) (v := ?_) (a' := ?_) #[true, true, true, true, true, true, false, false, false] rfl rfl (any_of HT_.out (by kernel_rfl)) (fun _ _ _ h => h) (Or.inl ⟨by rfl, ?_⟩) ?_ ?_
      rotate_left
      · intro w'
        go_simp
        try simp only [w22]
        first | (with_reducible rfl) | (rw [if_neg (by omega)])
      rotate_left
      · simp only [Act.put, List.setIfInBounds_toArray, List.set_cons_zero, List.set_cons_succ, i64_w, i32_w]
        rfl
      refine pure_ (i := 6) (N := some 40) (v := ?_) (a' := ?_) #[true, true, true, true, true, true, true, false, false] rfl rfl (any_of HT_.out (by kernel_rfl)) (fun _ _ _ h => h) (Or.inl ⟨by rfl, ?_⟩) ?_ ?_
      rotate_left
      · intro w'
        go_simp
        try simp only [w22]
        first | (with_reducible rfl) | (rw [if_neg (by omega)])
      rotate_left
      · simp only [Act.put, List.setIfInBounds_toArray, List.set_cons_zero, List.set_cons_succ, i64_w, i32_w]
        rfl
      refine one_ (i := 7) (N := some 41) #[true, true, true, true, true, true, true, true, false] rfl rfl (one_of HT_.out (by kernel_rfl)) (by decide) (fun K hK => ?_)
      refine goes_ Tryd.func116 (by kernel_rfl) rfl #[.string (ch.extract 2 ch.size), .int .u8 (rs[1]'(by omega)).toNat] (by rfl) rfl rfl (by simp only [List.map_toArray, List.map_cons, List.map_nil]; rfl) ?_
      refine (byte_none _ _ _ (by rw [ByteArray.size_extract]; omega)).mono ?_
      rintro e w5 ⟨rfl, rfl⟩
      refine ⟨_, rfl, ?_⟩
      refine hK.out _ _ HHeld.out (fun _ => ?_)
      clear hK K
      refine norm_ (a' := ?_) ?_ ?_
      rotate_left
      · show Act.put _ (some 41) _ = _
        simp only [Act.put, List.setIfInBounds_toArray, List.set_cons_zero, List.set_cons_succ, i64_w, i32_w]
        rfl
      refine pure_ (i := 8) (N := some 11) (v := ?_) (a' := ?_) #[true, true, true, true, true, true, true, true, true] rfl rfl (any_of HT_.out (by kernel_rfl)) (fun _ _ _ h => h) (Or.inl ⟨by rfl, ?_⟩) ?_ ?_
      rotate_left
      · intro w'
        go_simp
        try simp only [w22]
        first | (with_reducible rfl) | (rw [if_neg (by omega)])
      rotate_left
      · simp only [Act.put, List.setIfInBounds_toArray, List.set_cons_zero, List.set_cons_succ, i64_w, i32_w]
        rfl
      refine done_ (done_of HT_.out (by kernel_rfl)) ?_
      clear HT_ HW_
      go_wp2
      refine (show bodyPost Tryd.prog Tryd.f98 (fun e w' => e = Ending.returned (Value.int IntKind.i64 (-1)) ∧ Below w.heap.size w w') Exit.ret _ _ from ?_)
      go_ret
      exact ⟨rfl, below_step HB2.out HHeld.out⟩
  · rw [he]
    have ew : wrap64 (((⟨#[a, b, c]⟩ : ByteArray).size : Int) - 1) = 2 := hsmall 2 (by omega) (by omega)
    simp only [ew]
    clear ew hsmall
    go_loopw [9, 10] (fun x y w' => x = .int .i64 2 ∧ y = .int .i64 0 ∧ w' = w1) (fun _ _ _ => 0)
    case atStart => exact ⟨rfl, rfl, rfl⟩
    case round =>
      obtain ⟨rfl, rfl, rfl⟩ := hrel
      go_wp2
      rw [Exit.noGoto_ret]
      go_ret
      exact ⟨rfl, HB.out⟩
  · rw [he]
    have ew : wrap64 (((⟨#[a, b, c, d]⟩ : ByteArray).size : Int) - 1) = 3 := hsmall 3 (by omega) (by omega)
    simp only [ew]
    clear ew hsmall
    go_loopw [9, 10] (fun x y w' => x = .int .i64 3 ∧ y = .int .i64 0 ∧ w' = w1) (fun _ _ _ => 0)
    case atStart => exact ⟨rfl, rfl, rfl⟩
    case round =>
      obtain ⟨rfl, rfl, rfl⟩ := hrel
      go_wp2
      rw [Exit.noGoto_ret]
      go_ret
      exact ⟨rfl, HB.out⟩

set_option maxHeartbeats 4000000 in
set_option maxRecDepth 1000000 in
theorem rune_error (w : World) : Calls Tryd.prog 98 #[.string ⟨#[91, 93]⟩, .int .i32 65533] w fun e w' => e = .returned (.int .i64 (-1)) ∧ Below w.heap.size w w' := by
  have e91 : (Utf8.decode ⟨#[91, 93]⟩ 0) = (91, 1) := by decide +kernel
  have e93 : (Utf8.decode ⟨#[91, 93]⟩ 1) = (93, 1) := by decide +kernel
  obtain ⟨ch, hch⟩ : ∃ ch : ByteArray, ch = ⟨#[91, 93]⟩ := ⟨_, rfl⟩
  have h2c : ch.size = 2 := by rw [hch]; rfl
  rw [← hch] at e91 e93 ⊢
  clear hch
  go_enter Tryd.func98, Tryd.ntmps98
  go_wp2
  have E91 := Aside0.mk e91
  have E93 := Aside0.mk e93
  have H2C := Aside0.mk h2c
  clear e91 e93 h2c
  go_loopg [5, 6] 2 (fun g _ _ wx => ∃ i : Nat, i + g = 2 ∧ wx = w.iter ch i)
  case atStart => exact ⟨0, rfl, rfl⟩
  case round =>
    obtain ⟨i, hig, rfl⟩ := hrel
    cases gk with
    | zero =>
      have hnx := fun ty => run_next_end (P := Tryd.prog) w ch i ty (by have := H2C.out; omega)
      clear hig
      go_wp2
      go_ret
      exact ⟨rfl, below_alloc (Below.refl _ _) _⟩
    | succ g =>
      have hi : i = 0 ∨ i = 1 := by omega
      rcases hi with rfl | rfl
      · have hnx := fun ty => run_next_any (P := Tryd.prog) w ch 0 ty (by have := H2C.out; omega)
        rw [E91.out] at hnx
        go_wp2
        go_roundg g
        case measure => omega
        case rel => exact ⟨1, by omega, rfl⟩
      · have hnx := fun ty => run_next_any (P := Tryd.prog) w ch 1 ty (by have := H2C.out; omega)
        rw [E93.out] at hnx
        go_wp2
        go_roundg g
        case measure => omega
        case rel => exact ⟨2, by omega, rfl⟩

def isBr (r : Int) : Bool := r == 91 || r == 93
theorem rune_any (r : Int) (w : World) : Calls Tryd.prog 98 #[.string ⟨#[91, 93]⟩, .int .i32 r] w fun e w' => (∃ k : Int, e = .returned (.int .i64 k) ∧ (0 ≤ k ↔ isBr r = true)) ∧ Below w.heap.size w w' := by
  have no : ∀ h : ¬ isBr r = true, ∀ e : Ending, e = .returned (.int .i64 (-1)) → ∃ k : Int, e = .returned (.int .i64 k) ∧ (0 ≤ k ↔ isBr r = true) := fun h e he => ⟨-1, he, ⟨fun hh => absurd hh (by omega), fun hh => absurd hh h⟩⟩
  by_cases hb : badRune r
  · refine (rune_bad r hb w).mono ?_
    rintro e w' ⟨he, hB⟩
    exact ⟨no (by unfold badRune at hb; simp [isBr]; omega) e he, hB⟩
  · by_cases h0 : r < 128
    · have hr0 : 0 ≤ r := by unfold badRune at hb; omega
      refine (Tryd.strings_IndexRune_ascii ⟨#[91, 93]⟩ r w hr0 h0).mono ?_
      rintro e w' ⟨he, rfl⟩
      refine ⟨⟨_, he, ?_⟩, Below.refl _ _⟩
      obtain ⟨n, rfl⟩ : ∃ n : Nat, r = n := ⟨r.toNat, by omega⟩
      have hn : n < 128 := by omega
      clear he hb h0 hr0 no
      have key : ∀ n : Fin 128, (decide (0 ≤ Lib.indexByte [91, 93] (Int.toNat (n.val : Int)).toUInt8)) = isBr (n.val : Int) := by decide +kernel
      have := key ⟨n, hn⟩
      rw [← this]
      simp
    · by_cases he : r = 65533
      · subst he
        refine (rune_error w).mono ?_
        rintro e w' ⟨he, hB⟩
        exact ⟨no (by decide) e he, hB⟩
      · refine (rune_wide r hb (by omega) he w).mono ?_
        rintro e w' ⟨he, hB⟩
        exact ⟨no (by simp [isBr]; omega) e he, hB⟩
end Go.Proofs.YtfnmcpgngnlodaaDoor.Cleans
