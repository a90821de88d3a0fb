/- SameStates over two lists of states answers whether the two lists are equal. Condition: the contract of sameNumbers (printed). Began as a text of print.sh for this function, typed anew. -/
import Derived.Test.YtfnmcpgngnlodaaSamesB
namespace Go.Proofs.Ytfnmcpgngnlodaa.Sames
open Go.RowKit Go.Proofs.YtfnmcpgngnlodaaW.PrintWords Go.Proofs.YtfnmcpgngnlodaaW.PrintLast Go.Proofs.YtfnmcpgngnlodaaW.PrintMore
open Go.Proofs.Ytfnmcpgngnlodaa.PTicketSames
set_option linter.unusedVariables false
set_option linter.unusedSimpArgs false

section
variable {P : Program} {ops : Array Oper} {Q : Exit → Act → World → Prop}
/-- A struct stored whole into a block of its own, as an event of a region. -/
theorem store_step {oi : Oper} {a : Act} {W : World} {K : Act → World → Prop} (hw : Region.wanted oi (yielded ops a.tmps) = true) (hN : oi.dst = none) (t : TypeId) (p x : Operand) (ho : oi.op = .store t p x)
    {g : Nat} {e : TypeId} {cur vs : Array Value} (hp : a.eval p = .pointer (some ⟨g, 0, none⟩)) (hx : a.eval x = .agg vs) (hh : W.heap[g]? = some (.cells cur e (0, 0))) (ht : (P.info? t).map (·.size) = some vs.size)
    (hsz : cur.size = vs.size) (h1 : ∀ q ∈ vs.toList, q.oneCell' = true)
    (h : ∀ w1 : World, w1.heap[g]? = some (.cells vs e (0, 0)) → (∀ i, i ≠ g → w1.heap[i]? = W.heap[i]?) → (∀ B w0, Below B w0 W → B ≤ g → Below B w0 w1) → K a w1) :
    if Region.wanted oi (yielded ops a.tmps) = true then Oper.wp P oi a W K Q else K (a.put none undef) W := by
  have hrun : (Instr.storeAt t (.pointer (some ⟨g, 0, none⟩)) (.agg vs)).run P W = .ok () (W.setCells g 0 vs.toList) := run_store_run t (.agg vs) vs.toList hh rfl (by simpa using ht) (by simp; omega) h1
  refine skip_ hw hN (w1 := W.setCells g 0 vs.toList) ?_ (h _ ?_ (fun i hi => setCells_far _ _ i hi) ?_)
  · unfold execOp
    simp only [ho, hp, hx, Sem.run_bind, Sem.run_pure, Result.andThen_ok, hrun]
  · obtain ⟨cur', h3, h4, h5⟩ := setCells_row vs.toList 0 W cur hh (by simp; omega)
    rw [h3]
    have : cur' = vs := by
      apply Array.ext'
      rw [h5]
      simp [hsz]
    rw [this]
  · intro B w0 hB hg
    obtain ⟨s1, s2, s3, s4⟩ := setCells_same g vs.toList 0 W
    exact hB.trans ⟨s1, s2, s3, by rw [s4]; exact Nat.le_refl _, fun k hk => setCells_far _ _ k (by omega)⟩
end
theorem run34 (a b : S34) (w : World) : (binOp .neq 34 (.agg #[.int .i64 a.f0, .int .i64 a.f1, .string a.f2]) (.agg #[.int .i64 b.f0, .int .i64 b.f1, .string b.f2])).run Try.prog w = .ok (.bool (!(a.f0 == b.f0) || (!(a.f1 == b.f1) || (!(a.f2.toList == b.f2.toList))))) w := by
  have hu34 := Try.underlying34
  go_simp
  by_cases h0 : a.f0 = b.f0 <;> by_cases h1 : a.f1 = b.f1 <;> by_cases h2 : a.f2.toList = b.f2.toList <;> simp [h0, h1, h2]
def T6 : Bool × List (List Nat × List Nat) := (true, [([], []), ([], []), ([0, 1], [0, 1]), ([2], [2]), ([], []), ([], []), ([4, 5], [4, 5]), ([6], [6]), ([], []), ([], []), ([8, 3, 0, 1, 2, 3, 8, 9], [3, 8]), ([9, 7, 10, 0, 1, 2, 3, 4, 5, 6, 7, 8, 9, 10], [7, 9])])
def B6 : List Nat := [0, 0, 3, 7, 0, 0, 48, 112, 0, 0, 783, 2047]
theorem tab6 : rtab .any (opsOf Try.f8 6) = T6 := by kernel_rfl
theorem bits6 : waitsOk T6.2 B6 = true := by kernel_rfl
theorem info30 : (Try.prog.info? 30).map (·.size) = some 12 := by kernel_rfl
set_option maxHeartbeats 40000000 in
set_option maxRecDepth 100000 in
theorem sameStates_calls (A0 : Option Addr) (c0 : Nat) (l0 : List S30) (A1 : Option Addr) (c1 : Nat) (l1 : List S30) (w : World) (hr0 : Kd.C k30 w A0 l0.length l0) (hc0 : l0.length ≤ c0) (hr1 : Kd.C k30 w A1 l1.length l1) (hc1 : l1.length ≤ c1) :
    Calls Try.prog 8 #[.slice A0 l0.length c0, .slice A1 l1.length c1] w fun e w' => e = .returned (.bool (eqB l0 l1)) ∧ Below w.heap.size w w' := by
  have hb0 : l0.length ≤ 9223372036854775807 := hr0.2.1
  have HR0 := Aside0.mk hr0
  have HC0 := Aside0.mk hc0
  clear hr0 hc0
  have HR1 := Aside0.mk hr1
  have HC1 := Aside0.mk hc1
  clear hr1 hc1
  by_cases c3 : l0.length = l1.length
  · have c3b1 : ((l0.length : Int) != (l1.length : Int)) = false := by simp [c3]
    have C3 := Aside0.mk c3
    clear c3
    go_enter Try.func8, Try.ntmps8
    go_wp2
    go_loopw [16] (fun v w' => ∃ (x : Int), v = .int .i64 x ∧ 0 ≤ x ∧ x ≤ l0.length ∧ Aside0 (∀ j : Nat, (j : Int) < x → rd_T30 l0 j = rd_T30 l1 j) ∧ Aside0 (Below w.heap.size w w')) (fun v _ => l0.length - (intOf v).toNat)
    case atStart => exact ⟨0, rfl, Int.le_refl _, by omega, ⟨fun j h => by omega⟩, ⟨Below.refl _ _⟩⟩
    case round =>
      obtain ⟨x, rfl, hx0, hx1, HE, HB⟩ := hrel
      by_cases hlt : x < l0.length
      · have hlt1 : x < (l1.length : Int) := by have := C3.out; omega
        obtain ⟨adx, Ax8, cx8, Ax9, cx9, Ax10, cx10, ex, hx_0, hx_1, hx_2, hx_3, hx_4, hx_5, hx_6, hx_7, hx_8, hx_9, hx_10, hx_11, lx8, gx8, lx9, gx9, lx10, gx10⟩ := at_T30 HR0.out x hx0 hlt
        have Hx := Aside0.mk (And.intro hx_0 (And.intro hx_1 (And.intro hx_2 (And.intro hx_3 (And.intro hx_4 (And.intro hx_5 (And.intro hx_6 (And.intro hx_7 (And.intro hx_8 (And.intro hx_9 (And.intro hx_10 hx_11)))))))))))
        clear hx_0 hx_1 hx_2 hx_3 hx_4 hx_5 hx_6 hx_7 hx_8 hx_9 hx_10 hx_11
        have Lx8 := Aside0.mk lx8
        have Lx9 := Aside0.mk lx9
        have Lx10 := Aside0.mk lx10
        have Gx8 := Aside0.mk gx8
        have Gx9 := Aside0.mk gx9
        have Gx10 := Aside0.mk gx10
        clear lx8 lx9 lx10 gx8 gx9 gx10
        cases ex
        obtain ⟨ady, Ay8, cy8, Ay9, cy9, Ay10, cy10, ey, hy_0, hy_1, hy_2, hy_3, hy_4, hy_5, hy_6, hy_7, hy_8, hy_9, hy_10, hy_11, ly8, gy8, ly9, gy9, ly10, gy10⟩ := at_T30 HR1.out x hx0 hlt1
        have Hy := Aside0.mk (And.intro hy_0 (And.intro hy_1 (And.intro hy_2 (And.intro hy_3 (And.intro hy_4 (And.intro hy_5 (And.intro hy_6 (And.intro hy_7 (And.intro hy_8 (And.intro hy_9 (And.intro hy_10 hy_11)))))))))))
        clear hy_0 hy_1 hy_2 hy_3 hy_4 hy_5 hy_6 hy_7 hy_8 hy_9 hy_10 hy_11
        have Ly8 := Aside0.mk ly8
        have Ly9 := Aside0.mk ly9
        have Ly10 := Aside0.mk ly10
        have Gy8 := Aside0.mk gy8
        have Gy9 := Aside0.mk gy9
        have Gy10 := Aside0.mk gy10
        clear ly8 ly9 ly10 gy8 gy9 gy10
        cases ey
        go_wp2
        refine start_ (n := 12) (ds := []) (S := fun w' => Below w.heap.size w w') #[false, false, false, false, false, false, false, false, false, false, false, false] rfl rfl rfl (below_drew1 HB.out) (fun hHeld => ?_)
        refine with_tabW tab6 bits6 (fun HT_ HW_ => ?_)
        clear HB
        generalize wr.drew = w9 at hHeld ⊢
        refine pure_ (i := 0) (N := some 19) (v := ?_) (a' := ?_) #[true, false, false, false, false, false, false, false, false, false, false, false] rfl rfl (any_of HT_.out (by kernel_rfl)) (fun _ _ _ h => h) (Or.inl ⟨by rfl, ?_⟩) ?_ ?_
        rotate_left
        · intro w'
          go_simp
          with_reducible rfl
        rotate_left
        · simp only [Act.put, List.setIfInBounds_toArray, List.set_cons_zero, List.set_cons_succ, i64_w, i32_w]
          rfl
        refine pure_ (i := 1) (N := some 20) (v := ?_) (a' := ?_) #[true, true, false, false, false, false, false, false, false, false, false, false] rfl rfl (any_of HT_.out (by kernel_rfl)) (fun _ _ _ h => h) (Or.inl ⟨by rfl, ?_⟩) ?_ ?_
        rotate_left
        · intro w'
          go_simp
          with_reducible rfl
        rotate_left
        · simp only [Act.put, List.setIfInBounds_toArray, List.set_cons_zero, List.set_cons_succ, i64_w, i32_w]
          rfl
        refine pure_ (i := 2) (N := some 21) (v := ?_) (a' := ?_) #[true, true, true, false, false, false, false, false, false, false, false, false] rfl rfl (any_of HT_.out (by kernel_rfl)) (fun _ _ _ h => h) (Or.inl ⟨by rfl, ?_⟩) ?_ ?_
        rotate_left
        · intro w'
          go_simp
          with_reducible rfl
        rotate_left
        · simp only [Act.put, List.setIfInBounds_toArray, List.set_cons_zero, List.set_cons_succ, i64_w, i32_w]
          rfl
        refine pure_ (i := 4) (N := some 23) (v := ?_) (a' := ?_) #[true, true, true, false, true, false, false, false, false, false, false, false] rfl rfl (any_of HT_.out (by kernel_rfl)) (fun _ _ _ h => h) (Or.inl ⟨by rfl, ?_⟩) ?_ ?_
        rotate_left
        · intro w'
          go_simp
          with_reducible rfl
        rotate_left
        · simp only [Act.put, List.setIfInBounds_toArray, List.set_cons_zero, List.set_cons_succ, i64_w, i32_w]
          rfl
        refine pure_ (i := 5) (N := some 24) (v := ?_) (a' := ?_) #[true, true, true, false, true, true, false, false, false, false, false, false] rfl rfl (any_of HT_.out (by kernel_rfl)) (fun _ _ _ h => h) (Or.inl ⟨by rfl, ?_⟩) ?_ ?_
        rotate_left
        · intro w'
          go_simp
          with_reducible rfl
        rotate_left
        · simp only [Act.put, List.setIfInBounds_toArray, List.set_cons_zero, List.set_cons_succ, i64_w, i32_w]
          rfl
        refine pure_ (i := 6) (N := some 25) (v := ?_) (a' := ?_) #[true, true, true, false, true, true, true, false, false, false, false, false] rfl rfl (any_of HT_.out (by kernel_rfl)) (fun _ _ _ h => h) (Or.inl ⟨by rfl, ?_⟩) ?_ ?_
        rotate_left
        · intro w'
          go_simp
          with_reducible rfl
        rotate_left
        · simp only [Act.put, List.setIfInBounds_toArray, List.set_cons_zero, List.set_cons_succ, i64_w, i32_w]
          rfl
        refine take_ (i := 3) (N := some 22) (v := ?_) (a' := ?_) #[true, true, true, true, true, true, true, false, false, false, false, false] rfl rfl (take_ofW HT_.out HW_.out (by kernel_rfl)) (fun _ _ _ h => h) (Or.inl ⟨by rfl, ?_⟩) hHeld ?_ ?_
        rotate_left
        · intro w' hB'
          obtain ⟨s0, s1, s2, s3, s4, s5, s6, s7, s8, s9, s10, s11⟩ := Hx.out
          replace s0 := (hB'.cell (World.block_lt_of_cell? w _ s0)).trans s0
          replace s1 := (hB'.cell (World.block_lt_of_cell? w _ s1)).trans s1
          replace s2 := (hB'.cell (World.block_lt_of_cell? w _ s2)).trans s2
          replace s3 := (hB'.cell (World.block_lt_of_cell? w _ s3)).trans s3
          replace s4 := (hB'.cell (World.block_lt_of_cell? w _ s4)).trans s4
          replace s5 := (hB'.cell (World.block_lt_of_cell? w _ s5)).trans s5
          replace s6 := (hB'.cell (World.block_lt_of_cell? w _ s6)).trans s6
          replace s7 := (hB'.cell (World.block_lt_of_cell? w _ s7)).trans s7
          replace s8 := (hB'.cell (World.block_lt_of_cell? w _ s8)).trans s8
          replace s9 := (hB'.cell (World.block_lt_of_cell? w _ s9)).trans s9
          replace s10 := (hB'.cell (World.block_lt_of_cell? w _ s10)).trans s10
          replace s11 := (hB'.cell (World.block_lt_of_cell? w _ s11)).trans s11
          clear hB'
          go_simp
          with_reducible rfl
        rotate_left
        · simp only [Act.put, List.setIfInBounds_toArray, List.set_cons_zero, List.set_cons_succ, i64_w, i32_w]
          rfl
        refine take_ (i := 7) (N := some 26) (v := ?_) (a' := ?_) #[true, true, true, true, true, true, true, true, false, false, false, false] rfl rfl (take_ofW HT_.out HW_.out (by kernel_rfl)) (fun _ _ _ h => h) (Or.inl ⟨by rfl, ?_⟩) hHeld ?_ ?_
        rotate_left
        · intro w' hB'
          obtain ⟨s0, s1, s2, s3, s4, s5, s6, s7, s8, s9, s10, s11⟩ := Hy.out
          replace s0 := (hB'.cell (World.block_lt_of_cell? w _ s0)).trans s0
          replace s1 := (hB'.cell (World.block_lt_of_cell? w _ s1)).trans s1
          replace s2 := (hB'.cell (World.block_lt_of_cell? w _ s2)).trans s2
          replace s3 := (hB'.cell (World.block_lt_of_cell? w _ s3)).trans s3
          replace s4 := (hB'.cell (World.block_lt_of_cell? w _ s4)).trans s4
          replace s5 := (hB'.cell (World.block_lt_of_cell? w _ s5)).trans s5
          replace s6 := (hB'.cell (World.block_lt_of_cell? w _ s6)).trans s6
          replace s7 := (hB'.cell (World.block_lt_of_cell? w _ s7)).trans s7
          replace s8 := (hB'.cell (World.block_lt_of_cell? w _ s8)).trans s8
          replace s9 := (hB'.cell (World.block_lt_of_cell? w _ s9)).trans s9
          replace s10 := (hB'.cell (World.block_lt_of_cell? w _ s10)).trans s10
          replace s11 := (hB'.cell (World.block_lt_of_cell? w _ s11)).trans s11
          clear hB'
          go_simp
          with_reducible rfl
        rotate_left
        · simp only [Act.put, List.setIfInBounds_toArray, List.set_cons_zero, List.set_cons_succ, i64_w, i32_w]
          rfl
        refine join_ (σ := Nat × Nat) 2 #[true, true, true, true, true, true, true, true, true, true, false, false] (fun s_ => [(6, .pointer (some ⟨s_.1, 0, none⟩)), (7, .pointer (some ⟨s_.2, 0, none⟩))]) (fun s_ w' => Below w.heap.size w w' ∧ w'.heap[s_.1]? = some (.cells #[.int .i64 0, .int .i64 0, .int .i64 0, .int .i64 0, .int .i64 0, .int .i64 0, .int .i64 0, .int .i64 0, .slice none 0 0, .slice none 0 0, .slice none 0 0, .int .i64 0] 30 (0, 0)) ∧ w'.heap[s_.2]? = some (.cells #[.int .i64 0, .int .i64 0, .int .i64 0, .int .i64 0, .int .i64 0, .int .i64 0, .int .i64 0, .int .i64 0, .slice none 0 0, .slice none 0 0, .slice none 0 0, .int .i64 0] 30 (0, 0)) ∧ w.heap.size ≤ s_.1 ∧ w.heap.size ≤ s_.2 ∧ s_.1 ≠ s_.2) ?_ ?_
        rotate_left
        · intro hCont
          refine two_ (i := 8) (j := 9) (Ni := some 6) (Nj := some 7) #[true, true, true, true, true, true, true, true, true, false, false, false] #[true, true, true, true, true, true, true, true, false, true, false, false] rfl rfl rfl rfl (two_of HT_.out (by kernel_rfl)) (by decide) (by decide) (fun K hK => ?_) (fun K hK => ?_)
          · refine box_step ?hg (N := 6) ?hd (cs := #[.int .i64 0, .int .i64 0, .int .i64 0, .int .i64 0, .int .i64 0, .int .i64 0, .int .i64 0, .int .i64 0, .slice none 0 0, .slice none 0 0, .slice none 0 0, .int .i64 0]) (t := 30) ?hr ?_; (case hd => rfl); (case hg => rfl); (case hr => first | (go_simp; done) | (go_simp; rfl))
            intro g1 hg w10 hbox1 hb
            have hB1 := below_step hHeld hb
            have hg1 : w.heap.size ≤ g1 := by rw [hg]; exact below_size hHeld
            refine hK.out _ _ hB1 (fun _ => ?_)
            clear hK K
            refine norm_ (a' := ?_) ?_ ?_
            rotate_left
            · show Act.put _ (some 6) _ = _
              simp only [Act.put, List.setIfInBounds_toArray, List.set_cons_zero, List.set_cons_succ, i64_w, i32_w]
              rfl
            refine one_ (i := 9) (N := some 7) #[true, true, true, true, true, true, true, true, true, true, false, false] rfl rfl (one_of HT_.out (by kernel_rfl)) (by decide) (fun K hK => ?_)
            refine box_step ?hg (N := 7) ?hd (cs := #[.int .i64 0, .int .i64 0, .int .i64 0, .int .i64 0, .int .i64 0, .int .i64 0, .int .i64 0, .int .i64 0, .slice none 0 0, .slice none 0 0, .slice none 0 0, .int .i64 0]) (t := 30) ?hr ?_; (case hd => rfl); (case hg => rfl); (case hr => first | (go_simp; done) | (go_simp; rfl))
            intro g2 hgg w11 hbox2 hb2
            have hB2 := below_step hB1 hb2
            have hg2 : w.heap.size ≤ g2 := by rw [hgg]; exact below_size hB1
            have hne : g1 ≠ g2 := by have := blk_lt hbox1; omega
            refine hK.out _ _ hB2 (fun _ => ?_)
            clear hK K
            refine norm_ (a' := ?_) ?_ ?_
            rotate_left
            · show Act.put _ (some 7) _ = _
              simp only [Act.put, List.setIfInBounds_toArray, List.set_cons_zero, List.set_cons_succ, i64_w, i32_w]
              rfl
            exact norm_ (by simp only [putAll, Act.put, List.setIfInBounds_toArray, List.set_cons_zero, List.set_cons_succ]) (hCont (g1, g2) _ ⟨hB2, blk_below hbox1 hb2, hbox2, hg1, hg2, hne⟩)
          · refine box_step ?hg (N := 7) ?hd (cs := #[.int .i64 0, .int .i64 0, .int .i64 0, .int .i64 0, .int .i64 0, .int .i64 0, .int .i64 0, .int .i64 0, .slice none 0 0, .slice none 0 0, .slice none 0 0, .int .i64 0]) (t := 30) ?hr ?_; (case hd => rfl); (case hg => rfl); (case hr => first | (go_simp; done) | (go_simp; rfl))
            intro g2 hg w10 hbox1 hb
            have hB1 := below_step hHeld hb
            have hg1 : w.heap.size ≤ g2 := by rw [hg]; exact below_size hHeld
            refine hK.out _ _ hB1 (fun _ => ?_)
            clear hK K
            refine norm_ (a' := ?_) ?_ ?_
            rotate_left
            · show Act.put _ (some 7) _ = _
              simp only [Act.put, List.setIfInBounds_toArray, List.set_cons_zero, List.set_cons_succ, i64_w, i32_w]
              rfl
            refine one_ (i := 8) (N := some 6) #[true, true, true, true, true, true, true, true, true, true, false, false] rfl rfl (one_of HT_.out (by kernel_rfl)) (by decide) (fun K hK => ?_)
            refine box_step ?hg (N := 6) ?hd (cs := #[.int .i64 0, .int .i64 0, .int .i64 0, .int .i64 0, .int .i64 0, .int .i64 0, .int .i64 0, .int .i64 0, .slice none 0 0, .slice none 0 0, .slice none 0 0, .int .i64 0]) (t := 30) ?hr ?_; (case hd => rfl); (case hg => rfl); (case hr => first | (go_simp; done) | (go_simp; rfl))
            intro g1 hgg w11 hbox2 hb2
            have hB2 := below_step hB1 hb2
            have hg2 : w.heap.size ≤ g1 := by rw [hgg]; exact below_size hB1
            have hne : g2 ≠ g1 := by have := blk_lt hbox1; omega
            refine hK.out _ _ hB2 (fun _ => ?_)
            clear hK K
            refine norm_ (a' := ?_) ?_ ?_
            rotate_left
            · show Act.put _ (some 6) _ = _
              simp only [Act.put, List.setIfInBounds_toArray, List.set_cons_zero, List.set_cons_succ, i64_w, i32_w]
              rfl
            exact norm_ (by simp only [putAll, Act.put, List.setIfInBounds_toArray, List.set_cons_zero, List.set_cons_succ]) (hCont (g1, g2) _ ⟨hB2, hbox2, blk_below hbox1 hb2, hg2, hg1, hne.symm⟩)
        rintro ⟨g1, g2⟩ w12 ⟨hB2, hz1, hz2, hg1, hg2, hne⟩
        clear hHeld
        refine norm_ (a' := ?_) ?_ ?_
        rotate_left
        · simp only [putAll, Act.put, List.setIfInBounds_toArray, List.set_cons_zero, List.set_cons_succ]
          rfl
        refine one_ (i := 10) (N := none) #[true, true, true, true, true, true, true, true, true, true, true, false] rfl rfl (one_of HT_.out (by kernel_rfl)) (by decide) (fun K hK => ?_)
        refine store_step (by rfl) rfl 30 _ _ rfl (g := g1) (vs := #[.int .i64 (rd_T30 l0 x).f0, .int .i64 (rd_T30 l0 x).f1, .int .i64 (rd_T30 l0 x).f2, .int .i64 (rd_T30 l0 x).f3, .int .i64 (rd_T30 l0 x).f4, .int .i64 (rd_T30 l0 x).f5, .int .i64 (rd_T30 l0 x).f6, .int .i64 (rd_T30 l0 x).f7, .slice Ax8 (rd_T30 l0 x).f8.length cx8, .slice Ax9 (rd_T30 l0 x).f9.length cx9, .slice Ax10 (rd_T30 l0 x).f10.length cx10, .int .i64 (rd_T30 l0 x).f11]) ?_ ?_ hz1 (by simpa using info30) rfl (by simp [Value.oneCell']) ?_
        · go_simp
        · go_simp
        intro w13 hz1' hfar1 hbel1
        have hB3 := hbel1 _ _ hB2 hg1
        have hz2' := (hfar1 g2 (Ne.symm hne)).trans hz2
        refine hK.out _ _ hB3 ?_
        intro hD
        clear hD hK K hz1 hz2 hfar1 hbel1 hB2
        refine one_ (i := 11) (N := none) #[true, true, true, true, true, true, true, true, true, true, true, true] rfl rfl (one_of HT_.out (by kernel_rfl)) (by decide) (fun K hK => ?_)
        refine store_step (by rfl) rfl 30 _ _ rfl (g := g2) (vs := #[.int .i64 (rd_T30 l1 x).f0, .int .i64 (rd_T30 l1 x).f1, .int .i64 (rd_T30 l1 x).f2, .int .i64 (rd_T30 l1 x).f3, .int .i64 (rd_T30 l1 x).f4, .int .i64 (rd_T30 l1 x).f5, .int .i64 (rd_T30 l1 x).f6, .int .i64 (rd_T30 l1 x).f7, .slice Ay8 (rd_T30 l1 x).f8.length cy8, .slice Ay9 (rd_T30 l1 x).f9.length cy9, .slice Ay10 (rd_T30 l1 x).f10.length cy10, .int .i64 (rd_T30 l1 x).f11]) ?_ ?_ hz2' (by simpa using info30) rfl (by simp [Value.oneCell']) ?_
        · go_simp
        · go_simp
        intro w14 hz2 hfar2 hbel2
        have hB4 := hbel2 _ _ hB3 hg2
        have hz1 := (hfar2 g1 hne).trans hz1'
        refine hK.out _ _ hB4 ?_
        intro hD
        clear hD hK K hz1' hz2' hfar2 hbel2 hB3 w12 w13
        refine done_ (done_of HT_.out (by kernel_rfl)) ?_
        clear HT_ HW_
        have HB := Aside0.mk hB4
        clear hB4
        have hc1_0 : w14.cell? ⟨g1, 0, none⟩ = some (.int .i64 (rd_T30 l0 x).f0) := (blk_cell hz1 0).trans rfl
        have hc1_1 : w14.cell? ⟨g1, 1, none⟩ = some (.int .i64 (rd_T30 l0 x).f1) := (blk_cell hz1 1).trans rfl
        have hc1_2 : w14.cell? ⟨g1, 2, none⟩ = some (.int .i64 (rd_T30 l0 x).f2) := (blk_cell hz1 2).trans rfl
        have hc1_3 : w14.cell? ⟨g1, 3, none⟩ = some (.int .i64 (rd_T30 l0 x).f3) := (blk_cell hz1 3).trans rfl
        have hc1_4 : w14.cell? ⟨g1, 4, none⟩ = some (.int .i64 (rd_T30 l0 x).f4) := (blk_cell hz1 4).trans rfl
        have hc1_5 : w14.cell? ⟨g1, 5, none⟩ = some (.int .i64 (rd_T30 l0 x).f5) := (blk_cell hz1 5).trans rfl
        have hc1_6 : w14.cell? ⟨g1, 6, none⟩ = some (.int .i64 (rd_T30 l0 x).f6) := (blk_cell hz1 6).trans rfl
        have hc1_7 : w14.cell? ⟨g1, 7, none⟩ = some (.int .i64 (rd_T30 l0 x).f7) := (blk_cell hz1 7).trans rfl
        have hc1_8 : w14.cell? ⟨g1, 8, none⟩ = some (.slice Ax8 (rd_T30 l0 x).f8.length cx8) := (blk_cell hz1 8).trans rfl
        have hc1_9 : w14.cell? ⟨g1, 9, none⟩ = some (.slice Ax9 (rd_T30 l0 x).f9.length cx9) := (blk_cell hz1 9).trans rfl
        have hc1_10 : w14.cell? ⟨g1, 10, none⟩ = some (.slice Ax10 (rd_T30 l0 x).f10.length cx10) := (blk_cell hz1 10).trans rfl
        have hc1_11 : w14.cell? ⟨g1, 11, none⟩ = some (.int .i64 (rd_T30 l0 x).f11) := (blk_cell hz1 11).trans rfl
        have hc2_0 : w14.cell? ⟨g2, 0, none⟩ = some (.int .i64 (rd_T30 l1 x).f0) := (blk_cell hz2 0).trans rfl
        have hc2_1 : w14.cell? ⟨g2, 1, none⟩ = some (.int .i64 (rd_T30 l1 x).f1) := (blk_cell hz2 1).trans rfl
        have hc2_2 : w14.cell? ⟨g2, 2, none⟩ = some (.int .i64 (rd_T30 l1 x).f2) := (blk_cell hz2 2).trans rfl
        have hc2_3 : w14.cell? ⟨g2, 3, none⟩ = some (.int .i64 (rd_T30 l1 x).f3) := (blk_cell hz2 3).trans rfl
        have hc2_4 : w14.cell? ⟨g2, 4, none⟩ = some (.int .i64 (rd_T30 l1 x).f4) := (blk_cell hz2 4).trans rfl
        have hc2_5 : w14.cell? ⟨g2, 5, none⟩ = some (.int .i64 (rd_T30 l1 x).f5) := (blk_cell hz2 5).trans rfl
        have hc2_6 : w14.cell? ⟨g2, 6, none⟩ = some (.int .i64 (rd_T30 l1 x).f6) := (blk_cell hz2 6).trans rfl
        have hc2_7 : w14.cell? ⟨g2, 7, none⟩ = some (.int .i64 (rd_T30 l1 x).f7) := (blk_cell hz2 7).trans rfl
        have hc2_8 : w14.cell? ⟨g2, 8, none⟩ = some (.slice Ay8 (rd_T30 l1 x).f8.length cy8) := (blk_cell hz2 8).trans rfl
        have hc2_9 : w14.cell? ⟨g2, 9, none⟩ = some (.slice Ay9 (rd_T30 l1 x).f9.length cy9) := (blk_cell hz2 9).trans rfl
        have hc2_10 : w14.cell? ⟨g2, 10, none⟩ = some (.slice Ay10 (rd_T30 l1 x).f10.length cy10) := (blk_cell hz2 10).trans rfl
        have hc2_11 : w14.cell? ⟨g2, 11, none⟩ = some (.int .i64 (rd_T30 l1 x).f11) := (blk_cell hz2 11).trans rfl
        have Hz1 := Aside0.mk hz1
        have Hz2 := Aside0.mk hz2
        have Hne := Aside0.mk hne
        clear hz1 hz2 hne Hx Hy
        by_cases e0 : (rd_T30 l0 x).f0 = (rd_T30 l1 x).f0
        · have b0 : ((rd_T30 l0 x).f0 == (rd_T30 l1 x).f0) = true := beq_iff_eq.mpr e0
          have d0 : ((rd_T30 l0 x).f0 != (rd_T30 l1 x).f0) = false := bne_eq_false_iff_eq.mpr e0
          have E0 := Aside0.mk e0
          clear e0
          by_cases e1 : (rd_T30 l0 x).f1 = (rd_T30 l1 x).f1
          · have b1 : ((rd_T30 l0 x).f1 == (rd_T30 l1 x).f1) = true := beq_iff_eq.mpr e1
            have d1 : ((rd_T30 l0 x).f1 != (rd_T30 l1 x).f1) = false := bne_eq_false_iff_eq.mpr e1
            have E1 := Aside0.mk e1
            clear e1
            by_cases e2 : (rd_T30 l0 x).f2 = (rd_T30 l1 x).f2
            · have b2 : ((rd_T30 l0 x).f2 == (rd_T30 l1 x).f2) = true := beq_iff_eq.mpr e2
              have d2 : ((rd_T30 l0 x).f2 != (rd_T30 l1 x).f2) = false := bne_eq_false_iff_eq.mpr e2
              have E2 := Aside0.mk e2
              clear e2
              by_cases e3 : (rd_T30 l0 x).f3 = (rd_T30 l1 x).f3
              · have b3 : ((rd_T30 l0 x).f3 == (rd_T30 l1 x).f3) = true := beq_iff_eq.mpr e3
                have d3 : ((rd_T30 l0 x).f3 != (rd_T30 l1 x).f3) = false := bne_eq_false_iff_eq.mpr e3
                have E3 := Aside0.mk e3
                clear e3
                by_cases e4 : (rd_T30 l0 x).f4 = (rd_T30 l1 x).f4
                · have b4 : ((rd_T30 l0 x).f4 == (rd_T30 l1 x).f4) = true := beq_iff_eq.mpr e4
                  have d4 : ((rd_T30 l0 x).f4 != (rd_T30 l1 x).f4) = false := bne_eq_false_iff_eq.mpr e4
                  have E4 := Aside0.mk e4
                  clear e4
                  by_cases e5 : (rd_T30 l0 x).f5 = (rd_T30 l1 x).f5
                  · have b5 : ((rd_T30 l0 x).f5 == (rd_T30 l1 x).f5) = true := beq_iff_eq.mpr e5
                    have d5 : ((rd_T30 l0 x).f5 != (rd_T30 l1 x).f5) = false := bne_eq_false_iff_eq.mpr e5
                    have E5 := Aside0.mk e5
                    clear e5
                    by_cases e6 : (rd_T30 l0 x).f6 = (rd_T30 l1 x).f6
                    · have b6 : ((rd_T30 l0 x).f6 == (rd_T30 l1 x).f6) = true := beq_iff_eq.mpr e6
                      have d6 : ((rd_T30 l0 x).f6 != (rd_T30 l1 x).f6) = false := bne_eq_false_iff_eq.mpr e6
                      have E6 := Aside0.mk e6
                      clear e6
                      by_cases e7 : (rd_T30 l0 x).f7 = (rd_T30 l1 x).f7
                      · have b7 : ((rd_T30 l0 x).f7 == (rd_T30 l1 x).f7) = true := beq_iff_eq.mpr e7
                        have d7 : ((rd_T30 l0 x).f7 != (rd_T30 l1 x).f7) = false := bne_eq_false_iff_eq.mpr e7
                        have E7 := Aside0.mk e7
                        clear e7
                        by_cases e11 : (rd_T30 l0 x).f11 = (rd_T30 l1 x).f11
                        · have b11 : ((rd_T30 l0 x).f11 == (rd_T30 l1 x).f11) = true := beq_iff_eq.mpr e11
                          have d11 : ((rd_T30 l0 x).f11 != (rd_T30 l1 x).f11) = false := bne_eq_false_iff_eq.mpr e11
                          have E11 := Aside0.mk e11
                          clear e11
                          by_cases e8 : (rd_T30 l0 x).f8.length = (rd_T30 l1 x).f8.length
                          · have b8 : ((((rd_T30 l0 x).f8.length : Int)) == (((rd_T30 l1 x).f8.length : Int))) = true := by simp [e8]
                            have d8 : ((((rd_T30 l0 x).f8.length : Int)) != (((rd_T30 l1 x).f8.length : Int))) = false := by simp [e8]
                            have E8 := Aside0.mk e8
                            clear e8
                            by_cases e9 : (rd_T30 l0 x).f9 = (rd_T30 l1 x).f9
                            · have E9 := Aside0.mk e9
                              clear e9
                              by_cases e10 : (rd_T30 l0 x).f10 = (rd_T30 l1 x).f10
                              · have E10 := Aside0.mk e10
                                clear e10
                                go_wp2_with fail
                                refine (portref1_sameNumbers.calls ((rd_T30 l0 x).f9.length + 1) _ _ _ _ _ _ true _ (Kd.C_below Gx9.out HB.out) Lx9.out (Kd.C_below Gy9.out HB.out) Ly9.out (by rw [eqN _ _ Gx9.out.2.1 _ (Nat.lt_succ_self _), eqB_true E9.out])).mono ?_
                                rintro e w' ⟨rfl, ⟨n9, rfl⟩⟩
                                go_wp2_with fail
                                refine (portref1_sameNumbers.calls ((rd_T30 l0 x).f10.length + 1) _ _ _ _ _ _ true _ (Kd.C_below Gx10.out (pw_below_drewN HB.out _)) Lx10.out (Kd.C_below Gy10.out (pw_below_drewN HB.out _)) Ly10.out (by rw [eqN _ _ Gx10.out.2.1 _ (Nat.lt_succ_self _), eqB_true E10.out])).mono ?_
                                rintro e w' ⟨rfl, ⟨n10, rfl⟩⟩
                                go_wp2
                                clear b0 d0 b1 d1 b2 d2 b3 d3 b4 d4 b5 d5 b6 d6 b7 d7 b8 d8 b11 d11 hc1_0 hc1_1 hc1_2 hc1_3 hc1_4 hc1_5 hc1_6 hc1_7 hc1_9 hc1_10 hc1_11 hc2_0 hc2_1 hc2_2 hc2_3 hc2_4 hc2_5 hc2_6 hc2_7 hc2_9 hc2_10 hc2_11
                                have hb8 : (rd_T30 l0 x).f8.length ≤ 9223372036854775807 := Gx8.out.2.1
                                go_loopw [116] (fun v w' => ∃ (y : Int), v = .int .i64 y ∧ 0 ≤ y ∧ y ≤ (rd_T30 l0 x).f8.length ∧ Aside0 (∀ j : Nat, (j : Int) < y → rd_T34 (rd_T30 l0 x).f8 j = rd_T34 (rd_T30 l1 x).f8 j) ∧ Drawn0 w14 w') (fun v _ => (rd_T30 l0 x).f8.length - (intOf v).toNat)
                                case atStart => exact ⟨0, rfl, Int.le_refl _, by omega, ⟨fun j h => by omega⟩, by repeat (first | exact Drawn0.refl _ | apply Drawn0.step)⟩
                                case round =>
                                  obtain ⟨y, rfl, hy0, hy1, HF, ⟨m1, rfl⟩⟩ := hrel
                                  by_cases hlt8 : y < (rd_T30 l0 x).f8.length
                                  · have hlt9 : y < ((rd_T30 l1 x).f8.length : Int) := by have := E8.out; omega
                                    obtain ⟨ada, ea, ha0, ha1, ha2⟩ := at_T34 Gx8.out y hy0 hlt8
                                    cases ea
                                    obtain ⟨adb, eb, hb0', hb1, hb2⟩ := at_T34 Gy8.out y hy0 hlt9
                                    cases eb
                                    replace ha0 := (HB.out.cell (World.block_lt_of_cell? w _ ha0)).trans ha0
                                    replace ha1 := (HB.out.cell (World.block_lt_of_cell? w _ ha1)).trans ha1
                                    replace ha2 := (HB.out.cell (World.block_lt_of_cell? w _ ha2)).trans ha2
                                    replace hb0' := (HB.out.cell (World.block_lt_of_cell? w _ hb0')).trans hb0'
                                    replace hb1 := (HB.out.cell (World.block_lt_of_cell? w _ hb1)).trans hb1
                                    replace hb2 := (HB.out.cell (World.block_lt_of_cell? w _ hb2)).trans hb2
                                    have q1 : decide (0 ≤ y) = true := decide_eq_true hy0
                                    have q2 : decide (y < ((rd_T30 l0 x).f8.length : Int)) = true := decide_eq_true hlt8
                                    have q3 : decide (y < ((rd_T30 l1 x).f8.length : Int)) = true := decide_eq_true hlt9
                                    have q4 := eq_true hy0
                                    have q5 := eq_true hlt8
                                    have q6 := eq_true hlt9
                                    by_cases heq : rd_T34 (rd_T30 l0 x).f8 y = rd_T34 (rd_T30 l1 x).f8 y
                                    · have ht : ∀ w, (binOp .neq 34 (.agg #[.int .i64 (rd_T34 (rd_T30 l0 x).f8 y).f0, .int .i64 (rd_T34 (rd_T30 l0 x).f8 y).f1, .string (rd_T34 (rd_T30 l0 x).f8 y).f2]) (.agg #[.int .i64 (rd_T34 (rd_T30 l1 x).f8 y).f0, .int .i64 (rd_T34 (rd_T30 l1 x).f8 y).f1, .string (rd_T34 (rd_T30 l1 x).f8 y).f2])).run Try.prog w = .ok (.bool false) w := fun w => by
                                        rw [run34]; congr 2
                                        rw [Bool.eq_false_iff]; exact fun c => (v34 _ _).1 c heq
                                      have HQ := Aside0.mk heq
                                      clear heq
                                      go_wp2
                                      repeat (go_quiet (fail); try go_wp2)
                                      go_roundw
                                      case rel => exact ⟨y + 1, rfl, by omega, by omega, ⟨fun j hj => by
                                        rcases Int.lt_or_eq_of_le (show (j : Int) ≤ y by omega) with h | h
                                        · exact HF.out j h
                                        · rw [h]; exact HQ.out⟩, by repeat (first | exact Drawn0.refl _ | apply Drawn0.step)⟩
                                      case measure => simp [intOf]; omega
                                    · have ht : ∀ w, (binOp .neq 34 (.agg #[.int .i64 (rd_T34 (rd_T30 l0 x).f8 y).f0, .int .i64 (rd_T34 (rd_T30 l0 x).f8 y).f1, .string (rd_T34 (rd_T30 l0 x).f8 y).f2]) (.agg #[.int .i64 (rd_T34 (rd_T30 l1 x).f8 y).f0, .int .i64 (rd_T34 (rd_T30 l1 x).f8 y).f1, .string (rd_T34 (rd_T30 l1 x).f8 y).f2])).run Try.prog w = .ok (.bool true) w := fun w => by rw [run34]; congr 2; exact (v34 _ _).2 heq
                                      have HN := Aside0.mk (eqB_false (fun e : l0 = l1 => heq (by rw [e])))
                                      clear heq
                                      go_wp2
                                      repeat (go_quiet (fail); try go_wp2)
                                      go_ret
                                      exact ⟨ret_bool HN.out.symm, by repeat (first | exact HB.out | apply pw_below_drewN)⟩
                                  · have HQ : Aside0 (rd_T30 l0 x = rd_T30 l1 x) := ⟨by
                                      have e8 : (rd_T30 l0 x).f8 = (rd_T30 l1 x).f8 := ext_rd rd_T34 z34 (fun _ _ => rfl) E8.out fun j hj => HF.out j (by omega)
                                      have := E0.out; have := E1.out; have := E2.out; have := E3.out; have := E4.out; have := E5.out; have := E6.out; have := E7.out; have := E9.out; have := E10.out; have := E11.out
                                      generalize (rd_T30 l0 x) = a at *
                                      generalize (rd_T30 l1 x) = b at *
                                      cases a; cases b; simp_all⟩
                                    go_wp2
                                    go_roundw
                                    case rel => exact ⟨x + 1, rfl, by omega, by omega, ⟨fun j hj => by
                                      rcases Int.lt_or_eq_of_le (show (j : Int) ≤ x by omega) with h | h
                                      · exact HE.out j h
                                      · rw [h]; exact HQ.out⟩, ⟨by repeat (first | exact HB.out | apply pw_below_drewN)⟩⟩
                                    case measure => simp [intOf]; omega
                              · have HN := Aside0.mk (eqB_false (fun e : l0 = l1 => e10 (by rw [e])))
                                have E10 := Aside0.mk e10
                                clear e10
                                go_wp2_with fail
                                refine (portref1_sameNumbers.calls ((rd_T30 l0 x).f9.length + 1) _ _ _ _ _ _ true _ (Kd.C_below Gx9.out HB.out) Lx9.out (Kd.C_below Gy9.out HB.out) Ly9.out (by rw [eqN _ _ Gx9.out.2.1 _ (Nat.lt_succ_self _), eqB_true E9.out])).mono ?_
                                rintro e w' ⟨rfl, ⟨n9, rfl⟩⟩
                                go_wp2_with fail
                                refine (portref1_sameNumbers.calls ((rd_T30 l0 x).f10.length + 1) _ _ _ _ _ _ false _ (Kd.C_below Gx10.out (pw_below_drewN HB.out _)) Lx10.out (Kd.C_below Gy10.out (pw_below_drewN HB.out _)) Ly10.out (by rw [eqN _ _ Gx10.out.2.1 _ (Nat.lt_succ_self _), eqB_false E10.out])).mono ?_
                                rintro e w' ⟨rfl, ⟨n10, rfl⟩⟩
                                go_wp2
                                go_ret
                                exact ⟨ret_bool HN.out.symm, by repeat (first | exact HB.out | apply pw_below_drewN)⟩
                            · have HN := Aside0.mk (eqB_false (fun e : l0 = l1 => e9 (by rw [e])))
                              have E9 := Aside0.mk e9
                              clear e9
                              go_wp2_with fail
                              refine (portref1_sameNumbers.calls ((rd_T30 l0 x).f9.length + 1) _ _ _ _ _ _ false _ (Kd.C_below Gx9.out HB.out) Lx9.out (Kd.C_below Gy9.out HB.out) Ly9.out (by rw [eqN _ _ Gx9.out.2.1 _ (Nat.lt_succ_self _), eqB_false E9.out])).mono ?_
                              rintro e w' ⟨rfl, ⟨n9, rfl⟩⟩
                              go_wp2
                              go_ret
                              exact ⟨ret_bool HN.out.symm, pw_below_drewN HB.out _⟩
                          · have HN := Aside0.mk (eqB_false (fun e : l0 = l1 => e8 (by rw [e])))
                            have b8 : ((((rd_T30 l0 x).f8.length : Int)) == (((rd_T30 l1 x).f8.length : Int))) = false := by simp; omega
                            have d8 : ((((rd_T30 l0 x).f8.length : Int)) != (((rd_T30 l1 x).f8.length : Int))) = true := by simp; omega
                            clear e8
                            go_wp2
                            go_ret
                            exact ⟨ret_bool HN.out.symm, HB.out⟩
                        · have HN := Aside0.mk (eqB_false (fun e : l0 = l1 => e11 (by rw [e])))
                          have b11 : ((rd_T30 l0 x).f11 == (rd_T30 l1 x).f11) = false := beq_eq_false_iff_ne.mpr e11
                          have d11 : ((rd_T30 l0 x).f11 != (rd_T30 l1 x).f11) = true := bne_iff_ne.mpr e11
                          clear e11
                          go_wp2
                          go_ret
                          exact ⟨ret_bool HN.out.symm, HB.out⟩
                      · have HN := Aside0.mk (eqB_false (fun e : l0 = l1 => e7 (by rw [e])))
                        have b7 : ((rd_T30 l0 x).f7 == (rd_T30 l1 x).f7) = false := beq_eq_false_iff_ne.mpr e7
                        have d7 : ((rd_T30 l0 x).f7 != (rd_T30 l1 x).f7) = true := bne_iff_ne.mpr e7
                        clear e7
                        go_wp2
                        go_ret
                        exact ⟨ret_bool HN.out.symm, HB.out⟩
                    · have HN := Aside0.mk (eqB_false (fun e : l0 = l1 => e6 (by rw [e])))
                      have b6 : ((rd_T30 l0 x).f6 == (rd_T30 l1 x).f6) = false := beq_eq_false_iff_ne.mpr e6
                      have d6 : ((rd_T30 l0 x).f6 != (rd_T30 l1 x).f6) = true := bne_iff_ne.mpr e6
                      clear e6
                      go_wp2
                      go_ret
                      exact ⟨ret_bool HN.out.symm, HB.out⟩
                  · have HN := Aside0.mk (eqB_false (fun e : l0 = l1 => e5 (by rw [e])))
                    have b5 : ((rd_T30 l0 x).f5 == (rd_T30 l1 x).f5) = false := beq_eq_false_iff_ne.mpr e5
                    have d5 : ((rd_T30 l0 x).f5 != (rd_T30 l1 x).f5) = true := bne_iff_ne.mpr e5
                    clear e5
                    go_wp2
                    go_ret
                    exact ⟨ret_bool HN.out.symm, HB.out⟩
                · have HN := Aside0.mk (eqB_false (fun e : l0 = l1 => e4 (by rw [e])))
                  have b4 : ((rd_T30 l0 x).f4 == (rd_T30 l1 x).f4) = false := beq_eq_false_iff_ne.mpr e4
                  have d4 : ((rd_T30 l0 x).f4 != (rd_T30 l1 x).f4) = true := bne_iff_ne.mpr e4
                  clear e4
                  go_wp2
                  go_ret
                  exact ⟨ret_bool HN.out.symm, HB.out⟩
              · have HN := Aside0.mk (eqB_false (fun e : l0 = l1 => e3 (by rw [e])))
                have b3 : ((rd_T30 l0 x).f3 == (rd_T30 l1 x).f3) = false := beq_eq_false_iff_ne.mpr e3
                have d3 : ((rd_T30 l0 x).f3 != (rd_T30 l1 x).f3) = true := bne_iff_ne.mpr e3
                clear e3
                go_wp2
                go_ret
                exact ⟨ret_bool HN.out.symm, HB.out⟩
            · have HN := Aside0.mk (eqB_false (fun e : l0 = l1 => e2 (by rw [e])))
              have b2 : ((rd_T30 l0 x).f2 == (rd_T30 l1 x).f2) = false := beq_eq_false_iff_ne.mpr e2
              have d2 : ((rd_T30 l0 x).f2 != (rd_T30 l1 x).f2) = true := bne_iff_ne.mpr e2
              clear e2
              go_wp2
              go_ret
              exact ⟨ret_bool HN.out.symm, HB.out⟩
          · have HN := Aside0.mk (eqB_false (fun e : l0 = l1 => e1 (by rw [e])))
            have b1 : ((rd_T30 l0 x).f1 == (rd_T30 l1 x).f1) = false := beq_eq_false_iff_ne.mpr e1
            have d1 : ((rd_T30 l0 x).f1 != (rd_T30 l1 x).f1) = true := bne_iff_ne.mpr e1
            clear e1
            go_wp2
            go_ret
            exact ⟨ret_bool HN.out.symm, HB.out⟩
        · have HN := Aside0.mk (eqB_false (fun e : l0 = l1 => e0 (by rw [e])))
          have b0 : ((rd_T30 l0 x).f0 == (rd_T30 l1 x).f0) = false := beq_eq_false_iff_ne.mpr e0
          have d0 : ((rd_T30 l0 x).f0 != (rd_T30 l1 x).f0) = true := bne_iff_ne.mpr e0
          clear e0
          go_wp2
          go_ret
          exact ⟨ret_bool HN.out.symm, HB.out⟩
      · have hall : eqB l0 l1 = true := eqB_true (by
          have hx : x = l0.length := by omega
          refine List.ext_getElem C3.out fun j h1 h2 => ?_
          have := HE.out j (by omega)
          simpa [rd_T30, h1, h2] using this)
        have HN := Aside0.mk hall
        clear hall
        go_wp2
        go_ret
        exact ⟨ret_bool HN.out.symm, HB.out⟩
  · have c3b1 : ((l0.length : Int) != (l1.length : Int)) = true := by simp; omega
    have hne : eqB l0 l1 = false := eqB_false (fun e => c3 (by rw [e]))
    rw [hne]
    clear hne
    go_enter Try.func8, Try.ntmps8
    go_wp2
    go_ret
    exact ⟨rfl, Below.refl _ _⟩
end Go.Proofs.Ytfnmcpgngnlodaa.Sames
