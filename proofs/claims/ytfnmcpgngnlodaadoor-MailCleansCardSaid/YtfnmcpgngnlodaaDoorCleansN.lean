/- How many bytes a mark has at a subject's beginning: marked answers mark. Condition: a string within the reach. -/
import Derived.Test.YtfnmcpgngnlodaaDoorCleansM
namespace Go.Proofs.YtfnmcpgngnlodaaDoor.Cleans
open Go.RowKit Go.Proofs.YtfnmcpgngnlodaaDoorW.PrintWords Go.Proofs.YtfnmcpgngnlodaaDoorW.PrintLast Go.Proofs.YtfnmcpgngnlodaaDoorW.PrintMore
open Go.Proofs.YtfnmcpgngnlodaaDoor.Forms
set_option linter.unusedVariables false
set_option linter.unusedSimpArgs false

def WCells (w : World) (k : Nat) : Prop := ∀ x : Nat, x < 4 → w.cell? ⟨k, x, none⟩ = some (.string (wd x))
theorem wcells_below {w w' : World} {k : Nat} (h : WCells w k) (hb : Below w.heap.size w w') : WCells w' k := fun x hx => pw_cell_below hb (h x hx)
theorem empty_yes (s : ByteArray) (h : s.size = 0) : s.toList.isEmpty = true := by
  rw [Lib.toList_data]
  have := len_data s
  cases hl : s.data.toList with
  | nil => rfl
  | cons a l => rw [hl] at this; simp at this; omega
theorem empty_no (s : ByteArray) (h : 0 < s.size) : s.toList.isEmpty = false := by
  rw [Lib.toList_data]
  have := len_data s
  cases hl : s.data.toList with
  | nil => rw [hl] at this; simp at this; omega
  | cons a l => rfl

set_option maxHeartbeats 8000000 in
set_option maxRecDepth 1000000 in
theorem marked_calls (s : ByteArray) (hs : s.size ≤ 140737488351232) (w : World) :
    Calls Tryd.prog 53 #[.string s] w fun e w' => e = .returned (.int .i64 (mark s)) ∧ Below w.heap.size w w' := by
  have hbk := brk_bound s
  have HBK := Aside0.mk hbk
  clear hbk
  go_enter Tryd.func53, Tryd.ntmps53
  go_wp2
  have HC0 := Aside0.mk (show WCells (w.alloc (.cells #[.string ⟨#[114, 101]⟩, .string ⟨#[102, 119, 100]⟩, .string ⟨#[102, 119]⟩, .string ⟨#[97, 119]⟩] 9)) w.heap.size from fun x hx => by
    rw [World.cell?_alloc_at _ _ _ _ (by simp)]
    have h : x = 0 ∨ x = 1 ∨ x = 2 ∨ x = 3 := by omega
    rcases h with rfl | rfl | rfl | rfl <;> rfl)
  have HBB0 := Aside0.mk (show Below w.heap.size w (w.alloc (.cells #[.string ⟨#[114, 101]⟩, .string ⟨#[102, 119, 100]⟩, .string ⟨#[102, 119]⟩, .string ⟨#[97, 119]⟩] 9)) from below_alloc (Below.refl _ _) _)
  generalize w.alloc (.cells #[.string ⟨#[114, 101]⟩, .string ⟨#[102, 119, 100]⟩, .string ⟨#[102, 119]⟩, .string ⟨#[97, 119]⟩] 9) = W0 at HC0 HBB0 ⊢
  go_loopg [10] 4 (fun g v wx => ∃ x : Nat, v = .int .i64 x ∧ x + g = 4 ∧ Aside0 (mkf s g x = mark s) ∧ Aside0 (Below w.heap.size w wx) ∧ Aside0 (WCells wx w.heap.size))
  case atStart => exact ⟨0, rfl, rfl, ⟨rfl⟩, HBB0, HC0⟩
  case round =>
    clear HBB0 HC0
    obtain ⟨x, rfl, hxg, HM, HB, HC⟩ := hrel
    cases gk with
    | zero =>
      obtain rfl : x = 4 := by omega
      have HMB := Aside0.mk (show mark s = brk s from HM.out.symm)
      clear hxg
      by_cases hz : s.size = 0
      · have hemp := empty_yes s hz
        have HE := Aside0.mk (show mark s = 0 by rw [HMB.out]; unfold brk; rw [if_neg (by omega)])
        clear hz
        go_wp2
        go_ret
        exact ⟨ret_int HE.out.symm, HB.out⟩
      · have hz1 : 0 < s.size := by omega
        have hemp := empty_no s hz1
        have HB0 := Aside0.mk (byt_at s 0 hz1)
        clear hz
        by_cases h91 : (s[0].toNat : Int) = 91
        · have hsz1 : (s.extract 1 s.size).size = s.size - 1 := by rw [ByteArray.size_extract]; omega
          have HI := Aside0.mk (fun W => indexAny_calls (s.extract 1 s.size) (by omega) W)
          have hib := iany_bound (s.extract 1 s.size)
          rw [hsz1] at hib
          have HE := Aside0.mk (show mark s = if 0 ≤ iany (s.extract 1 s.size) ∧ (byt s (1 + (iany (s.extract 1 s.size)).toNat)).toNat = 93 then iany (s.extract 1 s.size) + 2 else 0 by
            rw [HMB.out]; unfold brk; rw [if_pos ⟨hz1, by rw [HB0.out]; omega⟩])
          clear hsz1
          generalize iany (s.extract 1 s.size) = i at HI hib HE
          go_wp2_with fail
          refine (HI.out _).mono ?_
          rintro e w2 ⟨rfl, hb⟩
          have HB2 := Aside0.mk (below_step HB.out hb)
          clear hb HB HI
          by_cases hi : 0 ≤ i
          · obtain ⟨j, rfl⟩ : ∃ j : Nat, i = (j : Int) := ⟨i.toNat, by omega⟩
            have HBJ := Aside0.mk (byt_at s (1 + j) (by omega))
            simp only [Int.toNat_natCast] at HE
            have hj : 1 + j < s.size := by omega
            by_cases h93 : (s[1 + j].toNat : Int) = 93
            · have HE3 := Aside0.mk (show mark s = (j : Int) + 2 by rw [HE.out, if_pos ⟨by omega, by rw [HBJ.out]; omega⟩])
              go_wp2
              go_ret
              exact ⟨ret_int HE3.out.symm, HB2.out⟩
            · have HE3 := Aside0.mk (show mark s = 0 by rw [HE.out, if_neg (fun h => h93 (by have h5 := h.2; rw [HBJ.out] at h5; omega))])
              go_wp2
              go_ret
              exact ⟨ret_int HE3.out.symm, HB2.out⟩
          · have HE2 := Aside0.mk (show mark s = 0 by rw [HE.out, if_neg (fun h => hi h.1)])
            go_wp2
            go_ret
            exact ⟨ret_int HE2.out.symm, HB2.out⟩
        · have HE := Aside0.mk (show mark s = 0 by rw [HMB.out]; unfold brk; rw [if_neg (fun h => h91 (by have := h.2; rw [HB0.out] at this; omega))])
          go_wp2
          go_ret
          exact ⟨ret_int HE.out.symm, HB.out⟩
    | succ g =>
      have h0 := HC.out x (by omega)
      have hx4 : x < 4 := by omega
      have hp2 := wd_size x
      have HMN := Aside0.mk (show fit (wd x) s = -1 → mkf s g (x + 1) = mark s from fun h => by
        rw [← HM.out]
        show _ = (if 0 ≤ fit (wd x) s then _ else _)
        rw [h]; rfl)
      have HMY := Aside0.mk (show 0 ≤ fit (wd x) s → mark s = fit (wd x) s from fun h => by
        rw [← HM.out]
        show (if 0 ≤ fit (wd x) s then _ else _) = _
        rw [if_pos h])
      have HFT := Aside0.mk (show fit (wd x) s = if s.size ≤ (wd x).size ∨ low (s.extract 0 (wd x).size) ≠ wd x then -1 else fitT (s.extract (wd x).size s.size) (wd x).size from rfl)
      generalize wd x = p at *
      by_cases hsz : s.size ≤ p.size
      · have HM2 := Aside0.mk (HMN.out (by rw [HFT.out, if_pos (.inl hsz)]))
        go_wp2
        go_roundg g
        case measure => omega
        case rel => exact ⟨x + 1, by go_num, by omega, HM2, HB, HC⟩
      · have HLC := Aside0.mk (fun W => lower_calls (s.extract 0 p.size) (by rw [ByteArray.size_extract]; omega) W)
        generalize low (s.extract 0 p.size) = q at HFT HLC
        go_wp2_with fail
        refine (HLC.out _).mono ?_
        rintro e w2 ⟨rfl, hb⟩
        have HB2 := Aside0.mk (below_step HB.out hb)
        have HC2 := Aside0.mk (wcells_below HC.out hb)
        clear hb HB HC h0
        have HB := HB2
        have HC := HC2
        clear HB2 HC2
        by_cases hq : q = p
        · have hqb : (q.toList == p.toList) = true := by rw [hq]; simp
          have ht : (s.extract p.size s.size).size = s.size - p.size := by rw [ByteArray.size_extract]; omega
          rw [if_neg (fun h => by rcases h with h | h; exact hsz h; exact h hq)] at HFT
          clear hq
          rw [HFT.out] at HMN HMY
          obtain ⟨t, HT⟩ : ∃ t : ByteArray, Aside0 (s.extract p.size s.size = t) := ⟨_, ⟨rfl⟩⟩
          rw [HT.out] at HMN HMY
          have ht0 : 0 < (s.extract p.size s.size).size := by omega
          have HTS := Aside0.mk (show t.size = s.size - p.size by rw [← HT.out]; exact ht)
          have HB0T := Aside0.mk (byt_at (s.extract p.size s.size) 0 ht0)
          clear ht
          by_cases h58 : ((s.extract p.size s.size)[0].toNat : Int) = 58
          · have FN := Aside0.mk (show fitT t p.size = (p.size : Int) + 1 by
              unfold fitT
              rw [if_pos (by rw [← HT.out, HB0T.out]; omega)])
            have HMQ := Aside0.mk (HMY.out (by rw [FN.out]; omega))
            rw [FN.out] at HMQ
            go_wp2
            go_ret
            exact ⟨ret_int HMQ.out.symm, HB.out⟩
          · have HB58 := Aside0.mk (show ¬ (byt t 0).toNat = 58 by rw [← HT.out, HB0T.out]; omega)
            go_wp2_with fail
            have ht1 : 0 < t.size := by have := HTS.out; omega
            have ht2 : t.size + p.size ≤ s.size ∧ s.size ≤ t.size + p.size := by have := HTS.out; omega
            have HB0 := Aside0.mk (byt_at t 0 ht1)
            generalize ((s.extract p.size s.size)[0].toNat : Int) = y0
            rw [HT.out]
            clear h58 HB0T
            go_loopg [6] t.size (fun gg v wx => ∃ n : Nat, v = .int .i64 n ∧ 1 ≤ n ∧ n ≤ t.size ∧ t.size ≤ n + gg ∧ Aside0 (dn t gg n = ndd t) ∧ wx = w2)
            case atStart => exact ⟨1, rfl, by omega, by omega, by omega, ⟨rfl⟩, rfl⟩
            case round =>
              obtain ⟨n, rfl, hn1, hn2, hng, HDN, rfl⟩ := hrel
              cases gk with
              | zero =>
                have hnl : ¬ (n : Int) < (t.size : Int) := by omega
                have hnn : n = t.size := by omega
                have HNN := Aside0.mk hnn
                clear hnn
                have HD := Aside0.mk (show ndd t = n by rw [← HDN.out]; rfl)
                by_cases h91 : (t[0].toNat : Int) = 91
                · by_cases h2 : 2 ≤ n
                  · by_cases h4 : n ≤ 4
                    · have HPX := Aside0.mk (show tailOk t = pre (t.extract n t.size) ⟨#[93, 58]⟩ by unfold tailOk; rw [HD.out])
                      go_wp2_with fail
                      refine (Tryd.strings_HasPrefix _ _ _).mono ?_
                      rintro e w5 ⟨rfl, rfl⟩
                      cases hp : Lib.hasPrefix (t.extract n t.size).data.toList (⟨#[93, 58]⟩ : ByteArray).data.toList
                      · have FN := Aside0.mk (show fitT t p.size = -1 by
                          unfold fitT
                          rw [if_neg HB58.out, if_neg (fun h => by have h5 := h.2.2.2; rw [HPX.out] at h5; unfold pre at h5; rw [hp] at h5; cases h5)])
                        have HM2 := Aside0.mk (HMN.out FN.out)
                        clear hp
                        go_wp2
                        go_roundg g
                        case measure => omega
                        case rel => exact ⟨x + 1, by go_num, by omega, HM2, HB, HC⟩
                      · have FN := Aside0.mk (show fitT t p.size = (p.size : Int) + n + 2 by
                          unfold fitT
                          rw [if_neg HB58.out, if_pos ⟨by rw [HB0.out]; omega, by rw [HD.out]; omega, by rw [HD.out]; omega, by rw [HPX.out]; exact hp⟩, HD.out])
                        have HMQ := Aside0.mk (HMY.out (by rw [FN.out]; omega))
                        rw [FN.out] at HMQ
                        clear hp
                        go_wp2
                        go_ret
                        exact ⟨ret_int HMQ.out.symm, HB.out⟩
                    · have FN := Aside0.mk (show fitT t p.size = -1 by
                        unfold fitT
                        rw [if_neg HB58.out, if_neg (by rw [HD.out]; omega)])
                      have HM2 := Aside0.mk (HMN.out FN.out)
                      go_wp2
                      go_roundg g
                      case measure => omega
                      case rel => exact ⟨x + 1, by go_num, by omega, HM2, HB, HC⟩
                  · have FN := Aside0.mk (show fitT t p.size = -1 by
                      unfold fitT
                      rw [if_neg HB58.out, if_neg (by rw [HD.out]; omega)])
                    have HM2 := Aside0.mk (HMN.out FN.out)
                    go_wp2
                    go_roundg g
                    case measure => omega
                    case rel => exact ⟨x + 1, by go_num, by omega, HM2, HB, HC⟩
                · have FN := Aside0.mk (show fitT t p.size = -1 by
                    unfold fitT
                    rw [if_neg HB58.out, if_neg (by rw [HB0.out]; omega)])
                  have HM2 := Aside0.mk (HMN.out FN.out)
                  go_wp2
                  go_roundg g
                  case measure => omega
                  case rel => exact ⟨x + 1, by go_num, by omega, HM2, HB, HC⟩
              | succ gg =>
                by_cases hnl : n < t.size
                · have HBN := Aside0.mk (byt_of t n hnl)
                  have HDS := Aside0.mk (show dn t (gg + 1) n = if n < t.size ∧ dgt (byt t n) = true then dn t gg (n + 1) else n from rfl)
                  go_wp2_with fail
                  refine (digit_calls _ _).mono ?_
                  rintro e w5 ⟨rfl, rfl⟩
                  cases hdg : dgt (t[n])
                  · have HDG := Aside0.mk hdg
                    clear hdg
                    have HD := Aside0.mk (show ndd t = n by rw [← HDN.out, HDS.out, if_neg (fun h => by have h5 := h.2; rw [HBN.out] at h5; have h6 := HDG.out; rw [show t[n] = t.data[n] from rfl] at h6; rw [h6] at h5; cases h5)])
                    by_cases h91 : (t[0].toNat : Int) = 91
                    · by_cases h2 : 2 ≤ n
                      · by_cases h4 : n ≤ 4
                        · have HPX := Aside0.mk (show tailOk t = pre (t.extract n t.size) ⟨#[93, 58]⟩ by unfold tailOk; rw [HD.out])
                          go_wp2_with fail
                          refine (Tryd.strings_HasPrefix _ _ _).mono ?_
                          rintro e w5 ⟨rfl, rfl⟩
                          cases hp : Lib.hasPrefix (t.extract n t.size).data.toList (⟨#[93, 58]⟩ : ByteArray).data.toList
                          · have FN := Aside0.mk (show fitT t p.size = -1 by
                              unfold fitT
                              rw [if_neg HB58.out, if_neg (fun h => by have h5 := h.2.2.2; rw [HPX.out] at h5; unfold pre at h5; rw [hp] at h5; cases h5)])
                            have HM2 := Aside0.mk (HMN.out FN.out)
                            clear hp
                            go_wp2
                            go_roundg g
                            case measure => omega
                            case rel => exact ⟨x + 1, by go_num, by omega, HM2, HB, HC⟩
                          · have FN := Aside0.mk (show fitT t p.size = (p.size : Int) + n + 2 by
                              unfold fitT
                              rw [if_neg HB58.out, if_pos ⟨by rw [HB0.out]; omega, by rw [HD.out]; omega, by rw [HD.out]; omega, by rw [HPX.out]; exact hp⟩, HD.out])
                            have HMQ := Aside0.mk (HMY.out (by rw [FN.out]; omega))
                            rw [FN.out] at HMQ
                            clear hp
                            go_wp2
                            go_ret
                            exact ⟨ret_int HMQ.out.symm, HB.out⟩
                        · have FN := Aside0.mk (show fitT t p.size = -1 by
                            unfold fitT
                            rw [if_neg HB58.out, if_neg (by rw [HD.out]; omega)])
                          have HM2 := Aside0.mk (HMN.out FN.out)
                          go_wp2
                          go_roundg g
                          case measure => omega
                          case rel => exact ⟨x + 1, by go_num, by omega, HM2, HB, HC⟩
                      · have FN := Aside0.mk (show fitT t p.size = -1 by
                          unfold fitT
                          rw [if_neg HB58.out, if_neg (by rw [HD.out]; omega)])
                        have HM2 := Aside0.mk (HMN.out FN.out)
                        go_wp2
                        go_roundg g
                        case measure => omega
                        case rel => exact ⟨x + 1, by go_num, by omega, HM2, HB, HC⟩
                    · have FN := Aside0.mk (show fitT t p.size = -1 by
                        unfold fitT
                        rw [if_neg HB58.out, if_neg (by rw [HB0.out]; omega)])
                      have HM2 := Aside0.mk (HMN.out FN.out)
                      go_wp2
                      go_roundg g
                      case measure => omega
                      case rel => exact ⟨x + 1, by go_num, by omega, HM2, HB, HC⟩
                  · have HDG := Aside0.mk (show dn t gg (n + 1) = ndd t by
                      rw [← HDN.out, HDS.out, if_pos ⟨hnl, by rw [HBN.out]; exact hdg⟩])
                    clear hdg
                    go_wp2
                    go_roundg gg
                    case measure => omega
                    case rel => exact ⟨n + 1, by go_num, by omega, by omega, by omega, HDG, rfl⟩
                · have HDS := Aside0.mk (show dn t (gg + 1) n = n by
                    show (if n < t.size ∧ _ then _ else _) = n
                    rw [if_neg (fun h => hnl h.1)])
                  have HD := Aside0.mk (show ndd t = n by rw [← HDN.out, HDS.out])
                  by_cases h91 : (t[0].toNat : Int) = 91
                  · by_cases h2 : 2 ≤ n
                    · by_cases h4 : n ≤ 4
                      · have HPX := Aside0.mk (show tailOk t = pre (t.extract n t.size) ⟨#[93, 58]⟩ by unfold tailOk; rw [HD.out])
                        go_wp2_with fail
                        refine (Tryd.strings_HasPrefix _ _ _).mono ?_
                        rintro e w5 ⟨rfl, rfl⟩
                        cases hp : Lib.hasPrefix (t.extract n t.size).data.toList (⟨#[93, 58]⟩ : ByteArray).data.toList
                        · have FN := Aside0.mk (show fitT t p.size = -1 by
                            unfold fitT
                            rw [if_neg HB58.out, if_neg (fun h => by have h5 := h.2.2.2; rw [HPX.out] at h5; unfold pre at h5; rw [hp] at h5; cases h5)])
                          have HM2 := Aside0.mk (HMN.out FN.out)
                          clear hp
                          go_wp2
                          go_roundg g
                          case measure => omega
                          case rel => exact ⟨x + 1, by go_num, by omega, HM2, HB, HC⟩
                        · have FN := Aside0.mk (show fitT t p.size = (p.size : Int) + n + 2 by
                            unfold fitT
                            rw [if_neg HB58.out, if_pos ⟨by rw [HB0.out]; omega, by rw [HD.out]; omega, by rw [HD.out]; omega, by rw [HPX.out]; exact hp⟩, HD.out])
                          have HMQ := Aside0.mk (HMY.out (by rw [FN.out]; omega))
                          rw [FN.out] at HMQ
                          clear hp
                          go_wp2
                          go_ret
                          exact ⟨ret_int HMQ.out.symm, HB.out⟩
                      · have FN := Aside0.mk (show fitT t p.size = -1 by
                          unfold fitT
                          rw [if_neg HB58.out, if_neg (by rw [HD.out]; omega)])
                        have HM2 := Aside0.mk (HMN.out FN.out)
                        go_wp2
                        go_roundg g
                        case measure => omega
                        case rel => exact ⟨x + 1, by go_num, by omega, HM2, HB, HC⟩
                    · have FN := Aside0.mk (show fitT t p.size = -1 by
                        unfold fitT
                        rw [if_neg HB58.out, if_neg (by rw [HD.out]; omega)])
                      have HM2 := Aside0.mk (HMN.out FN.out)
                      go_wp2
                      go_roundg g
                      case measure => omega
                      case rel => exact ⟨x + 1, by go_num, by omega, HM2, HB, HC⟩
                  · have FN := Aside0.mk (show fitT t p.size = -1 by
                      unfold fitT
                      rw [if_neg HB58.out, if_neg (by rw [HB0.out]; omega)])
                    have HM2 := Aside0.mk (HMN.out FN.out)
                    go_wp2
                    go_roundg g
                    case measure => omega
                    case rel => exact ⟨x + 1, by go_num, by omega, HM2, HB, HC⟩
        · have hqb : (q.toList == p.toList) = false := beq_eq_false_iff_ne.mpr fun e => hq (bytes_eq e)
          have HM2 := Aside0.mk (HMN.out (by rw [HFT.out, if_pos (.inr hq)]))
          clear hq
          go_wp2
          go_roundg g
          case measure => omega
          case rel => exact ⟨x + 1, by go_num, by omega, HM2, HB, HC⟩
end Go.Proofs.YtfnmcpgngnlodaaDoor.Cleans
