/- A subject without one mark: unprefixed answers what lies behind mark bytes. Condition: a string within the reach. -/
import Derived.Test.YtfnmcpgngnlodaaDoorCleansN
import Derived.Test.YtfnmcpgngnlodaaDoorCleansO
namespace Go.Proofs.YtfnmcpgngnlodaaDoor.Cleans
open Go.RowKit Go.Proofs.YtfnmcpgngnlodaaDoorW.PrintWords Go.Proofs.YtfnmcpgngnlodaaDoorW.PrintLast Go.Proofs.YtfnmcpgngnlodaaDoorW.PrintMore
open Go.Proofs.YtfnmcpgngnlodaaDoor.Forms
set_option linter.unusedVariables false
set_option linter.unusedSimpArgs false

def unp (s : ByteArray) : ByteArray := s.extract (mark s).toNat s.size
theorem ret_unp (s : ByteArray) (k : Nat) (h : mark s = (k : Int)) : Ending.returned (.string (s.extract k s.size)) = .returned (.string (unp s)) := by
  unfold unp; rw [h, Int.toNat_natCast]
theorem extract_all (s : ByteArray) : s.extract 0 s.size = s := by
  apply ext_bytes
  rw [extract_list, List.drop_zero, List.take_of_length_le (by rw [len_data]; exact Nat.le_refl _)]
theorem ret_unp0 (s : ByteArray) (h : mark s = 0) : Ending.returned (.string s) = .returned (.string (unp s)) := by
  have := ret_unp s 0 (by rw [h]; rfl)
  rwa [extract_all] at this
theorem cutPrefix_calls (L p : ByteArray) (w : World) : Calls Tryd.prog 84 #[.string L, .string p] w fun e w' => (∃ r, e = .returned (.tuple #[.string r, .bool (pre L p)]) ∧ (pre L p = true → r = L.extract p.size L.size)) ∧ w' = w := by
  refine (Tryd.strings_CutPrefix L p w).mono ?_
  rintro e w' ⟨rfl, rfl⟩
  refine ⟨⟨_, rfl, fun h => ?_⟩, rfl⟩
  apply ext_bytes
  have h' : Lib.hasPrefix L.data.toList p.data.toList = true := h
  rw [extract_list]
  show Lib.trimPrefix L.data.toList p.data.toList = _
  unfold Lib.trimPrefix
  rw [h', if_pos rfl, len_data, List.take_of_length_le (by rw [len_data]; exact Nat.le_refl _)]

set_option maxHeartbeats 8000000 in
set_option maxRecDepth 1000000 in
theorem unprefixed_calls (s : ByteArray) (hs : s.size ≤ 140737488351232) (w : World) :
    Calls Tryd.prog 55 #[.string s] w fun e w' => e = .returned (.string (unp s)) ∧ Below w.heap.size w w' := by
  go_enter Tryd.func55, Tryd.ntmps55
  go_wp2_with fail
  refine (Lower_calls s (by omega) _).mono ?_
  rintro e w0 ⟨rfl, hb⟩
  have HBL := Aside0.mk hb
  have HLS := Aside0.mk (low_size s)
  have HF2 := Aside0.mk (fun p => fit2_eq p s)
  clear hb
  have hF : ∀ p, fit p s = if pre (low s) p = true then fitU ((low s).extract p.size (low s).size) p.size else -1 := fun p => by
    rw [← HF2.out p]; unfold fit2; rw [HLS.out]
  have HF := Aside0.mk hF
  clear hF
  generalize low s = L at HF HLS ⊢
  go_wp2
  have HC0 := Aside0.mk (show WCells (w0.alloc (.cells #[.string ⟨#[114, 101]⟩, .string ⟨#[102, 119, 100]⟩, .string ⟨#[102, 119]⟩, .string ⟨#[97, 119]⟩] 9)) w0.heap.size from fun x hx => by
    rw [World.cell?_alloc_at _ _ _ _ (by simp)]
    have h : x = 0 ∨ x = 1 ∨ x = 2 ∨ x = 3 := by omega
    rcases h with rfl | rfl | rfl | rfl <;> rfl)
  have HBB0 := Aside0.mk (show Below w.heap.size w (w0.alloc (.cells #[.string ⟨#[114, 101]⟩, .string ⟨#[102, 119, 100]⟩, .string ⟨#[102, 119]⟩, .string ⟨#[97, 119]⟩] 9)) from below_alloc HBL.out _)
  generalize w0.alloc (.cells #[.string ⟨#[114, 101]⟩, .string ⟨#[102, 119, 100]⟩, .string ⟨#[102, 119]⟩, .string ⟨#[97, 119]⟩] 9) = W0 at HC0 HBB0 ⊢
  go_loopg [14] 4 (fun g v wx => ∃ x : Nat, v = .int .i64 x ∧ x + g = 4 ∧ Aside0 (mkf s g x = mark s) ∧ Aside0 (Below w.heap.size w wx) ∧ Aside0 (WCells wx w0.heap.size))
  case atStart => exact ⟨0, rfl, rfl, ⟨rfl⟩, HBB0, HC0⟩
  case round =>
    clear HBB0 HC0
    obtain ⟨x, rfl, hxg, HM, HB, HC⟩ := hrel
    cases gk with
    | zero =>
      obtain rfl : x = 4 := by omega
      have HMB := Aside0.mk (show mark s = brk s from HM.out.symm)
      clear hxg
      go_wp2_with fail
      refine (Tryd.strings_HasPrefix s ⟨#[91]⟩ _).mono ?_
      rintro e w5 ⟨rfl, rfl⟩
      cases h91 : Lib.hasPrefix s.data.toList (⟨#[91]⟩ : ByteArray).data.toList
      · have HE := Aside0.mk (show mark s = 0 by
          rw [HMB.out]; unfold brk
          rw [if_neg (fun h => by
            have := (pre_one s 91).2 ⟨h.1, UInt8.toNat_inj.1 h.2⟩
            unfold pre at this; rw [h91] at this; cases this)])
        clear h91
        go_wp2
        go_ret
        exact ⟨ret_unp0 s HE.out, HB.out⟩
      · have h1 := (pre_one s 91).1 h91
        have hz1 : 0 < s.size := h1.1
        have H91 := Aside0.mk (show (byt s 0).toNat = 91 by rw [h1.2]; rfl)
        clear h91 h1
        have hsz1 : (s.extract 1 s.size).size = s.size - 1 := by rw [ByteArray.size_extract]; omega
        have HI := Aside0.mk (fun W => indexAny_calls (s.extract 1 s.size) (by omega) W)
        have hib := iany_bound (s.extract 1 s.size)
        rw [hsz1] at hib
        have HE := Aside0.mk (show mark s = if 0 ≤ iany (s.extract 1 s.size) ∧ (byt s (1 + (iany (s.extract 1 s.size)).toNat)).toNat = 93 then iany (s.extract 1 s.size) + 2 else 0 by
          rw [HMB.out]; unfold brk; rw [if_pos ⟨hz1, H91.out⟩])
        clear hsz1
        generalize iany (s.extract 1 s.size) = i at HI hib HE
        go_wp2_with fail
        refine (HI.out _).mono ?_
        rintro e w2 ⟨rfl, hb⟩
        have HB2 := Aside0.mk (below_step HB.out hb)
        clear hb HB HI
        by_cases hi : 0 ≤ i
        · obtain ⟨j, rfl⟩ : ∃ j : Nat, i = (j : Int) := ⟨i.toNat, by omega⟩
          have HBJ := Aside0.mk (byt_at s (1 + j) (by omega))
          simp only [Int.toNat_natCast] at HE
          have hj : 1 + j < s.size := by omega
          by_cases h93 : (s[1 + j].toNat : Int) = 93
          · have HE3 := Aside0.mk (show mark s = ((j + 2 : Nat) : Int) by rw [HE.out, if_pos ⟨by omega, by rw [HBJ.out]; omega⟩]; omega)
            go_wp2
            go_ret
            exact ⟨ret_unp s (j + 2) HE3.out, HB2.out⟩
          · have HE3 := Aside0.mk (show mark s = 0 by rw [HE.out, if_neg (fun h => h93 (by have h5 := h.2; rw [HBJ.out] at h5; omega))])
            go_wp2
            go_ret
            exact ⟨ret_unp0 s HE3.out, HB2.out⟩
        · have HE2 := Aside0.mk (show mark s = 0 by rw [HE.out, if_neg (fun h => hi h.1)])
          go_wp2
          go_ret
          exact ⟨ret_unp0 s HE2.out, HB2.out⟩
    | succ g =>
      have h0 := HC.out x (by omega)
      have hx4 : x < 4 := by omega
      have hp2 := wd_size x
      have HMN := Aside0.mk (show fit (wd x) s = -1 → mkf s g (x + 1) = mark s from fun h => by
        rw [← HM.out]
        show _ = (if 0 ≤ fit (wd x) s then _ else _)
        rw [h]; rfl)
      have HMY := Aside0.mk (show 0 ≤ fit (wd x) s → mark s = fit (wd x) s from fun h => by
        rw [← HM.out]
        show (if 0 ≤ fit (wd x) s then _ else _) = _
        rw [if_pos h])
      have HFB := Aside0.mk (fit_bound (wd x) s).2
      rw [HF.out (wd x)] at HMN HMY HFB
      generalize wd x = p at *
      go_wp2_with fail
      refine (cutPrefix_calls L p _).mono ?_
      rintro e w2 ⟨⟨r, rfl, hr⟩, rfl⟩
      cases hp : pre L p
      · rw [hp] at HMN
        have HM2 := Aside0.mk (HMN.out rfl)
        clear hp hr
        go_wp2
        go_roundg g
        case measure => omega
        case rel => exact ⟨x + 1, by go_num, by omega, HM2, HB, HC⟩
      · rw [if_pos hp, ← hr hp] at HMN HMY HFB
        have hrs : r.size ≤ s.size := by
          rw [hr hp, ByteArray.size_extract]; have := HLS.out; omega
        clear hp hr
        go_wp2_with fail
        refine (Tryd.strings_HasPrefix r ⟨#[58]⟩ _).mono ?_
        rintro e w5 ⟨rfl, rfl⟩
        cases h58 : Lib.hasPrefix r.data.toList (⟨#[58]⟩ : ByteArray).data.toList
        · have HC58 := Aside0.mk (show ¬ pre r ⟨#[58]⟩ = true by unfold pre; rw [h58]; exact Bool.false_ne_true)
          clear h58
          go_wp2_with fail
          go_loopg [8] r.size (fun gg v wx => ∃ n : Nat, v = .int .i64 n ∧ 1 ≤ n ∧ (n ≤ r.size ∨ n = 1) ∧ r.size ≤ n + gg ∧ Aside0 (dn r gg n = ndd r) ∧ wx = w5)
          case atStart => exact ⟨1, rfl, by omega, by omega, by omega, ⟨rfl⟩, rfl⟩
          case round =>
            obtain ⟨n, rfl, hn1, hn2, hng, HDN, rfl⟩ := hrel
            cases gk with
            | zero =>
              have hnl : ¬ (n : Int) < (r.size : Int) := by omega
              have HD := Aside0.mk (show ndd r = n by rw [← HDN.out]; rfl)
              go_wp2_with fail
              refine (Tryd.strings_HasPrefix r ⟨#[91]⟩ _).mono ?_
              rintro e w5 ⟨rfl, rfl⟩
              cases h91 : Lib.hasPrefix r.data.toList (⟨#[91]⟩ : ByteArray).data.toList
              · have H91 := Aside0.mk (show ¬ pre r ⟨#[91]⟩ = true by unfold pre; rw [h91]; exact Bool.false_ne_true)
                clear h91
                have FN := Aside0.mk (show fitU r p.size = -1 by
                  unfold fitU
                  rw [if_neg HC58.out, if_neg (fun h => H91.out h.1)])
                have HM2 := Aside0.mk (HMN.out FN.out)
                go_wp2
                go_roundg g
                case measure => omega
                case rel => exact ⟨x + 1, by go_num, by omega, HM2, HB, HC⟩
              · have H91 := Aside0.mk (show pre r ⟨#[91]⟩ = true by unfold pre; exact h91)
                have hr0 : 1 ≤ r.size := ((pre_one r 91).1 H91.out).1
                clear h91
                by_cases h2 : 2 ≤ n
                · by_cases h4 : n ≤ 4
                  · have hnr : n ≤ r.size := by omega
                    have HPX := Aside0.mk (show tailOk r = pre (r.extract n r.size) ⟨#[93, 58]⟩ by unfold tailOk; rw [HD.out])
                    go_wp2_with fail
                    refine (Tryd.strings_HasPrefix _ _ _).mono ?_
                    rintro e w6 ⟨rfl, rfl⟩
                    cases hp : Lib.hasPrefix (r.extract n r.size).data.toList (⟨#[93, 58]⟩ : ByteArray).data.toList
                    · have HP := Aside0.mk hp
                      clear hp
                      have FN := Aside0.mk (show fitU r p.size = -1 by
                        unfold fitU
                        rw [if_neg HC58.out, if_neg (fun h => by have h5 := h.2.2.2; rw [HPX.out] at h5; unfold pre at h5; rw [HP.out] at h5; cases h5)])
                      have HM2 := Aside0.mk (HMN.out FN.out)
                      go_wp2
                      go_roundg g
                      case measure => omega
                      case rel => exact ⟨x + 1, by go_num, by omega, HM2, HB, HC⟩
                    · have FN := Aside0.mk (show fitU r p.size = (p.size : Int) + n + 2 by
                        unfold fitU
                        rw [if_neg HC58.out, if_pos ⟨H91.out, by rw [HD.out]; omega, by rw [HD.out]; omega, by rw [HPX.out]; exact hp⟩, HD.out])
                      have HMQ := Aside0.mk (HMY.out (by rw [FN.out]; omega))
                      have hbd := (HFB.out (by rw [FN.out]; omega))
                      rw [FN.out] at HMQ hbd
                      clear hp
                      have hbd2 : p.size + n + 2 ≤ s.size := by omega
                      go_wp2
                      go_ret
                      exact ⟨ret_unp s (p.size + n + 2) (by rw [HMQ.out]; omega), HB.out⟩
                  · have FN := Aside0.mk (show fitU r p.size = -1 by
                      unfold fitU
                      rw [if_neg HC58.out, if_neg (fun h => by have h5 := h.2.2.1; rw [HD.out] at h5; omega)])
                    have HM2 := Aside0.mk (HMN.out FN.out)
                    go_wp2
                    go_roundg g
                    case measure => omega
                    case rel => exact ⟨x + 1, by go_num, by omega, HM2, HB, HC⟩
                · have FN := Aside0.mk (show fitU r p.size = -1 by
                    unfold fitU
                    rw [if_neg HC58.out, if_neg (fun h => by have h5 := h.2.1; rw [HD.out] at h5; omega)])
                  have HM2 := Aside0.mk (HMN.out FN.out)
                  go_wp2
                  go_roundg g
                  case measure => omega
                  case rel => exact ⟨x + 1, by go_num, by omega, HM2, HB, HC⟩
            | succ gg =>
              by_cases hnl : n < r.size
              · have HBN := Aside0.mk (byt_of r n hnl)
                have HDS := Aside0.mk (show dn r (gg + 1) n = if n < r.size ∧ dgt (byt r n) = true then dn r gg (n + 1) else n from rfl)
                go_wp2_with fail
                refine (isDigit_calls _ _).mono ?_
                rintro e w5 ⟨rfl, rfl⟩
                cases hdg : dgt (r[n])
                · have HDG := Aside0.mk hdg
                  clear hdg
                  have HD := Aside0.mk (show ndd r = n by rw [← HDN.out, HDS.out, if_neg (fun h => by have h5 := h.2; rw [HBN.out] at h5; have h6 := HDG.out; rw [show r[n] = r.data[n] from rfl] at h6; rw [h6] at h5; cases h5)])
                  go_wp2_with fail
                  refine (Tryd.strings_HasPrefix r ⟨#[91]⟩ _).mono ?_
                  rintro e w5 ⟨rfl, rfl⟩
                  cases h91 : Lib.hasPrefix r.data.toList (⟨#[91]⟩ : ByteArray).data.toList
                  · have H91 := Aside0.mk (show ¬ pre r ⟨#[91]⟩ = true by unfold pre; rw [h91]; exact Bool.false_ne_true)
                    clear h91
                    have FN := Aside0.mk (show fitU r p.size = -1 by
                      unfold fitU
                      rw [if_neg HC58.out, if_neg (fun h => H91.out h.1)])
                    have HM2 := Aside0.mk (HMN.out FN.out)
                    go_wp2
                    go_roundg g
                    case measure => omega
                    case rel => exact ⟨x + 1, by go_num, by omega, HM2, HB, HC⟩
                  · have H91 := Aside0.mk (show pre r ⟨#[91]⟩ = true by unfold pre; exact h91)
                    have hr0 : 1 ≤ r.size := ((pre_one r 91).1 H91.out).1
                    clear h91
                    by_cases h2 : 2 ≤ n
                    · by_cases h4 : n ≤ 4
                      · have hnr : n ≤ r.size := by omega
                        have HPX := Aside0.mk (show tailOk r = pre (r.extract n r.size) ⟨#[93, 58]⟩ by unfold tailOk; rw [HD.out])
                        go_wp2_with fail
                        refine (Tryd.strings_HasPrefix _ _ _).mono ?_
                        rintro e w6 ⟨rfl, rfl⟩
                        cases hp : Lib.hasPrefix (r.extract n r.size).data.toList (⟨#[93, 58]⟩ : ByteArray).data.toList
                        · have HP := Aside0.mk hp
                          clear hp
                          have FN := Aside0.mk (show fitU r p.size = -1 by
                            unfold fitU
                            rw [if_neg HC58.out, if_neg (fun h => by have h5 := h.2.2.2; rw [HPX.out] at h5; unfold pre at h5; rw [HP.out] at h5; cases h5)])
                          have HM2 := Aside0.mk (HMN.out FN.out)
                          go_wp2
                          go_roundg g
                          case measure => omega
                          case rel => exact ⟨x + 1, by go_num, by omega, HM2, HB, HC⟩
                        · have FN := Aside0.mk (show fitU r p.size = (p.size : Int) + n + 2 by
                            unfold fitU
                            rw [if_neg HC58.out, if_pos ⟨H91.out, by rw [HD.out]; omega, by rw [HD.out]; omega, by rw [HPX.out]; exact hp⟩, HD.out])
                          have HMQ := Aside0.mk (HMY.out (by rw [FN.out]; omega))
                          have hbd := (HFB.out (by rw [FN.out]; omega))
                          rw [FN.out] at HMQ hbd
                          clear hp
                          have hbd2 : p.size + n + 2 ≤ s.size := by omega
                          go_wp2
                          go_ret
                          exact ⟨ret_unp s (p.size + n + 2) (by rw [HMQ.out]; omega), HB.out⟩
                      · have FN := Aside0.mk (show fitU r p.size = -1 by
                          unfold fitU
                          rw [if_neg HC58.out, if_neg (fun h => by have h5 := h.2.2.1; rw [HD.out] at h5; omega)])
                        have HM2 := Aside0.mk (HMN.out FN.out)
                        go_wp2
                        go_roundg g
                        case measure => omega
                        case rel => exact ⟨x + 1, by go_num, by omega, HM2, HB, HC⟩
                    · have FN := Aside0.mk (show fitU r p.size = -1 by
                        unfold fitU
                        rw [if_neg HC58.out, if_neg (fun h => by have h5 := h.2.1; rw [HD.out] at h5; omega)])
                      have HM2 := Aside0.mk (HMN.out FN.out)
                      go_wp2
                      go_roundg g
                      case measure => omega
                      case rel => exact ⟨x + 1, by go_num, by omega, HM2, HB, HC⟩
                · have HDG := Aside0.mk (show dn r gg (n + 1) = ndd r by
                    rw [← HDN.out, HDS.out, if_pos ⟨hnl, by rw [HBN.out]; exact hdg⟩])
                  clear hdg
                  go_wp2
                  go_roundg gg
                  case measure => omega
                  case rel => exact ⟨n + 1, by go_num, by omega, by omega, by omega, HDG, rfl⟩
              · have HDS := Aside0.mk (show dn r (gg + 1) n = n by
                  show (if n < r.size ∧ _ then _ else _) = n
                  rw [if_neg (fun h => hnl h.1)])
                have HD := Aside0.mk (show ndd r = n by rw [← HDN.out, HDS.out])
                go_wp2_with fail
                refine (Tryd.strings_HasPrefix r ⟨#[91]⟩ _).mono ?_
                rintro e w5 ⟨rfl, rfl⟩
                cases h91 : Lib.hasPrefix r.data.toList (⟨#[91]⟩ : ByteArray).data.toList
                · have H91 := Aside0.mk (show ¬ pre r ⟨#[91]⟩ = true by unfold pre; rw [h91]; exact Bool.false_ne_true)
                  clear h91
                  have FN := Aside0.mk (show fitU r p.size = -1 by
                    unfold fitU
                    rw [if_neg HC58.out, if_neg (fun h => H91.out h.1)])
                  have HM2 := Aside0.mk (HMN.out FN.out)
                  go_wp2
                  go_roundg g
                  case measure => omega
                  case rel => exact ⟨x + 1, by go_num, by omega, HM2, HB, HC⟩
                · have H91 := Aside0.mk (show pre r ⟨#[91]⟩ = true by unfold pre; exact h91)
                  have hr0 : 1 ≤ r.size := ((pre_one r 91).1 H91.out).1
                  clear h91
                  by_cases h2 : 2 ≤ n
                  · by_cases h4 : n ≤ 4
                    · have hnr : n ≤ r.size := by omega
                      have HPX := Aside0.mk (show tailOk r = pre (r.extract n r.size) ⟨#[93, 58]⟩ by unfold tailOk; rw [HD.out])
                      go_wp2_with fail
                      refine (Tryd.strings_HasPrefix _ _ _).mono ?_
                      rintro e w6 ⟨rfl, rfl⟩
                      cases hp : Lib.hasPrefix (r.extract n r.size).data.toList (⟨#[93, 58]⟩ : ByteArray).data.toList
                      · have HP := Aside0.mk hp
                        clear hp
                        have FN := Aside0.mk (show fitU r p.size = -1 by
                          unfold fitU
                          rw [if_neg HC58.out, if_neg (fun h => by have h5 := h.2.2.2; rw [HPX.out] at h5; unfold pre at h5; rw [HP.out] at h5; cases h5)])
                        have HM2 := Aside0.mk (HMN.out FN.out)
                        go_wp2
                        go_roundg g
                        case measure => omega
                        case rel => exact ⟨x + 1, by go_num, by omega, HM2, HB, HC⟩
                      · have FN := Aside0.mk (show fitU r p.size = (p.size : Int) + n + 2 by
                          unfold fitU
                          rw [if_neg HC58.out, if_pos ⟨H91.out, by rw [HD.out]; omega, by rw [HD.out]; omega, by rw [HPX.out]; exact hp⟩, HD.out])
                        have HMQ := Aside0.mk (HMY.out (by rw [FN.out]; omega))
                        have hbd := (HFB.out (by rw [FN.out]; omega))
                        rw [FN.out] at HMQ hbd
                        clear hp
                        have hbd2 : p.size + n + 2 ≤ s.size := by omega
                        go_wp2
                        go_ret
                        exact ⟨ret_unp s (p.size + n + 2) (by rw [HMQ.out]; omega), HB.out⟩
                    · have FN := Aside0.mk (show fitU r p.size = -1 by
                        unfold fitU
                        rw [if_neg HC58.out, if_neg (fun h => by have h5 := h.2.2.1; rw [HD.out] at h5; omega)])
                      have HM2 := Aside0.mk (HMN.out FN.out)
                      go_wp2
                      go_roundg g
                      case measure => omega
                      case rel => exact ⟨x + 1, by go_num, by omega, HM2, HB, HC⟩
                  · have FN := Aside0.mk (show fitU r p.size = -1 by
                      unfold fitU
                      rw [if_neg HC58.out, if_neg (fun h => by have h5 := h.2.1; rw [HD.out] at h5; omega)])
                    have HM2 := Aside0.mk (HMN.out FN.out)
                    go_wp2
                    go_roundg g
                    case measure => omega
                    case rel => exact ⟨x + 1, by go_num, by omega, HM2, HB, HC⟩
        · have FN := Aside0.mk (show fitU r p.size = (p.size : Int) + 1 by
            unfold fitU
            rw [if_pos (show pre r ⟨#[58]⟩ = true by unfold pre; exact h58)])
          have HMQ := Aside0.mk (HMY.out (by rw [FN.out]; omega))
          have hbd := (HFB.out (by rw [FN.out]; omega))
          rw [FN.out] at HMQ hbd
          clear h58
          have hbd2 : p.size + 1 ≤ s.size := by omega
          go_wp2
          go_ret
          exact ⟨ret_unp s (p.size + 1) (by rw [HMQ.out]; omega), HB.out⟩
end Go.Proofs.YtfnmcpgngnlodaaDoor.Cleans
