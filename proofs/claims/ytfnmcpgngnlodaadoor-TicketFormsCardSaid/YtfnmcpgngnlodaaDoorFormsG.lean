/- What the printed functions over names, options and forms come to, in plain words: isNm, optErr, formErr. Condition: no string is longer than Go lets it be. -/
import Derived.Test.YtfnmcpgngnlodaaDoorFormsE
import Derived.Test.YtfnmcpgngnlodaaDoorFormsO
import Derived.Test.YtfnmcpgngnlodaaDoorFormsF
namespace Go.Proofs.YtfnmcpgngnlodaaDoor.Forms
open Go.RowKit Go.Proofs.YtfnmcpgngnlodaaDoorW.PrintWords Go.Proofs.YtfnmcpgngnlodaaDoorW.PrintLast Go.Proofs.YtfnmcpgngnlodaaDoorW.PrintMore
open Go.Proofs.YtfnmcpgngnlodaaDoor.PTicketForms

/-! ### names -/
def Low (c : Int) : Prop := 97 ≤ c ∧ c ≤ 122
def NB (c : Int) : Prop := Low c ∨ (48 ≤ c ∧ c ≤ 57) ∨ c = 95
open Classical in
noncomputable def isNm (s : ByteArray) : Bool := decide (1 ≤ s.size ∧ s.size ≤ 20 ∧ Low (bt s 0) ∧ ∀ j : Nat, j < s.size → NB (bt s j))
theorem isNm_true {s : ByteArray} (h1 : 1 ≤ s.size) (h2 : s.size ≤ 20) (h3 : Low (bt s 0)) (h4 : ∀ j : Nat, j < s.size → NB (bt s j)) : isNm s = true := by simp [isNm, h1, h2, h3]; exact h4
theorem isNm_false {s : ByteArray} (h : ¬ (1 ≤ s.size ∧ s.size ≤ 20 ∧ Low (bt s 0) ∧ ∀ j : Nat, j < s.size → NB (bt s j))) : isNm s = false := by simp only [isNm, decide_eq_false_iff_not]; exact h
theorem isNm_size {s : ByteArray} (h : isNm s = true) : s.size ≤ 20 := by simp only [isNm, decide_eq_true_eq] at h; exact h.2.1

theorem isDigit_f (c : Int) : portref1_isDigit.f c = some (decide (48 ≤ c ∧ c ≤ 57)) := by
  unfold portref1_isDigit.f
  by_cases h : c ≥ 48
  · rw [if_pos h]; congr 1; simp; omega
  · rw [if_neg h]; congr 1; simp; omega

theorem isName_loop (s : ByteArray) (hs : s.size ≤ 9223372036854775807) (d : Nat) : ∀ x : Int, 0 ≤ x → x ≤ s.size → (s.size : Int) - x = d → (∀ j : Nat, (j : Int) < x → NB (bt s j)) →
    ∃ r, Ev (fun k => portref1_isName.l0 k s x) r ∧ (r = true ↔ ∀ j : Nat, j < s.size → NB (bt s j)) := by
  induction d with
  | zero =>
    intro x h0 h1 hd hj
    refine ⟨true, Ev.step (fun k => by simp only [portref1_isName.l0]; rw [if_neg (by omega)]) (Ev.now true), ?_⟩
    simp only [true_iff]
    exact fun j hjs => hj j (by omega)
  | succ d ih =>
    intro x h0 h1 hd hj
    have hlt : x < (s.size : Int) := by omega
    by_cases hb : NB (bt s x)
    · obtain ⟨r, hr, hiff⟩ := ih (x + 1) (by omega) (by omega) (by omega) (fun j hjx => by
        rcases Int.lt_or_eq_of_le (show (j : Int) ≤ x by omega) with h | h
        · exact hj j h
        · rw [h]; exact hb)
      refine ⟨r, Ev.step (fun k => ?_) hr, hiff⟩
      simp only [portref1_isName.l0]
      rw [if_pos hlt, if_pos h0, wrap1 h0 hlt hs, isDigit_f]
      unfold NB Low at hb
      by_cases c1 : bt s x ≥ 97
      · rw [if_pos c1]
        by_cases c2 : bt s x ≤ 122
        · rw [if_pos c2]
        · exact absurd hb (by omega)
      · rw [if_neg c1]
        by_cases c2 : 48 ≤ bt s x ∧ bt s x ≤ 57
        · simp [c2]
        · have : bt s x = 95 := by omega
          simp [this]
    · refine ⟨false, Ev.step (fun k => ?_) (Ev.now false), ?_⟩
      · simp only [portref1_isName.l0]
        rw [if_pos hlt, if_pos h0, isDigit_f]
        unfold NB Low at hb
        have c2 : ¬ (48 ≤ bt s x ∧ bt s x ≤ 57) := by omega
        have c3 : ¬ bt s x = 95 := by omega
        by_cases c1 : bt s x ≥ 97
        · rw [if_pos c1, if_neg (by omega)]; simp [c2, c3]
        · rw [if_neg c1]; simp [c2, c3]
      · simp only [Bool.false_eq_true, false_iff]
        intro hall
        have := hall x.toNat (by omega)
        rw [Int.toNat_of_nonneg h0] at this
        exact hb this

theorem isName_ev (s : ByteArray) (hs : s.size ≤ 9223372036854775807) : Ev (fun k => portref1_isName.f k s) (isNm s) := by
  by_cases h1 : (s.size : Int) < 1
  · rw [isNm_false (by omega)]
    exact Ev.congr (fun k => by unfold portref1_isName.f; rw [if_pos h1]) (Ev.step (fun k => by simp only [portref1_isName.j0, if_true]) (Ev.now false))
  by_cases h2 : (s.size : Int) > 20
  · rw [isNm_false (by omega)]
    exact Ev.congr (fun k => by unfold portref1_isName.f; rw [if_neg h1, if_pos h2]) (Ev.step (fun k => by simp only [portref1_isName.j0, if_true]) (Ev.now false))
  by_cases h3 : bt s 0 < 97
  · rw [isNm_false (by unfold Low; omega)]
    exact Ev.congr (fun k => by unfold portref1_isName.f; rw [if_neg h1, if_neg h2, if_pos (by omega), if_pos h3]) (Ev.step (fun k => by simp only [portref1_isName.j0, if_true]) (Ev.now false))
  by_cases h4 : bt s 0 > 122
  · rw [isNm_false (by unfold Low; omega)]
    exact Ev.congr (fun k => by unfold portref1_isName.f; rw [if_neg h1, if_neg h2, if_pos (by omega), if_neg h3]) (Ev.step (fun k => by simp only [portref1_isName.j0]; rw [if_pos (decide_eq_true h4)]) (Ev.now false))
  obtain ⟨r, hr, hiff⟩ := isName_loop s hs s.size 0 (by omega) (by omega) (by omega) (fun j hj => by omega)
  have hv : isNm s = r := by
    cases r with
    | true => exact isNm_true (by omega) (by omega) (by unfold Low; omega) (hiff.1 rfl)
    | false => exact isNm_false fun h => by have := hiff.2 h.2.2.2; cases this
  rw [hv]
  exact Ev.congr (fun k => by unfold portref1_isName.f; rw [if_neg h1, if_neg h2, if_pos (by omega), if_neg h3]) (Ev.step (fun k => by simp only [portref1_isName.j0]; rw [if_neg (by simpa using h4)]) hr)

theorem size_zero {s : ByteArray} : s.toList = [] ↔ s.size = 0 := by
  rw [ByteArray.toList_eq, ← data_length, List.length_eq_zero_iff]

theorem name_loop (s : ByteArray) (hs : s.size ≤ 9223372036854775807) (d : Nat) : ∀ x : Int, 0 ≤ x → x ≤ s.size → (s.size : Int) - x = d → (0 < x → Low (bt s 0)) → (∀ j : Nat, (j : Int) < x → NB (bt s j)) →
    Ev (fun k => ticket_name.l0 k s s.size x) (isNm s) := by
  induction d with
  | zero =>
    intro x h0 h1 hd hl hj
    by_cases hz : s.size = 0
    · rw [isNm_false (by omega)]
      exact Ev.step (fun k => by simp only [ticket_name.l0]; rw [if_neg (by omega), if_pos (size_zero.2 hz)]) (Ev.now false)
    · have hv : isNm s = decide ((s.size : Int) ≤ 20) := by
        by_cases h20 : (s.size : Int) ≤ 20
        · rw [isNm_true (by omega) (by omega) (hl (by omega)) (fun j hjs => hj j (by omega))]; simp [h20]
        · rw [isNm_false (by omega)]; simp; omega
      rw [hv]
      exact Ev.step (fun k => by simp only [ticket_name.l0]; rw [if_neg (by omega), if_neg (fun c => hz (size_zero.1 c))]) (Ev.now _)
  | succ d ih =>
    intro x h0 h1 hd hl hj
    have hlt : x < (s.size : Int) := by omega
    by_cases hb : NB (bt s x) ∧ (x = 0 → Low (bt s 0))
    · have hr := ih (x + 1) (by omega) (by omega) (by omega) (fun _ => by
        by_cases hx : x = 0
        · exact hb.2 hx
        · exact hl (by omega)) (fun j hjx => by
        rcases Int.lt_or_eq_of_le (show (j : Int) ≤ x by omega) with h | h
        · exact hj j h
        · rw [h]; exact hb.1)
      refine Ev.step (fun k => ?_) hr
      simp only [ticket_name.l0]
      rw [if_pos hlt, if_pos h0, if_pos hlt, wrap1 h0 hlt hs]
      obtain ⟨hb, hx0⟩ := hb
      unfold NB Low at hb
      by_cases c1 : bt s x ≥ 97 ∧ bt s x ≤ 122
      · rw [if_pos c1.1, if_pos c1.2]
      · have hx : ¬ x = 0 := fun hx => by have := hx0 hx; rw [hx] at c1; unfold Low at this; omega
        by_cases c2 : bt s x ≥ 97
        · exact absurd hb (by omega)
        · rw [if_neg c2, if_neg hx]
          by_cases c3 : bt s x ≥ 48
          · rw [if_pos c3]
            by_cases c4 : bt s x ≤ 57
            · rw [if_pos c4]
            · rw [if_neg c4, if_pos (by omega)]
          · exact absurd hb (by omega)
    · rw [isNm_false (s := s) (fun h => hb ⟨by
        have := h.2.2.2 x.toNat (by omega)
        rwa [Int.toNat_of_nonneg h0] at this, fun _ => h.2.2.1⟩)]
      refine Ev.step (fun k => ?_) (Ev.now false)
      simp only [ticket_name.l0]
      rw [if_pos hlt, if_pos h0, if_pos hlt]
      by_cases hx : x = 0
      · subst hx
        have hb' : ¬ Low (bt s 0) := fun h => hb ⟨.inl h, fun _ => h⟩
        unfold Low at hb'
        by_cases c1 : bt s 0 ≥ 97
        · rw [if_pos c1, if_neg (by omega), if_pos rfl]
        · rw [if_neg c1, if_pos rfl]
      · have hb' : ¬ NB (bt s x) := fun h => hb ⟨h, fun e => absurd e hx⟩
        unfold NB Low at hb'
        by_cases c1 : bt s x ≥ 97
        · rw [if_pos c1, if_neg (by omega), if_neg hx, if_pos (by omega), if_neg (by omega), if_neg (by omega)]
        · rw [if_neg c1, if_neg hx]
          by_cases c3 : bt s x ≥ 48
          · rw [if_pos c3, if_neg (by omega), if_neg (by omega)]
          · rw [if_neg c3, if_neg (by omega)]
theorem name_ev (s : ByteArray) (hs : s.size ≤ 9223372036854775807) : Ev (fun k => ticket_name.f k s) (isNm s) :=
  Ev.congr (fun k => by unfold ticket_name.f; rfl) (name_loop s hs s.size 0 (by omega) (by omega) (by omega) (fun h => by omega) (fun j hj => by omega))

/-! ### is a string in a list? -/
open Classical in
noncomputable def inL (l : List ByteArray) (s : ByteArray) : Bool := decide (s ∈ l)
theorem rdOf_getElem (l : List ByteArray) (j : Nat) (h : j < l.length) : rdOf ByteArray.empty l (j : Int) = l[j] := by
  unfold rdOf; simp [h]
theorem has_loop (l : List ByteArray) (s : ByteArray) (hl : l.length ≤ 9223372036854775807) (d : Nat) : ∀ x : Int, 0 ≤ x → x ≤ l.length → (l.length : Int) - x = d → (∀ j : Nat, (j : Int) < x → rdOf ByteArray.empty l j ≠ s) →
    Ev (fun k => portref1_has.l0 k s l l.length x) (inL l s) := by
  induction d with
  | zero =>
    intro x h0 h1 hd hj
    have hv : inL l s = false := by
      simp only [inL, decide_eq_false_iff_not]
      intro hm
      obtain ⟨j, hjl, rfl⟩ := List.mem_iff_getElem.1 hm
      exact hj j (by omega) (rdOf_getElem l j hjl)
    rw [hv]
    exact Ev.step (fun k => by simp only [portref1_has.l0]; rw [if_neg (by omega)]) (Ev.now false)
  | succ d ih =>
    intro x h0 h1 hd hj
    have hlt : x < (l.length : Int) := by omega
    by_cases he : rdOf ByteArray.empty l x = s
    · have hv : inL l s = true := by
        simp only [inL, decide_eq_true_eq]
        rw [← he, ← Int.toNat_of_nonneg h0, rdOf_getElem l x.toNat (by omega)]
        exact List.getElem_mem _
      rw [hv]
      exact Ev.step (fun k => by simp only [portref1_has.l0]; rw [if_pos hlt, if_pos h0, if_pos hlt, if_pos (by rw [he])]) (Ev.now true)
    · refine Ev.step (fun k => by simp only [portref1_has.l0]; rw [if_pos hlt, if_pos h0, if_pos hlt, if_neg (fun e => he (bytes_eq e)), wrap1 h0 hlt hl]) (ih (x + 1) (by omega) (by omega) (by omega) (fun j hjx => ?_))
      rcases Int.lt_or_eq_of_le (show (j : Int) ≤ x by omega) with h | h
      · exact hj j h
      · rw [h]; exact he
theorem has_ev (l : List ByteArray) (s : ByteArray) (hl : l.length ≤ 9223372036854775807) : Ev (fun k => portref1_has.f k l s) (inL l s) :=
  Ev.congr (fun k => by unfold portref1_has.f; rfl) (has_loop l s hl l.length 0 (by omega) (by omega) (by omega) (fun j hj => by omega))

theorem index_loop (l : List ByteArray) (s : ByteArray) (hl : l.length ≤ 9223372036854775807) (d : Nat) : ∀ x : Int, 0 ≤ x → x ≤ l.length → (l.length : Int) - x = d → (∀ j : Nat, (j : Int) < x → rdOf ByteArray.empty l j ≠ s) →
    ∃ r, Ev (fun k => slices_Index_string_string.l0 k l s l.length x) r ∧ decide (r ≥ 0) = inL l s := by
  induction d with
  | zero =>
    intro x h0 h1 hd hj
    have hv : inL l s = false := by
      simp only [inL, decide_eq_false_iff_not]
      intro hm
      obtain ⟨j, hjl, rfl⟩ := List.mem_iff_getElem.1 hm
      exact hj j (by omega) (rdOf_getElem l j hjl)
    rw [hv]
    exact ⟨-1, Ev.step (fun k => by simp only [slices_Index_string_string.l0]; rw [if_neg (by omega)]) (Ev.now _), by decide⟩
  | succ d ih =>
    intro x h0 h1 hd hj
    have hlt : x < (l.length : Int) := by omega
    by_cases he : rdOf ByteArray.empty l x = s
    · have hv : inL l s = true := by
        simp only [inL, decide_eq_true_eq]
        rw [← he, ← Int.toNat_of_nonneg h0, rdOf_getElem l x.toNat (by omega)]
        exact List.getElem_mem _
      rw [hv]
      exact ⟨x, Ev.step (fun k => by simp only [slices_Index_string_string.l0]; rw [if_pos hlt, if_pos h0, if_pos hlt, if_pos (by rw [he])]) (Ev.now _), by simp [h0]⟩
    · obtain ⟨r, hr, hv⟩ := ih (x + 1) (by omega) (by omega) (by omega) (fun j hjx => by
        rcases Int.lt_or_eq_of_le (show (j : Int) ≤ x by omega) with h | h
        · exact hj j h
        · rw [h]; exact he)
      exact ⟨r, Ev.step (fun k => by simp only [slices_Index_string_string.l0]; rw [if_pos hlt, if_pos h0, if_pos hlt, if_neg (fun e => he (bytes_eq e.symm)), wrap1 h0 hlt hl]) hr, hv⟩
theorem contains_ev (l : List ByteArray) (s : ByteArray) (hl : l.length ≤ 9223372036854775807) : Ev (fun k => slices_Contains_string_string.f k l s) (inL l s) := by
  obtain ⟨r, hr, hv⟩ := index_loop l s hl l.length 0 (by omega) (by omega) (by omega) (fun j hj => by omega)
  rw [← hv]
  refine Ev.congr (fun k => by unfold slices_Contains_string_string.f slices_Index_string_string.f; rfl) (Ev.bind hr (Ev.now _))

/-! ### options -/
noncomputable def optErr (l : List ByteArray) : Nat → Nat → Int
  | 0, _ => 0
  | d + 1, i => if isNm (rdOf ByteArray.empty l i) = true then (if inL (l.take i) (rdOf ByteArray.empty l i) = true then 6 else optErr l d (i + 1)) else 3
noncomputable def optsErr (kind : Int) (l : List ByteArray) : Int :=
  if ((kind == 4) != decide ((l.length : Int) > 0)) = true then 1 else if (l.length : Int) > 20 then 4 else optErr l l.length 0
def Small (s : ByteArray) : Prop := s.size ≤ 9223372036854775807
theorem small_rd {l : List ByteArray} (h : ∀ s ∈ l, Small s) (x : Int) : Small (rdOf ByteArray.empty l x) := by
  unfold rdOf
  rw [List.getD_eq_getElem?_getD]
  rcases hx : l[x.toNat]? with _ | s
  · simp [Small]
  · exact h s (List.mem_of_getElem? hx)
theorem checkOptions_loop (l : List ByteArray) (hl : l.length ≤ 9223372036854775807) (hs : ∀ s ∈ l, Small s) (f0 : ByteArray) (f1 f3 : Int) (d : Nat) : ∀ x : Nat, l.length = x + d →
    Ev (fun k => ticket_checkOptions.l0 k l l.length x f0 f1 l f3) (optErr l d x) := by
  induction d with
  | zero =>
    intro x hd
    exact Ev.step (fun k => by simp only [ticket_checkOptions.l0]; rw [if_neg (by omega)]; rfl) (Ev.now _)
  | succ d ih =>
    intro x hd
    have hlt : (x : Int) < (l.length : Int) := by omega
    have h1 := name_ev _ (small_rd hs x)
    have h2 := contains_ev (l.take x) (rdOf ByteArray.empty l x) (by rw [List.length_take]; omega)
    have h3 := ih (x + 1) (by omega)
    have hw : wrap64 ((x : Int) + 1) = ((x + 1 : Nat) : Int) := by rw [wrap1 (by omega) hlt hl]; omega
    rw [← hw] at h3
    unfold optErr
    refine Ev.step (fun k => by simp only [ticket_checkOptions.l0]; rw [if_pos hlt, if_pos (by omega), if_pos hlt]) (Ev.bind h1 ?_)
    by_cases hn : isNm (rdOf ByteArray.empty l x) = true
    · rw [if_pos hn]
      refine Ev.congr (fun k => by rw [if_pos hn, if_pos (by omega)]) (Ev.bind (by simpa using h2) ?_)
      by_cases hi : inL (l.take x) (rdOf ByteArray.empty l x) = true
      · rw [if_pos hi]
        exact Ev.congr (fun k => by rw [if_pos hi]) (Ev.now _)
      · rw [if_neg hi]
        exact Ev.congr (fun k => by rw [if_neg hi]) h3
    · rw [if_neg hn]
      exact Ev.congr (fun k => by rw [if_neg hn]) (Ev.now _)
theorem checkOptions_ev (l : List ByteArray) (hl : l.length ≤ 9223372036854775807) (hs : ∀ s ∈ l, Small s) (f0 : ByteArray) (f1 f3 : Int) : Ev (fun k => ticket_checkOptions.f k f0 f1 l f3) (optsErr f1 l) := by
  unfold optsErr
  by_cases h1 : ((f1 == 4) != decide ((l.length : Int) > 0)) = true
  · rw [if_pos h1]
    exact Ev.congr (fun k => by unfold ticket_checkOptions.f; rw [if_pos h1]) (Ev.now _)
  · rw [if_neg h1]
    by_cases h2 : (l.length : Int) > 20
    · rw [if_pos h2]
      exact Ev.congr (fun k => by unfold ticket_checkOptions.f; rw [if_neg h1, if_pos h2]) (Ev.now _)
    · rw [if_neg h2]
      exact Ev.congr (fun k => by unfold ticket_checkOptions.f; rw [if_neg h1, if_neg h2]; rfl) (checkOptions_loop l hl hs f0 f1 f3 l.length 0 (by omega))
end Go.Proofs.YtfnmcpgngnlodaaDoor.Forms
