/- FormError and CheckForm over a form answer formErr of its fields. Condition: no string is longer than Go lets it be. -/
import Derived.Test.YtfnmcpgngnlodaaDoorFormsG
namespace Go.Proofs.YtfnmcpgngnlodaaDoor.Forms
open Go.RowKit Go.Proofs.YtfnmcpgngnlodaaDoorW.PrintWords Go.Proofs.YtfnmcpgngnlodaaDoorW.PrintLast Go.Proofs.YtfnmcpgngnlodaaDoorW.PrintMore
open Go.Proofs.YtfnmcpgngnlodaaDoor.PTicketForms
set_option linter.unusedVariables false
set_option linter.unusedSimpArgs false

/-- The strings of a field are no longer than Go lets them be. -/
def SmallF (x : S32) : Prop := Small x.f0 ∧ x.f2.length ≤ 9223372036854775807 ∧ ∀ s ∈ x.f2, Small s
theorem smallF_rd {l : List S32} (h : ∀ x ∈ l, SmallF x) (i : Int) : SmallF (rd_T32 l i) := by
  unfold rd_T32
  rw [List.getD_eq_getElem?_getD]
  rcases hx : l[i.toNat]? with _ | s
  · exact ⟨Nat.zero_le _, Nat.zero_le _, fun s hs => by simp [z32] at hs⟩
  · exact h s (List.mem_of_getElem? hx)
def inR (a lo hi : Int) : Bool := decide (lo ≤ a ∧ a ≤ hi)
noncomputable def fldErr (l : List S32) : Nat → Nat → Int
  | 0, _ => 0
  | d + 1, i =>
    if isNm (rd_T32 l i).f0 = true then
      (if 0 ≤ fidx (l.take i) (rd_T32 l i).f0 then 6
      else if inR (rd_T32 l i).f1 1 6 = true then
        (if optsErr (rd_T32 l i).f1 (rd_T32 l i).f2 ≠ 0 then optsErr (rd_T32 l i).f1 (rd_T32 l i).f2
        else if inR (rd_T32 l i).f3 0 6 = true then fldErr l d (i + 1) else 2)
      else 10)
    else 3
noncomputable def formErr (l : List S32) : Int := if (l.length : Int) > 20 then 4 else fldErr l l.length 0

theorem inRange_f (a lo hi : Int) : portref1_inRange.f a lo hi = some (inR a lo hi) := by
  unfold portref1_inRange.f inR
  by_cases h : a ≥ lo
  · rw [if_pos h]; congr 1; simp; omega
  · rw [if_neg h]; congr 1; simp; omega
theorem within_f (a lo hi : Int) : ticket_within.f a lo hi = some (inR a lo hi) := by
  unfold ticket_within.f inR
  by_cases h : a ≥ lo
  · rw [if_pos h]; congr 1; simp; omega
  · rw [if_neg h]; congr 1; simp; omega

section
variable (l : List S32) (hl : l.length ≤ 9223372036854775807)
/-- The options' loop, then the needs, then the next field. -/
theorem formError_l2 (n x16 : Int) (os : List ByteArray) (hos : os.length ≤ 9223372036854775807) (hss : ∀ s ∈ os, Small s) (L : List S32) (f0 : ByteArray) (f1 f3 rest : Int) (hrest : Ev (fun k => portref1_FormError.l0 k l n (wrap64 (x16 + 1)) L) rest) (d : Nat) : ∀ x : Nat, os.length = x + d →
    Ev (fun k => portref1_FormError.l2 k l n x16 os os.length x L f0 f1 os f3) (if optErr os d x ≠ 0 then optErr os d x else if inR f3 0 6 = true then rest else 2) := by
  induction d with
  | zero =>
    intro x hd
    rw [if_neg (by simp [optErr])]
    refine Ev.step (fun k => by simp only [portref1_FormError.l2]; rw [if_neg (by omega), inRange_f]) ?_
    by_cases h : inR f3 0 6 = true
    · rw [if_pos h]
      exact Ev.congr (fun k => by simp only [Option.bind_some]; rw [if_pos h]) hrest
    · rw [if_neg h]
      exact Ev.congr (fun k => by simp only [Option.bind_some]; rw [if_neg h]) (Ev.now _)
  | succ d ih =>
    intro x hd
    have hlt : (x : Int) < (os.length : Int) := by omega
    have h1 := isName_ev _ (small_rd hss x)
    have h2 := has_ev (os.take x) (rdOf ByteArray.empty os x) (by rw [List.length_take]; omega)
    have h3 := ih (x + 1) (by omega)
    have hw : wrap64 ((x : Int) + 1) = ((x + 1 : Nat) : Int) := by rw [wrap1 (by omega) hlt hos]; omega
    rw [← hw] at h3
    unfold optErr
    refine Ev.step (fun k => by simp only [portref1_FormError.l2]; rw [if_pos hlt, if_pos (by omega), if_pos hlt]) (Ev.bind h1 ?_)
    by_cases hn : isNm (rdOf ByteArray.empty os x) = true
    · rw [if_pos hn]
      refine Ev.congr (fun k => by rw [if_pos hn, if_pos (by omega)]) (Ev.bind (by simpa using h2) ?_)
      by_cases hi : inL (os.take x) (rdOf ByteArray.empty os x) = true
      · rw [if_pos hi, if_pos (by decide)]
        exact Ev.congr (fun k => by rw [if_pos hi]) (Ev.now _)
      · rw [if_neg hi]
        exact Ev.congr (fun k => by rw [if_neg hi]) h3
    · rw [if_neg hn, if_pos (by decide)]
      exact Ev.congr (fun k => by rw [if_neg hn]) (Ev.now _)

theorem formError_l1 (n x16 : Int) (ys : List S32) (hys : ys.length ≤ 9223372036854775807) (os : List ByteArray) (hos : os.length ≤ 9223372036854775807) (hss : ∀ s ∈ os, Small s) (L : List S32) (f0 : ByteArray) (f1 f3 rest : Int) (hrest : Ev (fun k => portref1_FormError.l0 k l n (wrap64 (x16 + 1)) L) rest)
    (d : Nat) : ∀ x : Nat, ys.length = x + d → (∀ j : Nat, j < x → (rd_T32 ys j).f0 ≠ f0) →
    Ev (fun k => portref1_FormError.l1 k l n x16 ys ys.length x L f0 f1 os f3) (if 0 ≤ fidx ys f0 then 6 else if inR f1 1 6 = true then (if optsErr f1 os ≠ 0 then optsErr f1 os else if inR f3 0 6 = true then rest else 2) else 10) := by
  induction d with
  | zero =>
    intro x hd hj
    rw [if_neg (by rw [fidx_none (fun j hjl => hj j (by omega))]; omega)]
    refine Ev.step (fun k => by simp only [portref1_FormError.l1]; rw [if_neg (by omega), inRange_f]) ?_
    by_cases h : inR f1 1 6 = true
    · rw [if_pos h]
      refine Ev.congr (fun k => by simp only [Option.bind_some]; rw [if_pos h]) ?_
      unfold optsErr
      by_cases h1 : ((f1 == 4) != decide ((os.length : Int) > 0)) = true
      · rw [if_pos h1, if_pos (by decide)]
        exact Ev.congr (fun k => by rw [if_pos h1]) (Ev.now _)
      · rw [if_neg h1]
        by_cases h2 : (os.length : Int) > 20
        · rw [if_pos h2, if_pos (by decide)]
          exact Ev.congr (fun k => by rw [if_neg h1, if_pos h2]) (Ev.now _)
        · rw [if_neg h2]
          exact Ev.congr (fun k => by rw [if_neg h1, if_neg h2]; rfl) (formError_l2 l n x16 os hos hss L f0 f1 f3 rest hrest os.length 0 (by omega))
    · rw [if_neg h]
      exact Ev.congr (fun k => by simp only [Option.bind_some]; rw [if_neg h]) (Ev.now _)
  | succ d ih =>
    intro x hd hj
    have hlt : (x : Int) < (ys.length : Int) := by omega
    by_cases he : (rd_T32 ys x).f0 = f0
    · rw [if_pos (by rw [fidx_at (by omega) hlt (fun j hjx => hj j (by omega)) he]; omega)]
      exact Ev.step (fun k => by simp only [portref1_FormError.l1]; rw [if_pos hlt, if_pos (by omega), if_pos hlt, if_pos (by rw [he])]) (Ev.now _)
    · have h3 := ih (x + 1) (by omega) (fun j hjx => by
        rcases Nat.lt_or_eq_of_le (show j ≤ x by omega) with h | h
        · exact hj j h
        · rw [h]; exact he)
      have hw : wrap64 ((x : Int) + 1) = ((x + 1 : Nat) : Int) := by rw [wrap1 (by omega) hlt hys]; omega
      rw [← hw] at h3
      exact Ev.step (fun k => by simp only [portref1_FormError.l1]; rw [if_pos hlt, if_pos (by omega), if_pos hlt, if_neg (fun e => he (bytes_eq e))]) h3

include hl in
theorem formError_l0 (hs : ∀ x ∈ l, SmallF x) (d : Nat) : ∀ x : Nat, l.length = x + d → Ev (fun k => portref1_FormError.l0 k l l.length x l) (fldErr l d x) := by
  induction d with
  | zero =>
    intro x hd
    exact Ev.step (fun k => by simp only [portref1_FormError.l0]; rw [if_neg (by omega)]; rfl) (Ev.now _)
  | succ d ih =>
    intro x hd
    have hlt : (x : Int) < (l.length : Int) := by omega
    have h3 := ih (x + 1) (by omega)
    have hw : wrap64 ((x : Int) + 1) = ((x + 1 : Nat) : Int) := by rw [wrap1 (by omega) hlt hl]; omega
    rw [← hw] at h3
    obtain ⟨s0, s1, s2⟩ := smallF_rd hs x
    unfold fldErr
    refine Ev.step (fun k => by simp only [portref1_FormError.l0]; rw [if_pos hlt, if_pos (by omega), if_pos hlt]) (Ev.bind (isName_ev _ s0) ?_)
    by_cases hn : isNm (rd_T32 l x).f0 = true
    · rw [if_pos hn]
      have h1 := formError_l1 l l.length x (l.take x) (by rw [List.length_take]; omega) (rd_T32 l x).f2 s1 s2 l (rd_T32 l x).f0 (rd_T32 l x).f1 (rd_T32 l x).f3 _ h3 (l.take x).length 0 (by omega) (fun j hj => by omega)
      exact Ev.congr (fun k => by rw [if_pos hn, if_pos (by omega)]; simp only [Option.bind_some, Int.toNat_natCast]; rfl) h1
    · rw [if_neg hn]
      exact Ev.congr (fun k => by rw [if_neg hn]) (Ev.now _)
include hl in
theorem formError_ev (hs : ∀ x ∈ l, SmallF x) : Ev (fun k => portref1_FormError.f k l) (formErr l) := by
  unfold formErr
  by_cases h : (l.length : Int) > 20
  · rw [if_pos h]
    exact Ev.congr (fun k => by unfold portref1_FormError.f; rw [if_pos h]) (Ev.now _)
  · rw [if_neg h]
    exact Ev.congr (fun k => by unfold portref1_FormError.f; rw [if_neg h]; rfl) (formError_l0 l hl hs l.length 0 (by omega))
end

theorem formError_calls (A0 : Option Addr) (c0 : Nat) (l0 : List S32) (hs : ∀ x ∈ l0, SmallF x) (w : World) (hr0 : Kd.C k32 w A0 l0.length l0) (hc0 : l0.length ≤ c0) :
    Calls Tryd.prog 7 #[.agg #[.slice A0 l0.length c0]] w fun e w' => e = .returned (.int .i64 (formErr l0)) ∧ Below w.heap.size w w' := by
  obtain ⟨k, hk⟩ := (formError_ev l0 hr0.2.1 hs).rounds
  exact portref1_FormError.calls k A0 c0 l0 _ w hr0 hc0 hk
end Go.Proofs.YtfnmcpgngnlodaaDoor.Forms
