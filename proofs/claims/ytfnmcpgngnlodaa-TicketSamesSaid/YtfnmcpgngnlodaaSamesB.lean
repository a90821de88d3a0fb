/- ticket.same over two states answers whether they are equal: its printed functions come to that. Condition: the lists inside are no longer than Go lets them be. -/
import Derived.Test.YtfnmcpgngnlodaaSamesA
import Derived.Test.YtfnmcpgngnlodaaPTicketSamesx2
namespace Go.Proofs.Ytfnmcpgngnlodaa.Sames
open Go.RowKit Go.Proofs.YtfnmcpgngnlodaaW.PrintWords Go.Proofs.YtfnmcpgngnlodaaW.PrintLast Go.Proofs.YtfnmcpgngnlodaaW.PrintMore
open Go.Proofs.Ytfnmcpgngnlodaa.PTicketSames

theorem bytes_eq {a b : ByteArray} (h : a.toList = b.toList) : a = b := by
  rw [ByteArray.toList_eq, ByteArray.toList_eq] at h
  cases a; cases b
  simp only [ByteArray.mk.injEq]
  exact Array.ext' h
theorem s34_ext {a b : S34} (h0 : a.f0 = b.f0) (h1 : a.f1 = b.f1) (h2 : a.f2 = b.f2) : a = b := by
  cases a; cases b; simp_all
theorem v34 (a b : S34) : (!((a.f0) == (b.f0)) || (!((a.f1) == (b.f1)) || (!((a.f2.toList) == (b.f2.toList))))) = true ↔ a ≠ b := by
  constructor
  · rintro h rfl
    simp at h
  · intro h
    by_cases h0 : a.f0 = b.f0
    · by_cases h1 : a.f1 = b.f1
      · by_cases h2 : a.f2.toList = b.f2.toList
        · exact absurd (s34_ext h0 h1 (bytes_eq h2)) h
        · simp [h0, h1, h2]
      · simp [h1]
    · simp [h0]
theorem wrap1 {x : Int} {n : Nat} (h0 : 0 ≤ x) (h : x < (n : Int)) (hn : n ≤ 9223372036854775807) : wrap64 (x + 1) = x + 1 := by
  unfold wrap64; omega
theorem ext_rd {α : Type} (rdx : List α → Int → α) (z : α) (hrd : ∀ l i, rdx l i = l.getD i.toNat z) {l0 l1 : List α} (hl : l0.length = l1.length) (h : ∀ j : Nat, j < l0.length → rdx l0 j = rdx l1 j) : l0 = l1 := by
  refine List.ext_getElem hl fun j h1 h2 => ?_
  have := h j h1
  rw [hrd, hrd] at this
  simpa [h1, h2] using this

/-- One loop for all: 'same up to here, then the rest'. -/
theorem loop_eq {α : Type} (L : Nat → List α → List α → Int → Int → Option Bool) (rdx : List α → Int → α) (z : α) (hrd : ∀ l i, rdx l i = l.getD i.toNat z)
    (hL : ∀ k (x0 x1 : List α) (n x : Int), x0.length = x1.length → n = x0.length → x0.length ≤ 9223372036854775807 → 0 ≤ x → (x < n → rdx x0 x = rdx x1 x → L (k + 1) x0 x1 n x = L k x0 x1 n (wrap64 (x + 1))) ∧ (x < n → rdx x0 x ≠ rdx x1 x → L (k + 1) x0 x1 n x = some false) ∧ (¬ x < n → L (k + 1) x0 x1 n x = some true))
    (x0 x1 : List α) (hl : x0.length = x1.length) (hn : x0.length ≤ 9223372036854775807) (d : Nat) : ∀ (k : Nat) (x : Int), 0 ≤ x → x ≤ x0.length → (x0.length : Int) - x = d → d < k → (∀ j : Nat, (j : Int) < x → rdx x0 j = rdx x1 j) → L k x0 x1 x0.length x = some (eqB x0 x1) := by
  induction d with
  | zero =>
    intro k x h0 h1 hd hk hj
    obtain ⟨k, rfl⟩ : ∃ m, k = m + 1 := ⟨k - 1, by omega⟩
    rw [(hL k x0 x1 _ x hl rfl hn h0).2.2 (by omega), eqB_true (ext_rd rdx z hrd hl fun j h => hj j (by omega))]
  | succ d ih =>
    intro k x h0 h1 hd hk hj
    obtain ⟨k, rfl⟩ : ∃ m, k = m + 1 := ⟨k - 1, by omega⟩
    by_cases he : rdx x0 x = rdx x1 x
    · rw [(hL k x0 x1 _ x hl rfl hn h0).1 (by omega) he, wrap1 h0 (by omega) hn]
      refine ih k (x + 1) (by omega) (by omega) (by omega) (by omega) fun j hjx => ?_
      rcases Int.lt_or_eq_of_le (show (j : Int) ≤ x by omega) with h | h
      · exact hj j h
      · rw [h]; exact he
    · rw [(hL k x0 x1 _ x hl rfl hn h0).2.1 (by omega) he, eqB_false (fun e => he (by rw [e]))]

theorem eqV (l0 l1 : List S34) (h : l0.length ≤ 9223372036854775807) (k : Nat) (hk : l0.length < k) : api_Value.f k l0 l1 = some (eqB l0 l1) := by
  unfold api_Value.f
  by_cases hl : l0.length = l1.length
  · rw [if_pos (by omega)]
    refine loop_eq api_Value.l0 rd_T34 z34 (fun _ _ => rfl) ?_ l0 l1 hl h l0.length k 0 (by omega) (by omega) (by omega) hk (fun j hj => by omega)
    intro k x0 x1 n x he hn hb h0
    subst hn
    simp only [api_Value.l0]
    exact ⟨fun hx hq => by rw [if_pos hx, if_pos h0, if_pos hx, if_pos (by omega), if_neg (fun c => (v34 _ _).1 c hq)], fun hx hq => by rw [if_pos hx, if_pos h0, if_pos hx, if_pos (by omega), if_pos ((v34 _ _).2 hq)], fun hx => by rw [if_neg hx]⟩
  · rw [if_neg (by omega), eqB_false (fun e => hl (by rw [e]))]
theorem eqI (l0 l1 : List Int) (h : l0.length ≤ 9223372036854775807) (k : Nat) (hk : l0.length < k) : slices_Equal_int_int.f k l0 l1 = some (eqB l0 l1) := by
  unfold slices_Equal_int_int.f
  by_cases hl : l0.length = l1.length
  · rw [if_pos (by omega)]
    refine loop_eq slices_Equal_int_int.l0 rd 0 (fun _ _ => rfl) ?_ l0 l1 hl h l0.length k 0 (by omega) (by omega) (by omega) hk (fun j hj => by omega)
    intro k x0 x1 n x he hn hb h0
    subst hn
    simp only [slices_Equal_int_int.l0]
    exact ⟨fun hx hq => by rw [if_pos hx, if_pos h0, if_pos hx, if_pos (by omega), if_pos hq], fun hx hq => by rw [if_pos hx, if_pos h0, if_pos hx, if_pos (by omega), if_neg hq], fun hx => by rw [if_neg hx]⟩
  · rw [if_neg (by omega), eqB_false (fun e => hl (by rw [e]))]
theorem eqN (l0 l1 : List Int) (h : l0.length ≤ 9223372036854775807) (k : Nat) (hk : l0.length < k) : portref1_sameNumbers.f k l0 l1 = some (eqB l0 l1) := by
  unfold portref1_sameNumbers.f
  by_cases hl : l0.length = l1.length
  · rw [if_pos (by omega)]
    refine loop_eq portref1_sameNumbers.l0 rd 0 (fun _ _ => rfl) ?_ l0 l1 hl h l0.length k 0 (by omega) (by omega) (by omega) hk (fun j hj => by omega)
    intro k x0 x1 n x he hn hb h0
    subst hn
    simp only [portref1_sameNumbers.l0]
    exact ⟨fun hx hq => by rw [if_pos hx, if_pos h0, if_pos hx, if_pos (by omega), if_pos hq], fun hx hq => by rw [if_pos hx, if_pos h0, if_pos hx, if_pos (by omega), if_neg hq], fun hx => by rw [if_neg hx]⟩
  · rw [if_neg (by omega), eqB_false (fun e => hl (by rw [e]))]

theorem same_f (x y : S30) (h8 : x.f8.length ≤ 9223372036854775807) (h9 : x.f9.length ≤ 9223372036854775807) (h10 : x.f10.length ≤ 9223372036854775807) :
    ticket_same.f (x.f8.length + x.f9.length + x.f10.length + 1) x.f0 x.f1 x.f2 x.f3 x.f4 x.f5 x.f6 x.f7 x.f8 x.f9 x.f10 x.f11 y.f0 y.f1 y.f2 y.f3 y.f4 y.f5 y.f6 y.f7 y.f8 y.f9 y.f10 y.f11 = some (eqB x y) := by
  unfold ticket_same.f
  rw [eqV _ _ h8 _ (by omega), eqI _ _ h9 _ (by omega), eqI _ _ h10 _ (by omega)]
  by_cases h : x = y
  · subst h
    simp [eqB]
  · rw [eqB_false h]
    refine (Classical.em (x.f0 = y.f0)).elim (fun c0 => ?_) (fun c0 => by simp [c0])
    refine (Classical.em (x.f1 = y.f1)).elim (fun c1 => ?_) (fun c1 => by simp [c1])
    refine (Classical.em (x.f2 = y.f2)).elim (fun c2 => ?_) (fun c2 => by simp [c2])
    refine (Classical.em (x.f3 = y.f3)).elim (fun c3 => ?_) (fun c3 => by simp [c3])
    refine (Classical.em (x.f4 = y.f4)).elim (fun c4 => ?_) (fun c4 => by simp [c4])
    refine (Classical.em (x.f5 = y.f5)).elim (fun c5 => ?_) (fun c5 => by simp [c5])
    refine (Classical.em (x.f6 = y.f6)).elim (fun c6 => ?_) (fun c6 => by simp [c6])
    refine (Classical.em (x.f7 = y.f7)).elim (fun c7 => ?_) (fun c7 => by simp [c7])
    refine (Classical.em (x.f11 = y.f11)).elim (fun c11 => ?_) (fun c11 => by simp [c11])
    refine (Classical.em (x.f8 = y.f8)).elim (fun c8 => ?_) (fun c8 => by simp [eqB_false c8])
    refine (Classical.em (x.f9 = y.f9)).elim (fun c9 => ?_) (fun c9 => by simp [eqB_false c9])
    refine (Classical.em (x.f10 = y.f10)).elim (fun c10 => ?_) (fun c10 => by simp [eqB_false c10])
    exact absurd (by cases x; cases y; simp_all) h

theorem sameCalls : SameCalls := by
  intro x y cx cy w hx hy
  obtain ⟨A8, c8, A9, c9, A10, c10, rfl, l8, g8, l9, g9, l10, g10⟩ := k30_open hx
  obtain ⟨B8, d8, B9, d9, B10, d10, rfl, m8, f8, m9, f9, m10, f10⟩ := k30_open hy
  exact ticket_same.calls _ _ _ _ _ _ _ _ _ A8 c8 _ A9 c9 _ A10 c10 _ _ _ _ _ _ _ _ _ _ B8 d8 _ B9 d9 _ B10 d10 _ _ _ w g8 l8 g9 l9 g10 l10 f8 m8 f9 m9 f10 m10
    (same_f x y g8.2.1 g9.2.1 g10.2.1)
end Go.Proofs.Ytfnmcpgngnlodaa.Sames
