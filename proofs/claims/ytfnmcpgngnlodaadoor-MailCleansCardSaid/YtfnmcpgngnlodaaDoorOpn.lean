/- How a reading of an argument becomes the print's own words: an integer, a string, a slice, a struct's fields in line. No condition. -/
import Derived.Test.YtfnmcpgngnlodaaDoorWMore
import Derived.Deep.Slices
import Derived.ChangeArms
import Derived.DataReads
namespace Go.Proofs.YtfnmcpgngnlodaaDoor.Opn
open Go.RowKit Go.ChangeShapes Go.WideShapes Go.Proofs.YtfnmcpgngnlodaaDoorW.PrintWords Go.Proofs.YtfnmcpgngnlodaaDoorW.PrintLast Go.Proofs.YtfnmcpgngnlodaaDoorW.PrintMore
variable {H : Type} {enc : TypeId × Value → H} {P : Program} {w : World} {base : Nat} {spare : Nat → Bool} {held : Bool}

/-- Whatever reads at type T is a value of the kind d, and B holds of it. -/
def Opens {H : Type} (enc : TypeId × Value → H) (P : Program) (w : World) (base : Nat) (spare : Nat → Bool) (held : Bool) {α : Type} (T : TypeId) (d : Kd α) (B : α → Prop) : Prop :=
  ∀ fuel cs x, DataW.trod enc P w base spare held fuel T cs = some x → ∃ v, d.K w v cs ∧ B v

theorem opens_int {k : IntKind} {T : TypeId} (ht : P.underlying T = some (.int k)) : Opens enc P w base spare held T (Kd.int k) (fun n => (Lit.int k n).wf = true) := by
  intro fuel cs x h
  obtain ⟨n, rfl, _, hw⟩ := DataW.trod_int ht h
  exact ⟨n, rfl, hw⟩
theorem opens_string {T : TypeId} (ht : P.underlying T = some .string) : Opens enc P w base spare held T Kd.string (fun s => s.size ≤ maxLen) := by
  intro fuel cs x h
  obtain ⟨s, rfl, _, hw⟩ := DataW.trod_string ht h
  exact ⟨s, rfl, hw⟩
theorem opens_slice {α : Type} {T e : TypeId} {d : Kd α} {B : α → Prop} (ht : P.underlying T = some (.slice e)) (hsz : P.cellsOf e = d.sz) (h : Opens enc P w base spare held e d B) :
    Opens enc P w base spare held T (Kd.slice e d) (fun l => ∀ v ∈ l, B v) := by
  intro fuel cs x hx
  rcases Deep.open_slice ht hx with ⟨rfl, _⟩ | ⟨a, len, cap, m, n, D, Pl, rfl, hb, hl, hm, hmm, _, hel⟩
  · exact ⟨[], ⟨none, 0, rfl, Nat.le_refl _, rfl, by simp, fun h => absurd h (Nat.lt_irrefl 0)⟩, by simp⟩
  · have hlm : len ≤ m := by rw [hmm]; split <;> omega
    have hall : ∀ i : Fin len, ∃ v, (∃ cs', w.cells? base (a.add (i.1 * P.cellsOf e)) (P.cellsOf e) = some cs' ∧ d.K w v cs') ∧ B v := by
      intro i
      obtain ⟨cs', hc, ht'⟩ := hel i.1 (by have := i.2; omega)
      obtain ⟨v, hv, hB⟩ := h _ _ _ ht'
      exact ⟨v, ⟨cs', hc, hv⟩, hB⟩
    obtain ⟨V, hV⟩ := Classical.axiomOfChoice hall
    have hlen : (List.ofFn V).length = len := by simp
    refine ⟨List.ofFn V, ⟨some a, cap, by rw [hlen], by rw [hlen]; exact hl, ?_⟩, ?_⟩
    · refine ⟨rfl, by rw [hlen]; unfold maxLen at hm; omega, fun _ => ⟨a, rfl, fun j p hj => ?_⟩⟩
      have hjl : j < len := by have := (List.getElem?_eq_some_iff.1 hj).1; omega
      have hp : p = V ⟨j, hjl⟩ := by
        have := (List.getElem?_eq_some_iff.1 hj).2
        rw [← this]; simp
      obtain ⟨⟨cs', hc, hK⟩, _⟩ := hV ⟨j, hjl⟩
      refine ⟨cs', d.K_len hK, hp ▸ hK, fun i u hu => ?_⟩
      obtain ⟨_, hcl, hcell⟩ := World.cells?_some hc
      have hil : i < P.cellsOf e := by have := (List.getElem?_eq_some_iff.1 hu).1; omega
      have := hcell i hil
      rw [← hsz, ← Deep.add_add, this, hu]
    · intro v hv
      obtain ⟨i, rfl⟩ := (List.mem_ofFn).1 hv
      exact (hV i).2

/-! ### A struct's fields, from a place of its cells on. -/
theorem field_cons {α β : Type} {a : Kd α} {b : Kd β} {x : α} {y : β} {cs : List Value} (o n : Nat) (h : a.K w x ((cs.drop o).take n)) (k : b.K w y (cs.drop (o + n))) : (Kd.pair a b).K w (x, y) (cs.drop o) :=
  ⟨_, _, by rw [← List.drop_drop]; exact (List.take_append_drop n (cs.drop o)).symm, h, k⟩
theorem field_last {α : Type} {a : Kd α} {x : α} {cs : List Value} (o n : Nat) (hl : cs.length = o + n) (h : a.K w x ((cs.drop o).take n)) : a.K w x (cs.drop o) := by
  rwa [List.take_of_length_le (by simp; omega)] at h
/-- One field of a struct that reads. -/
theorem field_at {α : Type} {T t : TypeId} {fs : Array Field} {fuel : Nat} {cs : List Value} {x : DataW H × List MemPlace} (ht : P.underlying T = some (.struct fs)) (h : DataW.trod enc P w base spare held fuel T cs = some x)
    (i o n : Nat) {f : Field} (hf : fs[i]? = some f) (hft : f.type = t) (hfo : f.offset = o) (hn : P.cellsOf t = n) {d : Kd α} {B : α → Prop} (ho : Opens enc P w base spare held t d B) : ∃ v, d.K w v ((cs.drop o).take n) ∧ B v := by
  obtain ⟨xs, m, rfl, _, hl, hxl, hall⟩ := DataW.trod_struct ht h
  have h1 := hall i f hf
  have hi : i < xs.length := by rw [hxl]; exact (Array.getElem?_eq_some_iff.1 hf).1
  rw [List.getElem?_eq_getElem hi, hft, hfo, hn] at h1
  exact ho _ _ _ h1
theorem struct_len {T : TypeId} {fs : Array Field} {fuel : Nat} {cs : List Value} {x : DataW H × List MemPlace} (ht : P.underlying T = some (.struct fs)) (h : DataW.trod enc P w base spare held fuel T cs = some x) : cs.length = P.cellsOf T := by
  obtain ⟨xs, m, rfl, _, hl, _⟩ := DataW.trod_struct ht h
  exact hl
end Go.Proofs.YtfnmcpgngnlodaaDoor.Opn
