/- Lists of equally wide rows of cells (no program in sight). -/
import Derived.Test.YtnjflafaflalfaaRB
set_option linter.unusedVariables false
set_option linter.unusedSimpArgs false
namespace Go.Proofs.Ytnjflafaflalfaa
open Go.RowKit
theorem vint {k : IntKind} {a b : Int} (h : a = b) : Value.int k a = Value.int k b := by rw [h]
theorem ret_2 {k j : IntKind} {a b c d : Int} (h : a = b) (h' : c = d) : Ending.returned (.tuple #[.int k a, .int j c]) = .returned (.tuple #[.int k b, .int j d]) := by rw [h, h']
theorem flat_len {α β : Type} (enc : α → List β) (m : Nat) (h : ∀ a, (enc a).length = m) (l : List α) : (l.flatMap enc).length = l.length * m := by
  induction l with
  | nil => simp
  | cons a l ih => simp [List.flatMap_cons, h, ih, Nat.add_mul, Nat.add_comm]
theorem flat_get {α β : Type} (enc : α → List β) (m : Nat) (h : ∀ a, (enc a).length = m) (l : List α) (k : Nat) (hk : k < l.length) (j : Nat) (hj : j < m) :
    (l.flatMap enc)[k * m + j]? = (enc l[k])[j]? := by
  induction l generalizing k with
  | nil => simp at hk
  | cons a l ih =>
    rw [List.flatMap_cons]
    cases k with
    | zero =>
      rw [Nat.zero_mul, Nat.zero_add, List.getElem?_append_left (by rw [h]; exact hj)]
      rfl
    | succ k =>
      have e : (k + 1) * m + j = m + (k * m + j) := by rw [Nat.add_mul, Nat.one_mul]; omega
      rw [e, List.getElem?_append_right (by rw [h]; omega), h, Nat.add_sub_cancel_left]
      have := ih k (by simpa using hk)
      simpa using this
theorem Cells.newRow (w : World) (cs : Array Value) (t : TypeId) (fr : Nat × Nat) : Cells (w.alloc (.cells cs t fr)) (w.alloc (.cells cs t fr)).heap.size (some ⟨w.heap.size, 0, none⟩) cs.toList := by
  have := Cells.new w cs t fr
  rwa [show w.heap.size + 1 = (w.alloc (.cells cs t fr)).heap.size by simp] at this
theorem Cells.row {α : Type} {w : World} {B b o : Nat} {enc : α → List Value} {m : Nat} {l : List α} (h : Cells w B (some ⟨b, o, none⟩) (l.flatMap enc)) (hm : ∀ a, (enc a).length = m) {k : Nat} (hk : k < l.length)
    {j : Nat} {v : Value} (hv : (enc l[k])[j]? = some v) : w.cell? ⟨b, o + (k * m + j), none⟩ = some v := by
  have hj : j < m := by
    rcases Nat.lt_or_ge j m with h1 | h1
    · exact h1
    · rw [List.getElem?_eq_none (by rw [hm]; exact h1)] at hv; cases hv
  exact h.get (by rw [flat_get enc m hm l k hk j hj]; exact hv)
theorem Cells.row0 {α : Type} {w : World} {B b o : Nat} {enc : α → List Value} {m : Nat} {l : List α} (h : Cells w B (some ⟨b, o, none⟩) (l.flatMap enc)) (hm : ∀ a, (enc a).length = m) {k : Nat} (hk : k < l.length)
    {v : Value} (hv : (enc l[k])[0]? = some v) : w.cell? ⟨b, o + k * m, none⟩ = some v := h.row hm hk hv
theorem Cells.rowj {α : Type} {w : World} {B b o : Nat} {enc : α → List Value} {m : Nat} {l : List α} (h : Cells w B (some ⟨b, o, none⟩) (l.flatMap enc)) (hm : ∀ a, (enc a).length = m) {k : Nat} (hk : k < l.length)
    (j : Nat) {v : Value} (hv : (enc l[k])[j]? = some v) : w.cell? ⟨b, o + k * m + j, none⟩ = some v := by
  have := h.row hm hk hv
  rwa [← Nat.add_assoc] at this
end Go.Proofs.Ytnjflafaflalfaa
