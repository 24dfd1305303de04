/- Lists of equally wide rows of cells (no program in sight). Contracts: sizes, slices.Index and Contains over integers. -/
import Derived.Test.YtnmolefblaahmaaGreatMA
set_option linter.unusedVariables false
set_option linter.unusedSimpArgs false
namespace Go.Proofs.YtnmolefblaahmaaGreat
open Go.RowKit
theorem vint {k : IntKind} {a b : Int} (h : a = b) : Value.int k a = Value.int k b := by rw [h]
theorem ret_2 {k j : IntKind} {a b c d : Int} (h : a = b) (h' : c = d) : Ending.returned (.tuple #[.int k a, .int j c]) = .returned (.tuple #[.int k b, .int j d]) := by rw [h, h']
theorem flat_len {α β : Type} (enc : α → List β) (m : Nat) (h : ∀ a, (enc a).length = m) (l : List α) : (l.flatMap enc).length = l.length * m := by
 induction l with
 | nil => simp
 | cons a l ih => simp [List.flatMap_cons, h, ih, Nat.add_mul, Nat.add_comm]
theorem flat_get {α β : Type} (enc : α → List β) (m : Nat) (h : ∀ a, (enc a).length = m) (l : List α) (k : Nat) (hk : k < l.length) (j : Nat) (hj : j < m) :
 (l.flatMap enc)[k * m + j]? = (enc l[k])[j]? := by
 induction l generalizing k with
 | nil => simp at hk
 | cons a l ih =>
  rw [List.flatMap_cons]
  cases k with
  | zero =>
   rw [Nat.zero_mul, Nat.zero_add, List.getElem?_append_left (by rw [h]; exact hj)]
   rfl
  | succ k =>
   have e : (k + 1) * m + j = m + (k * m + j) := by rw [Nat.add_mul, Nat.one_mul]; omega
   rw [e, List.getElem?_append_right (by rw [h]; omega), h, Nat.add_sub_cancel_left]
   have := ih k (by simpa using hk)
   simpa using this
theorem Cells.newRow (w : World) (cs : Array Value) (t : TypeId) (fr : Nat × Nat) : Cells (w.alloc (.cells cs t fr)) (w.alloc (.cells cs t fr)).heap.size (some ⟨w.heap.size, 0, none⟩) cs.toList := by
 have := Cells.new w cs t fr
 rwa [show w.heap.size + 1 = (w.alloc (.cells cs t fr)).heap.size by simp] at this
theorem Cells.row {α : Type} {w : World} {B b o : Nat} {enc : α → List Value} {m : Nat} {l : List α} (h : Cells w B (some ⟨b, o, none⟩) (l.flatMap enc)) (hm : ∀ a, (enc a).length = m) {k : Nat} (hk : k < l.length)
 {j : Nat} {v : Value} (hv : (enc l[k])[j]? = some v) : w.cell? ⟨b, o + (k * m + j), none⟩ = some v := by
 have hj : j < m := by
  rcases Nat.lt_or_ge j m with h1 | h1
  ·exact h1
  ·rw [List.getElem?_eq_none (by rw [hm]; exact h1)] at hv; cases hv
 exact h.get (by rw [flat_get enc m hm l k hk j hj]; exact hv)
theorem Cells.row0 {α : Type} {w : World} {B b o : Nat} {enc : α → List Value} {m : Nat} {l : List α} (h : Cells w B (some ⟨b, o, none⟩) (l.flatMap enc)) (hm : ∀ a, (enc a).length = m) {k : Nat} (hk : k < l.length)
 {v : Value} (hv : (enc l[k])[0]? = some v) : w.cell? ⟨b, o + k * m, none⟩ = some v := h.row hm hk hv
theorem Cells.rowj {α : Type} {w : World} {B b o : Nat} {enc : α → List Value} {m : Nat} {l : List α} (h : Cells w B (some ⟨b, o, none⟩) (l.flatMap enc)) (hm : ∀ a, (enc a).length = m) {k : Nat} (hk : k < l.length)
 (j : Nat) {v : Value} (hv : (enc l[k])[j]? = some v) : w.cell? ⟨b, o + k * m + j, none⟩ = some v := by
 have := h.row hm hk hv
 rwa [← Nat.add_assoc] at this

theorem sizes_any (w : World) :
 Calls Tryz.prog 251 #[] w fun e w' => e = .returned (.slice (some ⟨w.heap.size, 0, none⟩) 9 9) ∧ w.alloc (.cells (i64s S.sizes).toArray 3) = w' := by
 go_enter Tryz.func251, Tryz.ntmps251
 go_wp2
 go_ret
 exact ⟨rfl, rfl⟩
def idx (xs : List Int) (x : Int) : Int := match xs.findIdx? (· == x) with | some k => k | none => -1
theorem idx_hit {xs : List Int} {x : Int} {k : Nat} (hk : k < xs.length) (hx : xs[k] = x) (hno : ∀ j, j < k → xs[j]? ≠ some x) : idx xs x = k := by
 have : xs.findIdx? (· == x) = some k := by
  rw [List.findIdx?_eq_some_iff_getElem]
  refine ⟨hk, by simp [hx], fun j hj => ?_⟩
  have := hno j hj
  have hl : j < xs.length := by omega
  rw [List.getElem?_eq_getElem hl] at this
  simpa using this
 simp [idx, this]
theorem idx_miss {xs : List Int} {x : Int} (hno : ∀ j, j < xs.length → xs[j]? ≠ some x) : idx xs x = -1 := by
 have : xs.findIdx? (· == x) = none := by
  rw [List.findIdx?_eq_none_iff]
  intro y hy
  obtain ⟨j, hj, rfl⟩ := List.mem_iff_getElem.1 hy
  have := hno j hj
  rw [List.getElem?_eq_getElem hj] at this
  simpa using this
 simp [idx, this]
theorem index_any (A : Option Addr) (n c : Nat) (x : Int) (xs : List Int) (B : Nat) (w : World) (hn : xs.length = n) (hm : n ≤ 9223372036854775807) (hs : Cells w B A (i64s xs)) :
 Calls Tryz.prog 264 #[.slice A n c, .int .i64 x] w fun e w' => e = .returned (.int .i64 (idx xs x)) ∧ w = w' := by
 have HN := Lib.hid hn
 clear hn
 go_enter Tryz.func264, Tryz.ntmps264
 go_wp2
 go_loop [8] (fun i => ∃ k : Nat, k ≤ n ∧ i = .int .i64 k ∧ ∀ j, j < k → xs[j]? ≠ some x) (fun i => n - (intOf i).toNat)
 case atStart => exact ⟨0, Nat.zero_le _, rfl, fun j hj => absurd hj (by omega)⟩
 case round =>
  obtain ⟨k, hk, rfl, hno⟩ := hrel
  have HNO := Lib.hid hno
  clear hno
  by_cases hlt : k < n
  ·have hkx : k < xs.length := by have := HN.out; omega
   obtain ⟨b, o, rfl, _, hc⟩ := hs.at_ (by simp; omega)
   have hck := hc k _ (i64s_get hkx)
   clear hc
   by_cases hx : xs[k] = x
   ·have hb : (x == xs[k]) = true := by simp [hx]
    go_wp2
    go_ret
    exact ⟨ret_i (idx_hit hkx hx HNO.out).symm, rfl⟩
   ·have hb : (x == xs[k]) = false := by simp; exact fun h => hx h.symm
    have HX := Lib.hid hx
    clear hx
    go_wp2
    go_round
    case rel =>
     refine ⟨k + 1, by omega, by go_num, fun j hj => ?_⟩
     by_cases hjk : j = k
     ·subst hjk; rw [List.getElem?_eq_getElem hkx]; simpa using HX.out
     ·exact HNO.out j (by omega)
    case measure => simp [intOf]; omega
  ·go_wp2
   go_ret
   exact ⟨ret_i (idx_miss (fun j hj => HNO.out j (by have := HN.out; omega))).symm, rfl⟩
theorem idx_ge (xs : List Int) (x : Int) : decide (0 ≤ idx xs x) = S.has xs x := by
 unfold idx S.has
 split
 ·rename_i k hk
  have : x ∈ xs := by
   obtain ⟨h1, h2, _⟩ := List.findIdx?_eq_some_iff_getElem.1 hk
   simp at h2
   exact h2 ▸ List.getElem_mem h1
  simp [this]
 ·rename_i hk
  rw [List.findIdx?_eq_none_iff] at hk
  have : x ∉ xs := fun h => by have := hk x h; simp at this
  simp [this]
theorem contains_any (A : Option Addr) (n c : Nat) (x : Int) (xs : List Int) (B : Nat) (w : World) (hn : xs.length = n) (hm : n ≤ 9223372036854775807) (hs : Cells w B A (i64s xs)) :
 Calls Tryz.prog 250 #[.slice A n c, .int .i64 x] w fun e w' => e = .returned (.bool (S.has xs x)) ∧ w = w' := by
 have HN := Lib.hid hn
 clear hn
 have e := idx_ge xs x
 go_enter Tryz.func250, Tryz.ntmps250
 go_wp2_with (go_at_call 264; refine (index_any _ _ _ x xs B _ HN.out hm hs).mono ?_; rintro e w' ⟨rfl, rfl⟩)
 go_ret
 exact ⟨rfl, rfl⟩
theorem ssize_any (d : Int) (w : World) :
 Calls Tryz.prog 201 #[.int .i64 d] w fun e w' => e = .returned (.bool (S.size d)) ∧ Below w.heap.size w w' := by
 have hs := Cells.new w (i64s S.sizes).toArray 3 (0, 0)
 go_enter Tryz.func201, Tryz.ntmps201
 go_wp2_with (first
  | (go_at_call 251; refine (sizes_any _).mono ?_; rintro e w' ⟨rfl, rfl⟩)
  | (go_at_call 250; refine (contains_any _ 9 _ d S.sizes _ _ rfl (by omega) (by simpa using hs)).mono ?_; rintro e w' ⟨rfl, rfl⟩))
 go_ret
 exact ⟨rfl, by go_grown⟩
end Go.Proofs.YtnmolefblaahmaaGreat
