/- Opening arguments: bars, slices of boxes. -/
import Derived.Test.YtplaghmehbkcnaaOpenC
import Derived.Test.YtplaghmehbkcnaaBar
set_option linter.unusedVariables false
set_option linter.unusedSimpArgs false
namespace Go.Proofs.Ytplaghmehbkcnaa
open Go.ChangeShapes Go.WideShapes Go.ChangeAt Go.RowKit
section
variable {H : Type} {enc : TypeId × Value → H} {w : World} {base : Nat} {sp : Nat → Bool} {hd : Bool}
theorem cellsInts : Try.prog.cellsOf 62 = 1 := by kernel_rfl
theorem cellsBar : Try.prog.cellsOf 107 = 5 := by kernel_rfl
/-- A slice of integers, opened. -/
theorem opn_ints {fuel : Nat} {cs : List Value} {y : Option (DataW H × List MemPlace)} (h : DataW.trod enc Try.prog w base sp hd fuel 62 cs = y) (hy : y.isSome = true) :
    ∃ (A : Option Addr) (n c : Nat) (xs : List Int), cs = [.slice A n c] ∧ xs.length = n ∧ n ≤ c ∧ c ≤ maxLen ∧ Cells w w.heap.size A (i64s xs) ∧ ∀ x, x ∈ xs → I64 x := by
  obtain ⟨z, rfl⟩ := Option.isSome_iff_exists.1 hy
  rcases open_ints Try.underlying62 Try.underlying3 cellsInt h with ⟨rfl, _⟩ | ⟨a, len, cap, zs, rfl, _, hl, hm, hz, _, hc, hw⟩
  · exact ⟨none, 0, 0, [], rfl, rfl, Nat.le_refl _, Nat.zero_le _, .inl rfl, by simp⟩
  · have hlz : len ≤ zs.length := by rw [hz]; split <;> omega
    refine ⟨some a, len, cap, zs.take len, rfl, by simp; omega, hl, hm, ?_, fun x hx => bounds_i64 (hw x (List.mem_of_mem_take hx))⟩
    by_cases h0 : len = 0
    · left; simp [h0]
    · right
      have h1 := hc 0 (by omega)
      have hsp : a.spot = none := by
        unfold World.cell? at h1
        split at h1
        · split at h1
          · cases h1
          · rename_i hn
            simpa [Addr.add] using hn
        · cases h1
      have hlt : a.block < w.heap.size := by
        unfold World.cell? at h1
        split at h1
        · rename_i hh
          exact (Array.getElem?_eq_some_iff.1 hh).1
        · cases h1
      obtain ⟨bb, o, s⟩ := a
      cases hsp
      refine ⟨bb, o, rfl, hlt, fun j v hv => ?_⟩
      have hj : j < len := by
        obtain ⟨hj, _⟩ := List.getElem?_eq_some_iff.1 hv
        simp at hj
        omega
      have h2 := hc j (by omega)
      have h3 : (i64s (zs.take len))[j]? = some (.int .i64 (zs.getD j 0)) := by
        simp [hj, List.getElem?_eq_getElem (show j < zs.length by omega)]
      rw [h3] at hv
      injection hv with hv
      subst hv
      have e : (Addr.add ⟨bb, o, none⟩ j) = ⟨bb, o + j, none⟩ := by unfold Addr.add; split <;> simp_all
      rw [e] at h2
      exact h2
theorem len5 {α : Type} {l : List α} (h : l.length = 5) : ∃ a b c d e, l = [a, b, c, d, e] := by
  match l, h with
  | [a, b, c, d, e], _ => exact ⟨a, b, c, d, e, rfl⟩
structure BarI (b : Bar) : Prop where
  size : I64 b.size
  count : I64 b.count
  code : I64 b.code
  dims : ∀ x, x ∈ b.dims → I64 x
theorem open_bar {fuel : Nat} {cs : List Value} {x : DataW H × List MemPlace} (h : DataW.trod enc Try.prog w base sp hd fuel 107 cs = some x) :
    ∃ (b : Bar) (A : Option Addr) (n c : Nat), cs = (barV b A n c).cells.toList ∧ BarAt w w.heap.size A n b ∧ n ≤ c ∧ c ≤ maxLen ∧ BarI b := by
  obtain ⟨xs, n, _, _, hl, hxl, hg⟩ := DataW.trod_struct Try.underlying107 h
  rw [cellsBar] at hl
  obtain ⟨c0, c1, c2, c3, c4, rfl⟩ := len5 hl
  have hs : ∀ i, i < 5 → xs[i]?.isSome = true := fun i hi => by
    have : xs.length = 5 := hxl
    simp [this, hi]
  obtain ⟨n0, e0, b0⟩ := opn_str (hg 0 _ rfl) (hs 0 (by decide))
  obtain ⟨n1, e1, b1⟩ := opn_int (hg 1 _ rfl) (hs 1 (by decide))
  obtain ⟨n2, e2, b2⟩ := opn_int (hg 2 _ rfl) (hs 2 (by decide))
  obtain ⟨n3, e3, b3⟩ := opn_int (hg 3 _ rfl) (hs 3 (by decide))
  obtain ⟨A, m, c, zs, e4, hz, hmc, hcm, hcl, hzi⟩ := opn_ints (hg 4 _ rfl) (hs 4 (by decide))
  simp [cellsInt, cellsStr, cellsInts] at e0 e1 e2 e3 e4
  subst e0 e1 e2 e3 e4
  have hmx : maxLen ≤ 9223372036854775807 := by unfold maxLen; decide
  exact ⟨⟨n0, n1, n2, n3, zs⟩, A, m, c, rfl, ⟨hz, by omega, by show n0.size ≤ _; omega, hcl⟩, hmc, hcm, ⟨b1, b2, b3, hzi⟩⟩
/-- An argument that is a bar. -/
theorem arg_bar {cs : Array Value} {d : DataW H} {p : List MemPlace} (h : DataW.Trod enc Try.prog w base sp hd 107 (.agg cs) d p) :
    ∃ (b : Bar) (A : Option Addr) (n c : Nat), cs = (barV b A n c).cells ∧ BarAt w w.heap.size A n b ∧ n ≤ c ∧ c ≤ maxLen ∧ BarI b := by
  obtain ⟨fuel, hf⟩ := h
  obtain ⟨b, A, n, c, hr, hi⟩ := open_bar hf
  refine ⟨b, A, n, c, ?_, hi⟩
  have : cs.toList = (barV b A n c).cells.toList := hr
  exact Array.toList_inj.1 this
/-- An argument that is a slice of boxes. -/
theorem arg_boxes {A : Option Addr} {n c : Nat} {d : DataW H} {p : List MemPlace} (h : DataW.Trod enc Try.prog w base sp hd 45 (.slice A n c) d p) :
    ∃ (xs : List Bx), xs.length = n ∧ n ≤ c ∧ c ≤ maxLen ∧ Cells w w.heap.size A (xs.flatMap boxC) ∧ ∀ x, x ∈ xs → BxI x := by
  obtain ⟨fuel, hf⟩ := h
  obtain ⟨A', n', c', xs, he, h1, h2, h3, h4, h5⟩ := opn_boxes hf rfl
  have he' : [Value.slice A n c] = [Value.slice A' n' c'] := he
  injection he' with he' _
  injection he' with e1 e2 e3
  subst e1 e2 e3
  exact ⟨xs, h1, h2, h3, h4, h5⟩
end
end Go.Proofs.Ytplaghmehbkcnaa
