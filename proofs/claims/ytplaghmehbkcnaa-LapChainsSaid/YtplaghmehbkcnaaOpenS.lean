/- Opening arguments: slices of spans. -/
import Derived.Test.YtplaghmehbkcnaaOpenC
import Derived.Test.YtplaghmehbkcnaaStag
set_option linter.unusedVariables false
set_option linter.unusedSimpArgs false
namespace Go.Proofs.Ytplaghmehbkcnaa
open Go.ChangeShapes Go.WideShapes Go.ChangeAt Go.RowKit
section
variable {H : Type} {enc : TypeId × Value → H} {w : World} {base : Nat} {sp : Nat → Bool} {hd : Bool}
theorem cellsSpan : Try.prog.cellsOf 29 = 2 := by kernel_rfl
instance : Inhabited Sp := ⟨⟨0, 0⟩⟩
structure SpI (s : Sp) : Prop where
  lo : I64 s.lo
  hi : I64 s.hi
theorem opn_span {fuel : Nat} {cs : List Value} {y : Option (DataW H × List MemPlace)} (h : DataW.trod enc Try.prog w base sp hd fuel 29 cs = y) (hy : y.isSome = true) :
    ∃ p : Sp, cs = spC p ∧ SpI p := by
  obtain ⟨z, rfl⟩ := Option.isSome_iff_exists.1 hy
  obtain ⟨xs, n, _, _, hl, hxl, hg⟩ := DataW.trod_struct Try.underlying29 h
  rw [cellsSpan] at hl
  obtain ⟨c0, c1, rfl⟩ := len2 hl
  have hs : ∀ i, i < 2 → xs[i]?.isSome = true := fun i hi => by
    have : xs.length = 2 := hxl
    simp [this, hi]
  obtain ⟨n0, e0, b0⟩ := opn_int (hg 0 _ rfl) (hs 0 (by decide))
  obtain ⟨n1, e1, b1⟩ := opn_int (hg 1 _ rfl) (hs 1 (by decide))
  simp [cellsInt] at e0 e1
  subst e0 e1
  exact ⟨⟨n0, n1⟩, rfl, ⟨b0, b1⟩⟩
theorem opn_spans {fuel : Nat} {cs : List Value} {y : Option (DataW H × List MemPlace)} (h : DataW.trod enc Try.prog w base sp hd fuel 22 cs = y) (hy : y.isSome = true) :
    ∃ (A : Option Addr) (n c : Nat) (xs : List Sp), cs = [.slice A n c] ∧ xs.length = n ∧ n ≤ c ∧ c ≤ maxLen ∧ Cells w w.heap.size A (xs.flatMap spC) ∧ ∀ x, x ∈ xs → SpI x :=
  opn_rows Try.underlying22 spC 2 (by decide) spC_len cellsSpan SpI (fun h hy => opn_span h hy) h hy
/-- An argument that is a slice of spans. -/
theorem arg_spans {A : Option Addr} {n c : Nat} {d : DataW H} {p : List MemPlace} (h : DataW.Trod enc Try.prog w base sp hd 22 (.slice A n c) d p) :
    ∃ (xs : List Sp), xs.length = n ∧ n ≤ c ∧ c ≤ maxLen ∧ Cells w w.heap.size A (xs.flatMap spC) ∧ ∀ x, x ∈ xs → SpI x := by
  obtain ⟨fuel, hf⟩ := h
  obtain ⟨A', n', c', xs, he, h1, h2, h3, h4, h5⟩ := opn_spans hf rfl
  have he' : [Value.slice A n c] = [Value.slice A' n' c'] := he
  injection he' with he' _
  injection he' with e1 e2 e3
  subst e1 e2 e3
  exact ⟨xs, h1, h2, h3, h4, h5⟩
end
end Go.Proofs.Ytplaghmehbkcnaa
