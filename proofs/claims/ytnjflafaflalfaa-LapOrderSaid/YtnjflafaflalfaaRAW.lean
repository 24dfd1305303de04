/- Opening arguments: boxes, slices of boxes, members. Opening arguments: slices of spans. -/
import Derived.Deep.Slices
import Derived.Test.YtnjflafaflalfaaRAV
import Derived.Test.YtnjflafaflalfaaRX
import Derived.Test.YtnjflafaflalfaaRAO
set_option linter.unusedVariables false
set_option linter.unusedSimpArgs false
namespace Go.Proofs.Ytnjflafaflalfaa
open Go.ChangeShapes Go.WideShapes Go.ChangeAt Go.RowKit
section
variable {H : Type} {enc : TypeId × Value → H} {w : World} {base : Nat} {sp : Nat → Bool} {hd : Bool}
theorem len2 {α : Type} {l : List α} (h : l.length = 2) : ∃ a b, l = [a, b] := by
  match l, h with
  | [a, b], _ => exact ⟨a, b, rfl⟩
structure PtI (p : Pt) : Prop where
  x : I64 p.x
  y : I64 p.y
  z : I64 p.z
structure BxI (b : Bx) : Prop where
  lo : PtI b.lo
  hi : PtI b.hi
theorem opn_rows {α : Type} [Inhabited α] {t e : TypeId} (ht : Try.prog.underlying t = some (.slice e)) (enc' : α → List Value) (m : Nat) (hm0 : 0 < m) (hm : ∀ a, (enc' a).length = m) (ce : Try.prog.cellsOf e = m) (ok : α → Prop)
    (hop : ∀ {fuel : Nat} {cs : List Value} {y : Option (DataW H × List MemPlace)}, DataW.trod enc Try.prog w base sp hd fuel e cs = y → y.isSome = true → ∃ b : α, cs = enc' b ∧ ok b)
    {fuel : Nat} {cs : List Value} {y : Option (DataW H × List MemPlace)} (h : DataW.trod enc Try.prog w base sp hd fuel t cs = y) (hy : y.isSome = true) :
    ∃ (A : Option Addr) (n c : Nat) (xs : List α), cs = [.slice A n c] ∧ xs.length = n ∧ n ≤ c ∧ c ≤ maxLen ∧ Cells w w.heap.size A (xs.flatMap enc') ∧ ∀ x, x ∈ xs → ok x := by
  obtain ⟨z, rfl⟩ := Option.isSome_iff_exists.1 hy
  rcases DataW.trod_slice ht h with ⟨rfl, _⟩ | ⟨a, len, cap, elems, rest, n, _, rfl, _, _, hl, hc, hel, hx, _, _⟩
  · exact ⟨none, 0, 0, [], rfl, rfl, Nat.le_refl _, Nat.zero_le _, .inl rfl, by simp⟩
  · rw [ce] at hx
    have each : ∀ i, i < len → ∃ b : α, ok b ∧ ∀ j, j < m → w.cell? (a.add (i * m + j)) = (enc' b)[j]? := by
      intro i hi
      have h1 := hx i hi
      have h2 : elems[i]?.isSome = true := by simp [hel, hi]
      obtain ⟨q, hq⟩ := Option.isSome_iff_exists.1 h2
      rw [hq] at h1
      obtain ⟨cs', g1, g2⟩ := Option.bind_eq_some_iff.1 h1
      obtain ⟨_, _, hcell⟩ := World.cells?_some g1
      obtain ⟨b, rfl, hb⟩ := hop g2 rfl
      refine ⟨b, hb, fun j hj => ?_⟩
      rw [← Go.Deep.add_add]
      exact hcell j hj
    obtain ⟨q, hq⟩ := Go.Deep.choose_lt each
    refine ⟨some a, len, cap, (List.range len).map q, rfl, by simp, hl, hc, ?_, fun x hx => ?_⟩
    · by_cases h0 : len = 0
      · left; simp [h0]
      · right
        have h1 := (hq 0 (by omega)).2 0 hm0
        rw [List.getElem?_eq_getElem (by rw [hm]; exact hm0)] at h1
        have hsp : a.spot = none := by
          unfold World.cell? at h1
          split at h1
          · split at h1
            · cases h1
            · rename_i hn
              simpa [Addr.add] using hn
          · cases h1
        have hlt : a.block < w.heap.size := by
          unfold World.cell? at h1
          split at h1
          · rename_i hh
            have hh2 := (Array.getElem?_eq_some_iff.1 hh).1
            simpa [Addr.add] using hh2
          · cases h1
        obtain ⟨bb, o, s⟩ := a
        cases hsp
        refine ⟨bb, o, rfl, hlt, fun j v hv => ?_⟩
        have hjl := (List.getElem?_eq_some_iff.1 hv).1
        rw [flat_len enc' m hm] at hjl
        have hj : j < len * m := by simpa using hjl
        have hk : j / m < len := (Nat.div_lt_iff_lt_mul hm0).2 hj
        have hr : j % m < m := Nat.mod_lt _ hm0
        have hd := Nat.div_add_mod j m
        have hjm : j / m * m + j % m = j := by rw [Nat.mul_comm]; exact hd
        have h2 := (hq (j / m) hk).2 (j % m) hr
        have h3 := flat_get enc' m hm ((List.range len).map q) (j / m) (by simpa using hk) (j % m) hr
        rw [hjm] at h2 h3
        rw [h3] at hv
        have e : (Addr.add ⟨bb, o, none⟩ j) = ⟨bb, o + j, none⟩ := by unfold Addr.add; split <;> simp_all
        rw [e] at h2
        rw [h2, ← hv]
        simp
    · obtain ⟨i, hi, rfl⟩ := List.mem_map.1 hx
      exact (hq i (List.mem_range.1 hi)).1
structure MemI (m : Mem) : Prop where
  name : m.name.size ≤ 9223372036854775807
  boxes : ∀ x, x ∈ m.boxes → BxI x
  holes : ∀ x, x ∈ m.holes → BxI x
  cover : I64 m.cover
  aggr : I64 m.aggr
  poker : I64 m.poker
end
end Go.Proofs.Ytnjflafaflalfaa
namespace Go.Proofs.Ytnjflafaflalfaa
open Go.ChangeShapes Go.WideShapes Go.ChangeAt Go.RowKit
section
variable {H : Type} {enc : TypeId × Value → H} {w : World} {base : Nat} {sp : Nat → Bool} {hd : Bool}
theorem cellsSpan : Try.prog.cellsOf 27 = 2 := by kernel_rfl
instance : Inhabited Sp := ⟨⟨0, 0⟩⟩
structure SpI (s : Sp) : Prop where
  lo : I64 s.lo
  hi : I64 s.hi
theorem opn_span {fuel : Nat} {cs : List Value} {y : Option (DataW H × List MemPlace)} (h : DataW.trod enc Try.prog w base sp hd fuel 27 cs = y) (hy : y.isSome = true) :
    ∃ p : Sp, cs = spC p ∧ SpI p := by
  obtain ⟨z, rfl⟩ := Option.isSome_iff_exists.1 hy
  obtain ⟨xs, n, _, _, hl, hxl, hg⟩ := DataW.trod_struct Try.underlying27 h
  rw [cellsSpan] at hl
  obtain ⟨c0, c1, rfl⟩ := len2 hl
  have hs : ∀ i, i < 2 → xs[i]?.isSome = true := fun i hi => by
    have : xs.length = 2 := hxl
    simp [this, hi]
  obtain ⟨n0, e0, b0⟩ := opn_int (hg 0 _ rfl) (hs 0 (by decide))
  obtain ⟨n1, e1, b1⟩ := opn_int (hg 1 _ rfl) (hs 1 (by decide))
  simp [cellsInt] at e0 e1
  subst e0 e1
  exact ⟨⟨n0, n1⟩, rfl, ⟨b0, b1⟩⟩
theorem opn_spans {fuel : Nat} {cs : List Value} {y : Option (DataW H × List MemPlace)} (h : DataW.trod enc Try.prog w base sp hd fuel 22 cs = y) (hy : y.isSome = true) :
    ∃ (A : Option Addr) (n c : Nat) (xs : List Sp), cs = [.slice A n c] ∧ xs.length = n ∧ n ≤ c ∧ c ≤ maxLen ∧ Cells w w.heap.size A (xs.flatMap spC) ∧ ∀ x, x ∈ xs → SpI x :=
  opn_rows Try.underlying22 spC 2 (by decide) spC_len cellsSpan SpI (fun h hy => opn_span h hy) h hy
theorem arg_spans {A : Option Addr} {n c : Nat} {d : DataW H} {p : List MemPlace} (h : DataW.Trod enc Try.prog w base sp hd 22 (.slice A n c) d p) :
    ∃ (xs : List Sp), xs.length = n ∧ n ≤ c ∧ c ≤ maxLen ∧ Cells w w.heap.size A (xs.flatMap spC) ∧ ∀ x, x ∈ xs → SpI x := by
  obtain ⟨fuel, hf⟩ := h
  obtain ⟨A', n', c', xs, he, h1, h2, h3, h4, h5⟩ := opn_spans hf rfl
  have he' : [Value.slice A n c] = [Value.slice A' n' c'] := he
  injection he' with he' _
  injection he' with e1 e2 e3
  subst e1 e2 e3
  exact ⟨xs, h1, h2, h3, h4, h5⟩
end
end Go.Proofs.Ytnjflafaflalfaa
