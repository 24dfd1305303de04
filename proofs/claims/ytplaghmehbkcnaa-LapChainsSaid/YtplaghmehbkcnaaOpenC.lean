/- Opening arguments: boxes, slices of boxes, members. -/
import Derived.Test.YtplaghmehbkcnaaOpenA
import Derived.Test.YtplaghmehbkcnaaSolidA
import Derived.Deep.Slices
set_option linter.unusedVariables false
set_option linter.unusedSimpArgs false
namespace Go.Proofs.Ytplaghmehbkcnaa
open Go.ChangeShapes Go.WideShapes Go.ChangeAt Go.RowKit
section
variable {H : Type} {enc : TypeId × Value → H} {w : World} {base : Nat} {sp : Nat → Bool} {hd : Bool}
theorem cellsStr : Try.prog.cellsOf 9 = 1 := by kernel_rfl
theorem cellsPt : Try.prog.cellsOf 91 = 3 := by kernel_rfl
theorem cellsBox : Try.prog.cellsOf 97 = 6 := by kernel_rfl
theorem cellsBoxes : Try.prog.cellsOf 45 = 1 := by kernel_rfl
theorem cellsSolid : Try.prog.cellsOf 47 = 2 := by kernel_rfl
theorem cellsMember : Try.prog.cellsOf 49 = 6 := by kernel_rfl
theorem opn_str {fuel : Nat} {cs : List Value} {y : Option (DataW H × List MemPlace)} (h : DataW.trod enc Try.prog w base sp hd fuel 9 cs = y) (hy : y.isSome = true) : ∃ s : ByteArray, cs = [.string s] ∧ s.size ≤ maxLen := by
  obtain ⟨z, rfl⟩ := Option.isSome_iff_exists.1 hy
  obtain ⟨s, rfl, _, hw⟩ := DataW.trod_string Try.underlying9 h
  exact ⟨s, rfl, hw⟩
theorem len3 {α : Type} {l : List α} (h : l.length = 3) : ∃ a b c, l = [a, b, c] := by
  match l, h with
  | [a, b, c], _ => exact ⟨a, b, c, rfl⟩
theorem len2 {α : Type} {l : List α} (h : l.length = 2) : ∃ a b, l = [a, b] := by
  match l, h with
  | [a, b], _ => exact ⟨a, b, rfl⟩
theorem len6 {α : Type} {l : List α} (h : l.length = 6) : ∃ a b c d e f, l = [a, b, c, d, e, f] := by
  match l, h with
  | [a, b, c, d, e, f], _ => exact ⟨a, b, c, d, e, f, rfl⟩
structure PtI (p : Pt) : Prop where
  x : I64 p.x
  y : I64 p.y
  z : I64 p.z
structure BxI (b : Bx) : Prop where
  lo : PtI b.lo
  hi : PtI b.hi
theorem opn_pt {fuel : Nat} {cs : List Value} {y : Option (DataW H × List MemPlace)} (h : DataW.trod enc Try.prog w base sp hd fuel 91 cs = y) (hy : y.isSome = true) :
    ∃ p : Pt, cs = [.int .i64 p.x, .int .i64 p.y, .int .i64 p.z] ∧ PtI p := by
  obtain ⟨z, rfl⟩ := Option.isSome_iff_exists.1 hy
  obtain ⟨xs, n, _, _, hl, hxl, hg⟩ := DataW.trod_struct Try.underlying91 h
  rw [cellsPt] at hl
  obtain ⟨c0, c1, c2, rfl⟩ := len3 hl
  have hs : ∀ i, i < 3 → xs[i]?.isSome = true := fun i hi => by
    have : xs.length = 3 := hxl
    simp [this, hi]
  obtain ⟨n0, e0, b0⟩ := opn_int (hg 0 _ rfl) (hs 0 (by decide))
  obtain ⟨n1, e1, b1⟩ := opn_int (hg 1 _ rfl) (hs 1 (by decide))
  obtain ⟨n2, e2, b2⟩ := opn_int (hg 2 _ rfl) (hs 2 (by decide))
  simp [cellsInt] at e0 e1 e2
  subst e0 e1 e2
  exact ⟨⟨n0, n1, n2⟩, rfl, ⟨b0, b1, b2⟩⟩
theorem opn_box {fuel : Nat} {cs : List Value} {y : Option (DataW H × List MemPlace)} (h : DataW.trod enc Try.prog w base sp hd fuel 97 cs = y) (hy : y.isSome = true) :
    ∃ b : Bx, cs = boxC b ∧ BxI b := by
  obtain ⟨z, rfl⟩ := Option.isSome_iff_exists.1 hy
  obtain ⟨xs, n, _, _, hl, hxl, hg⟩ := DataW.trod_struct Try.underlying97 h
  rw [cellsBox] at hl
  obtain ⟨c0, c1, c2, c3, c4, c5, rfl⟩ := len6 hl
  have hs : ∀ i, i < 2 → xs[i]?.isSome = true := fun i hi => by
    have : xs.length = 2 := hxl
    simp [this, hi]
  obtain ⟨p0, e0, b0⟩ := opn_pt (hg 0 _ rfl) (hs 0 (by decide))
  obtain ⟨p1, e1, b1⟩ := opn_pt (hg 1 _ rfl) (hs 1 (by decide))
  simp [cellsPt] at e0 e1
  obtain ⟨rfl, rfl, rfl⟩ := e0
  obtain ⟨rfl, rfl, rfl⟩ := e1
  exact ⟨⟨p0, p1⟩, rfl, ⟨b0, b1⟩⟩
/-- A slice of records, opened. -/
theorem opn_rows {α : Type} [Inhabited α] {t e : TypeId} (ht : Try.prog.underlying t = some (.slice e)) (enc' : α → List Value) (m : Nat) (hm0 : 0 < m) (hm : ∀ a, (enc' a).length = m) (ce : Try.prog.cellsOf e = m) (ok : α → Prop)
    (hop : ∀ {fuel : Nat} {cs : List Value} {y : Option (DataW H × List MemPlace)}, DataW.trod enc Try.prog w base sp hd fuel e cs = y → y.isSome = true → ∃ b : α, cs = enc' b ∧ ok b)
    {fuel : Nat} {cs : List Value} {y : Option (DataW H × List MemPlace)} (h : DataW.trod enc Try.prog w base sp hd fuel t cs = y) (hy : y.isSome = true) :
    ∃ (A : Option Addr) (n c : Nat) (xs : List α), cs = [.slice A n c] ∧ xs.length = n ∧ n ≤ c ∧ c ≤ maxLen ∧ Cells w w.heap.size A (xs.flatMap enc') ∧ ∀ x, x ∈ xs → ok x := by
  obtain ⟨z, rfl⟩ := Option.isSome_iff_exists.1 hy
  rcases DataW.trod_slice ht h with ⟨rfl, _⟩ | ⟨a, len, cap, elems, rest, n, _, rfl, _, _, hl, hc, hel, hx, _, _⟩
  · exact ⟨none, 0, 0, [], rfl, rfl, Nat.le_refl _, Nat.zero_le _, .inl rfl, by simp⟩
  · rw [ce] at hx
    have each : ∀ i, i < len → ∃ b : α, ok b ∧ ∀ j, j < m → w.cell? (a.add (i * m + j)) = (enc' b)[j]? := by
      intro i hi
      have h1 := hx i hi
      have h2 : elems[i]?.isSome = true := by simp [hel, hi]
      obtain ⟨q, hq⟩ := Option.isSome_iff_exists.1 h2
      rw [hq] at h1
      obtain ⟨cs', g1, g2⟩ := Option.bind_eq_some_iff.1 h1
      obtain ⟨_, _, hcell⟩ := World.cells?_some g1
      obtain ⟨b, rfl, hb⟩ := hop g2 rfl
      refine ⟨b, hb, fun j hj => ?_⟩
      rw [← Go.Deep.add_add]
      exact hcell j hj
    obtain ⟨q, hq⟩ := Go.Deep.choose_lt each
    refine ⟨some a, len, cap, (List.range len).map q, rfl, by simp, hl, hc, ?_, fun x hx => ?_⟩
    · by_cases h0 : len = 0
      · left; simp [h0]
      · right
        have h1 := (hq 0 (by omega)).2 0 hm0
        rw [List.getElem?_eq_getElem (by rw [hm]; exact hm0)] at h1
        have hsp : a.spot = none := by
          unfold World.cell? at h1
          split at h1
          · split at h1
            · cases h1
            · rename_i hn
              simpa [Addr.add] using hn
          · cases h1
        have hlt : a.block < w.heap.size := by
          unfold World.cell? at h1
          split at h1
          · rename_i hh
            have hh2 := (Array.getElem?_eq_some_iff.1 hh).1
            simpa [Addr.add] using hh2
          · cases h1
        obtain ⟨bb, o, s⟩ := a
        cases hsp
        refine ⟨bb, o, rfl, hlt, fun j v hv => ?_⟩
        have hjl := (List.getElem?_eq_some_iff.1 hv).1
        rw [flat_len enc' m hm] at hjl
        have hj : j < len * m := by simpa using hjl
        have hk : j / m < len := (Nat.div_lt_iff_lt_mul hm0).2 hj
        have hr : j % m < m := Nat.mod_lt _ hm0
        have hd := Nat.div_add_mod j m
        have hjm : j / m * m + j % m = j := by rw [Nat.mul_comm]; exact hd
        have h2 := (hq (j / m) hk).2 (j % m) hr
        have h3 := flat_get enc' m hm ((List.range len).map q) (j / m) (by simpa using hk) (j % m) hr
        rw [hjm] at h2 h3
        rw [h3] at hv
        have e : (Addr.add ⟨bb, o, none⟩ j) = ⟨bb, o + j, none⟩ := by unfold Addr.add; split <;> simp_all
        rw [e] at h2
        rw [h2, ← hv]
        simp
    · obtain ⟨i, hi, rfl⟩ := List.mem_map.1 hx
      exact (hq i (List.mem_range.1 hi)).1
instance : Inhabited Bx := ⟨⟨⟨0, 0, 0⟩, ⟨0, 0, 0⟩⟩⟩
theorem opn_boxes {fuel : Nat} {cs : List Value} {y : Option (DataW H × List MemPlace)} (h : DataW.trod enc Try.prog w base sp hd fuel 45 cs = y) (hy : y.isSome = true) :
    ∃ (A : Option Addr) (n c : Nat) (xs : List Bx), cs = [.slice A n c] ∧ xs.length = n ∧ n ≤ c ∧ c ≤ maxLen ∧ Cells w w.heap.size A (xs.flatMap boxC) ∧ ∀ x, x ∈ xs → BxI x :=
  opn_rows Try.underlying45 boxC 6 (by decide) boxC_len cellsBox BxI (fun h hy => opn_box h hy) h hy
theorem opn_solid {fuel : Nat} {cs : List Value} {y : Option (DataW H × List MemPlace)} (h : DataW.trod enc Try.prog w base sp hd fuel 47 cs = y) (hy : y.isSome = true) :
    ∃ (A : Option Addr) (n c : Nat) (A' : Option Addr) (n' c' : Nat) (xs hs : List Bx), cs = [.slice A n c, .slice A' n' c'] ∧ SolAt w w.heap.size A n A' n' xs hs ∧ n ≤ c ∧ c ≤ maxLen ∧ n' ≤ c' ∧ c' ≤ maxLen ∧ (∀ x, x ∈ xs → BxI x) ∧ ∀ x, x ∈ hs → BxI x := by
  obtain ⟨z, rfl⟩ := Option.isSome_iff_exists.1 hy
  obtain ⟨ys, n, _, _, hl, hxl, hg⟩ := DataW.trod_struct Try.underlying47 h
  rw [cellsSolid] at hl
  obtain ⟨c0, c1, rfl⟩ := len2 hl
  have hs : ∀ i, i < 2 → ys[i]?.isSome = true := fun i hi => by
    have : ys.length = 2 := hxl
    simp [this, hi]
  obtain ⟨A, n0, m0, xs, e0, h1, h2, h3, h4, h5⟩ := opn_boxes (hg 0 _ rfl) (hs 0 (by decide))
  obtain ⟨A', n1, m1, hs', e1, g1, g2, g3, g4, g5⟩ := opn_boxes (hg 1 _ rfl) (hs 1 (by decide))
  simp [cellsBoxes] at e0 e1
  subst e0 e1
  have hmx : maxLen ≤ 9223372036854775807 := by unfold maxLen; decide
  exact ⟨A, n0, m0, A', n1, m1, xs, hs', rfl, ⟨h1, by omega, g1, by omega, h4, g4⟩, h2, h3, g2, g3, h5, g5⟩
structure MemI (m : Mem) : Prop where
  name : m.name.size ≤ 9223372036854775807
  boxes : ∀ x, x ∈ m.boxes → BxI x
  holes : ∀ x, x ∈ m.holes → BxI x
  cover : I64 m.cover
  aggr : I64 m.aggr
  poker : I64 m.poker
theorem opn_member {fuel : Nat} {cs : List Value} {y : Option (DataW H × List MemPlace)} (h : DataW.trod enc Try.prog w base sp hd fuel 49 cs = y) (hy : y.isSome = true) :
    ∃ (m : Mem) (A : Option Addr) (n c : Nat) (A' : Option Addr) (n' c' : Nat), cs = (memV m A n c A' n' c').cells.toList ∧ SolAt w w.heap.size A n A' n' m.boxes m.holes ∧ n ≤ c ∧ c ≤ maxLen ∧ n' ≤ c' ∧ c' ≤ maxLen ∧ MemI m := by
  obtain ⟨z, rfl⟩ := Option.isSome_iff_exists.1 hy
  obtain ⟨ys, n, _, _, hl, hxl, hg⟩ := DataW.trod_struct Try.underlying49 h
  rw [cellsMember] at hl
  obtain ⟨c0, c1, c2, c3, c4, c5, rfl⟩ := len6 hl
  have hs : ∀ i, i < 5 → ys[i]?.isSome = true := fun i hi => by
    have : ys.length = 5 := hxl
    simp [this, hi]
  obtain ⟨s, e0, b0⟩ := opn_str (hg 0 _ rfl) (hs 0 (by decide))
  obtain ⟨A, n0, m0, A', n1, m1, xs, hs', e1, h1, h2, h3, h4, h5, h6, h7⟩ := opn_solid (hg 1 _ rfl) (hs 1 (by decide))
  obtain ⟨k2, e2, b2⟩ := opn_int (hg 2 _ rfl) (hs 2 (by decide))
  obtain ⟨k3, e3, b3⟩ := opn_int (hg 3 _ rfl) (hs 3 (by decide))
  obtain ⟨k4, e4, b4⟩ := opn_int (hg 4 _ rfl) (hs 4 (by decide))
  simp [cellsStr, cellsSolid, cellsInt] at e0 e1 e2 e3 e4
  obtain ⟨rfl, rfl⟩ := e1
  subst e0 e2 e3 e4
  have hmx : maxLen ≤ 9223372036854775807 := by unfold maxLen; decide
  exact ⟨⟨s, xs, hs', k2, k3, k4⟩, A, n0, m0, A', n1, m1, rfl, h1, h2, h3, h4, h5, ⟨by show s.size ≤ _; omega, h6, h7, b2, b3, b4⟩⟩
/-- An argument that is a member. -/
theorem arg_member {cs : Array Value} {d : DataW H} {p : List MemPlace} (h : DataW.Trod enc Try.prog w base sp hd 49 (.agg cs) d p) :
    ∃ (m : Mem) (A : Option Addr) (n c : Nat) (A' : Option Addr) (n' c' : Nat), cs = (memV m A n c A' n' c').cells ∧ SolAt w w.heap.size A n A' n' m.boxes m.holes ∧ n ≤ c ∧ c ≤ maxLen ∧ n' ≤ c' ∧ c' ≤ maxLen ∧ MemI m := by
  obtain ⟨fuel, hf⟩ := h
  obtain ⟨m, A, n, c, A', n', c', hr, hi⟩ := opn_member hf rfl
  refine ⟨m, A, n, c, A', n', c', ?_, hi⟩
  have : cs.toList = (memV m A n c A' n' c').cells.toList := hr
  exact Array.toList_inj.1 this
/-- An argument that is a box. -/
theorem arg_box {cs : Array Value} {d : DataW H} {p : List MemPlace} (h : DataW.Trod enc Try.prog w base sp hd 97 (.agg cs) d p) :
    ∃ b : Bx, cs = (boxV b).cells ∧ BxI b := by
  obtain ⟨fuel, hf⟩ := h
  obtain ⟨b, hr, hi⟩ := opn_box hf rfl
  refine ⟨b, ?_, hi⟩
  have : cs.toList = (boxV b).cells.toList := hr
  exact Array.toList_inj.1 this
end
end Go.Proofs.Ytplaghmehbkcnaa
