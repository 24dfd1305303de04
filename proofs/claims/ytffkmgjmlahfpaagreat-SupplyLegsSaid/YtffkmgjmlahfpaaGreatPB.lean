/- Sizes of bars, as plain functions (no program in sight). -/
set_option linter.unusedVariables false
set_option linter.unusedSimpArgs false
namespace Go.Proofs.YtffkmgjmlahfpaaGreat
namespace S
def sizes : List Int := [6, 8, 10, 12, 16, 20, 25, 32, 40]
def has (xs : List Int) (x : Int) : Bool := xs.contains x
def size (d : Int) : Bool := has sizes d
end S
theorem has_of {xs : List Int} {x : Int} {k : Nat} (hk : k < xs.length) (h : xs[k] = x) : S.has xs x = true := by
  have : x ∈ xs := h ▸ List.getElem_mem hk
  simp [S.has, this]
theorem has_not {xs : List Int} {x : Int} (h : ∀ j, j < xs.length → xs[j]? ≠ some x) : S.has xs x = false := by
  have : x ∉ xs := fun hx => by
    obtain ⟨j, hj, rfl⟩ := List.mem_iff_getElem.1 hx
    exact h j hj (List.getElem?_eq_getElem hj)
  simp [S.has, this]
theorem size_bd {d : Int} (h : S.size d = true) : 6 ≤ d ∧ d ≤ 40 := by
  simp [S.size, S.has, S.sizes] at h
  omega
end Go.Proofs.YtffkmgjmlahfpaaGreat
