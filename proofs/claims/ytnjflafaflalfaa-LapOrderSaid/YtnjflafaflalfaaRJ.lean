/- The first place at which a test answers yes, and whether it does somewhere (no program in sight). -/
set_option linter.unusedVariables false
set_option linter.unusedSimpArgs false
namespace Go.Proofs.Ytnjflafaflalfaa
def idxf {α : Type} (xs : List α) (p : α → Bool) : Int := match xs.findIdx? p with | some k => k | none => -1
theorem idxf_hit {α : Type} {xs : List α} {p : α → Bool} {k : Nat} (hk : k < xs.length) (hx : p xs[k] = true) (hno : ∀ j (h : j < xs.length), j < k → p xs[j] = false) : idxf xs p = k := by
  have : xs.findIdx? p = some k := by
    rw [List.findIdx?_eq_some_iff_getElem]
    exact ⟨hk, hx, fun j hj => by simpa using hno j (by omega) hj⟩
  simp [idxf, this]
theorem idxf_miss {α : Type} {xs : List α} {p : α → Bool} (hno : ∀ j (h : j < xs.length), p xs[j] = false) : idxf xs p = -1 := by
  have : xs.findIdx? p = none := by
    rw [List.findIdx?_eq_none_iff]
    intro y hy
    obtain ⟨j, hj, rfl⟩ := List.mem_iff_getElem.1 hy
    simpa using hno j hj
  simp [idxf, this]
theorem idxf_ge {α : Type} (xs : List α) (p : α → Bool) : decide (0 ≤ idxf xs p) = xs.any p := by
  unfold idxf
  split
  · rename_i k hk
    obtain ⟨h1, h2, _⟩ := List.findIdx?_eq_some_iff_getElem.1 hk
    have : xs.any p = true := List.any_eq_true.2 ⟨_, List.getElem_mem h1, h2⟩
    simp [this]
  · rename_i hk
    rw [List.findIdx?_eq_none_iff] at hk
    have : xs.any p = false := by
      rw [List.any_eq_false]
      exact fun x hx => by simp [hk x hx]
    simp [this]
def anyb {α : Type} (xs : List α) (p : α → Bool) : Bool := xs.any p
end Go.Proofs.Ytnjflafaflalfaa
