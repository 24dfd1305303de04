/- Sizes of bars, as plain functions (no program in sight). -/
set_option linter.unusedVariables false
set_option linter.unusedSimpArgs false
namespace Go.Proofs.Ytnjflafaflalfaa
namespace S
def sizes : List Int := [6, 8, 10, 12, 16, 20, 25, 32, 40]
def has (xs : List Int) (x : Int) : Bool := xs.contains x
def size (d : Int) : Bool := has sizes d
end S
theorem size_bd {d : Int} (h : S.size d = true) : 6 ≤ d ∧ d ≤ 40 := by
  simp [S.size, S.has, S.sizes] at h
  omega
end Go.Proofs.Ytnjflafaflalfaa
