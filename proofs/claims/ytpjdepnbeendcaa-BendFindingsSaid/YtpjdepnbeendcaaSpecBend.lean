/- Bends as plain data: radii, arcs, developed and cutting lengths, masses (no program in sight). -/
import Derived.Test.YtpjdepnbeendcaaLaw12W
set_option linter.unusedVariables false
set_option linter.unusedSimpArgs false
namespace Go.Proofs.Ytpjdepnbeendcaa
namespace S
def radius (d : Int) : Int := if d ≤ 16 then 5 * d / 2 else 4 * d
def arcLo (d : Int) : Int := 500 * radius d * 333 / 106
def arcHi (d : Int) : Int := (500 * radius d * 355 + 112) / 113
/-- What a corner saves. -/
def allowLo (d : Int) : Int := 2000 * radius d - arcHi d
def allowHi (d : Int) : Int := 2000 * radius d - arcLo d
def bends (b : Bar) : Int := ((legsOf b.code).length : Int) - 1
def legSum (b : Bar) : Int := sum (legLens b)
def devLo (b : Bar) : Int := 1000 * legSum b - bends b * allowHi b.size
def devHi (b : Bar) : Int := 1000 * legSum b - bends b * allowLo b.size
def cut (b : Bar) : Int := max 5 (5 * ((max 0 (devHi b) + 4999) / 5000))
def massOf (d n : Int) : Int := (6165 * d * d * n + 500000) / 1000000
def mass (b : Bar) : Int := b.count * massOf b.size (cut b)
end S
theorem size_cases {d : Int} (h : S.size d = true) : d = 6 ∨ d = 8 ∨ d = 10 ∨ d = 12 ∨ d = 16 ∨ d = 20 ∨ d = 25 ∨ d = 32 ∨ d = 40 := by
  simp [S.size, S.has, S.sizes] at h
  omega
/-- The bounds of radius and arc. -/
theorem arc_bd {d : Int} (h : S.size d = true) : 15 ≤ S.radius d ∧ S.radius d ≤ 160 ∧ 1410 * S.radius d < S.arcLo d ∧ S.arcLo d < S.arcHi d ∧ S.arcHi d < 2000 * S.radius d ∧ S.arcHi d - S.arcLo d ≤ 1 + S.radius d / 10 + 2 := by
  rcases size_cases h with rfl | rfl | rfl | rfl | rfl | rfl | rfl | rfl | rfl <;> decide
theorem bar_size {b : Bar} (h : S.bar b = true) : S.size b.size = true := by
  simp only [S.bar, S.barHead, Bool.and_eq_true, beq_iff_eq] at h
  exact h.1.1.1.1.2
theorem bar_count {b : Bar} (h : S.bar b = true) : 1 ≤ b.count ∧ b.count ≤ 1000 := by
  simp only [S.bar, S.barHead, Bool.and_eq_true, beq_iff_eq, decide_eq_true_eq] at h
  exact ⟨h.1.1.1.2, h.1.1.2⟩
theorem allow_bd {d : Int} (h : S.size d = true) : 1 ≤ S.allowLo d ∧ S.allowLo d < S.allowHi d ∧ S.allowHi d ≤ 320000 := by
  obtain ⟨h1, h2, h3, h4, h5, h6⟩ := arc_bd h
  unfold S.allowLo S.allowHi
  omega
theorem legs_bd (code : Int) (h : 1 ≤ (S.legsOf code).length) : 0 ≤ ((S.legsOf code).length : Int) - 1 ∧ ((S.legsOf code).length : Int) - 1 ≤ 5 := by
  have := legs_len code
  omega
/-- A small number times a bounded one. -/
theorem mul5_bd {n x : Int} (h0 : 0 ≤ n) (h1 : n ≤ 5) (h2 : 0 ≤ x) (h3 : x ≤ 320000) : 0 ≤ n * x ∧ n * x ≤ 1600000 := by
  have a := Int.mul_nonneg h0 h2
  have b := Int.mul_le_mul h1 h3 h2 (by omega)
  omega
theorem dev_bd {b : Bar} (h : S.bar b = true) : -1600000 ≤ S.devLo b ∧ S.devLo b ≤ S.devHi b ∧ S.devHi b ≤ 524288000 ∧ 1 ≤ S.legSum b ∧ S.legSum b ≤ 524288 := by
  obtain ⟨h1, h2⟩ := legs_sum h
  obtain ⟨a1, a2, a3⟩ := allow_bd (bar_size h)
  obtain ⟨l0, l1⟩ := legs_bd b.code h2
  have hp := lens_pos h
  have h3 := sum_take_le hp 1
  have h4 : 1 ≤ S.sum ((S.legLens b).take 1) := by
    obtain ⟨n, _, g2, g3, _⟩ := lens_get b h (k := 0) (by omega)
    have := sum_take_snoc g2
    simp [S.sum] at this ⊢
    rw [this]
    exact g3
  have e1 := mul5_bd l0 l1 (x := S.allowLo b.size) (by omega) (by omega)
  have e2 := mul5_bd l0 l1 (x := S.allowHi b.size) (by omega) (by omega)
  have e3 := Int.mul_le_mul_of_nonneg_left (Int.le_of_lt a2) l0
  unfold S.devLo S.devHi S.bends S.legSum
  omega
theorem cut_bd {b : Bar} (h : S.bar b = true) : 5 ≤ S.cut b ∧ S.cut b ≤ 524300 := by
  have := dev_bd h
  unfold S.cut
  omega
theorem mass_bd {d n : Int} (h : S.size d = true) (h0 : 0 ≤ n) (h1 : n ≤ 1048576) : 0 ≤ S.massOf d n ∧ S.massOf d n ≤ 20000000 := by
  unfold S.massOf
  rcases size_cases h with rfl | rfl | rfl | rfl | rfl | rfl | rfl | rfl | rfl <;> omega
end Go.Proofs.Ytpjdepnbeendcaa
