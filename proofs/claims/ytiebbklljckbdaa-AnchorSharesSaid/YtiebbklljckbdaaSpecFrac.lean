/- What a fraction in lowest terms of two small numbers is (no program in sight). -/
import Derived.Test.YtiebbklljckbdaaFrac
import Derived.Test.YtiebbklljckbdaaSpecOrd
set_option linter.unusedVariables false
set_option linter.unusedSimpArgs false
namespace Go.Proofs.Ytiebbklljckbdaa
structure FracOf (N D m b : Int) : Prop where
  den : 1 ≤ D
  le : D ≤ b
  num : 0 ≤ N
  part : N ≤ D
  eq : N * b = m * D
  one : N = 1 ∧ D = 1 ↔ m = b
theorem fracOf {m b : Int} (h0 : 0 ≤ m) (h1 : m ≤ b) (hb : 1 ≤ b) : FracOf (m / gcdI m b) (b / gcdI m b) m b := by
  have g1 := gcdI_pos (n := m) hb
  have dm : gcdI m b ∣ m := by
    have := Nat.gcd_dvd_left m.toNat b.toNat
    rw [← Int.toNat_of_nonneg h0]
    exact Int.natCast_dvd_natCast.2 this
  have db : gcdI m b ∣ b := by
    have := Nat.gcd_dvd_right m.toNat b.toNat
    rw [← Int.toNat_of_nonneg (show 0 ≤ b by omega)]
    unfold gcdI
    rw [Int.toNat_natCast]
    exact Int.natCast_dvd_natCast.2 this
  obtain ⟨x, hx⟩ := dm
  obtain ⟨y, hy⟩ := db
  have hx' : m / gcdI m b = x := by conv => lhs; lhs; rw [hx]
                                    exact Int.mul_ediv_cancel_left _ (by omega)
  have hy' : b / gcdI m b = y := by conv => lhs; lhs; rw [hy]
                                    exact Int.mul_ediv_cancel_left _ (by omega)
  have hself : m = b → gcdI m b = b := fun h => by
    subst h
    unfold gcdI
    rw [Nat.gcd_self]
    omega
  rw [hx', hy']
  generalize gcdI m b = g at *
  have hx0 : 0 ≤ x := by
    rcases Int.lt_or_le x 0 with h | h
    · have := Int.mul_neg_of_pos_of_neg (show 0 < g by omega) h; omega
    · exact h
  have hy0 : 1 ≤ y := by
    rcases Int.lt_or_le y 1 with h | h
    · have := Int.mul_nonpos_of_nonneg_of_nonpos (show 0 ≤ g by omega) (show y ≤ 0 by omega); omega
    · exact h
  have hxy : x ≤ y := by
    have : g * x ≤ g * y := by omega
    exact Int.le_of_mul_le_mul_left this (by omega)
  refine ⟨hy0, ?_, hx0, hxy, ?_, ?_⟩
  · rw [hy]
    have := Int.mul_le_mul_of_nonneg_right g1 (show 0 ≤ y by omega)
    omega
  · rw [hx, hy]
    simp only [Int.mul_comm, Int.mul_left_comm]
  · constructor
    · rintro ⟨rfl, rfl⟩; omega
    · intro h
      have hgb := hself h
      subst hgb
      have hy1 : y = 1 := Int.eq_of_mul_eq_mul_left (show g ≠ 0 by omega) (by omega)
      have hx1 : x = 1 := Int.eq_of_mul_eq_mul_left (show g ≠ 0 by omega) (by omega)
      exact ⟨hx1, hy1⟩
theorem frac_mono {N D m N' D' m' b : Int} (h : FracOf N D m b) (h' : FracOf N' D' m' b) (hm : m ≤ m') : N * D' ≤ N' * D := by
  have hb : 0 < b := by have := h.den; have := h.le; omega
  have e1 : N * D' * b = m * (D * D') := by
    have : N * D' * b = N * b * D' := by simp only [Int.mul_comm, Int.mul_left_comm]
    rw [this, h.eq]
    simp only [Int.mul_comm, Int.mul_left_comm]
  have e2 : N' * D * b = m' * (D * D') := by
    have : N' * D * b = N' * b * D := by simp only [Int.mul_comm, Int.mul_left_comm]
    rw [this, h'.eq]
    simp only [Int.mul_comm, Int.mul_left_comm]
  have := Int.mul_le_mul_of_nonneg_right hm (Int.mul_nonneg (show 0 ≤ D by have := h.den; omega) (show 0 ≤ D' by have := h'.den; omega))
  exact Int.le_of_mul_le_mul_right (by omega) hb
end Go.Proofs.Ytiebbklljckbdaa
