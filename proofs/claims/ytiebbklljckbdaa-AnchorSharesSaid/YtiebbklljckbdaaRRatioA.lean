/- Contracts of the reference for layer 2, for magnitudes below 2^61: Size, Half, Less, Minus, Plus, Div, equality. -/
import Derived.Test.YtiebbklljckbdaaRows
import Derived.Test.YtiebbklljckbdaaFlat
import Derived.Test.YtiebbklljckbdaaRow
import Derived.Test.YtiebbklljckbdaaTail
import Derived.PlainAid
set_option linter.unusedVariables false
set_option linter.unusedSimpArgs false
namespace Go.Proofs.Ytiebbklljckbdaa
open Go.RowKit
abbrev uV (n : Nat) : Value := .agg #[.int .u64 0, .int .u64 (n : Int)]
theorem g_both (x y : Nat) (hx : x % 2 = 0) (hy : y % 2 = 0) : Nat.gcd (x / 2) (y / 2) * 2 = Nat.gcd x y := by
  have h := Nat.gcd_mul_left 2 (x/2) (y/2)
  rw [show 2 * (x/2) = x by omega, show 2 * (y/2) = y by omega] at h
  omega
theorem g_left (x y : Nat) (hx : x % 2 = 0) (hy : y % 2 = 1) : Nat.gcd (x / 2) y = Nat.gcd x y := by
  have hc : Nat.Coprime 2 y := by
    unfold Nat.Coprime
    rw [Nat.gcd_rec, hy]
    rfl
  have h := Nat.Coprime.gcd_mul_left_cancel (x/2) hc
  rw [show 2 * (x/2) = x by omega] at h
  exact h.symm
theorem g_right (x y : Nat) (hx : x % 2 = 1) (hy : y % 2 = 0) : Nat.gcd x (y / 2) = Nat.gcd x y := by
  rw [Nat.gcd_comm, g_left y x hy hx, Nat.gcd_comm]
theorem g_sub (x y : Nat) (h : y ≤ x) : Nat.gcd (x - y) y = Nat.gcd x y := Nat.gcd_sub_self_left h
theorem rsz2_any (n : Int) (w : World) (h0 : 0 ≤ n) (h1 : n ≤ 1152921504606846976) :
    Calls Try.prog 81 #[.int .i64 n] w fun e w' => e = .returned (.int .u64 n) ∧ w = w' := by
  have e := PlainAid.u64_nonneg h0 (by omega)
  go_enter Try.func81, Try.ntmps81
  go_wp2
  go_ret
  exact ⟨rfl, rfl⟩
theorem u64_nat (n : Nat) (h : n ≤ 1152921504606846976) : IntKind.u64.wrap (n : Int) = n := PlainAid.u64_nonneg (by omega) (by omega)
theorem half_any (a : Nat) (w : World) (h : a ≤ 1152921504606846976) :
    Calls Try.prog 108 #[uV a] w fun e w' => e = .returned (uV (a / 2)) ∧ Below w.heap.size w w' := by
  unfold uV
  go_enter Try.func108, Try.ntmps108
  go_wp2
  exact bodyPost_ret (v := uV (a / 2)) (by simp [results, Try.results108, go_sem, *]) rfl ⟨rfl, (by repeat (first | exact Below.refl _ _ | assumption | refine ba_alloc ?_ _ | refine ba_drew ?_ | refine ba_drewN ?_ _ | refine ba_via (by assumption) ?_ | (refine ba_set ?_ ?_ _; rotate_left; (first | omega | (simp; omega) | simp))))⟩
theorem less_any (a b : Nat) (w : World) :
    Calls Try.prog 109 #[uV a, uV b] w fun e w' => e = .returned (.bool (decide (a < b))) ∧ Below w.heap.size w w' := by
  unfold uV
  go_enter Try.func109, Try.ntmps109
  go_wp2
  go_ret
  exact ⟨rfl, (by repeat (first | exact Below.refl _ _ | assumption | refine ba_alloc ?_ _ | refine ba_drew ?_ | refine ba_drewN ?_ _ | refine ba_via (by assumption) ?_ | (refine ba_set ?_ ?_ _; rotate_left; (first | omega | (simp; omega) | simp))))⟩
theorem minus_any (a b : Nat) (w : World) (h : a ≤ 1152921504606846976) (hb : b ≤ a) :
    Calls Try.prog 110 #[uV a, uV b] w fun e w' => e = .returned (uV (a - b)) ∧ Below w.heap.size w w' := by
  unfold uV
  have h1 : ¬ (a : Int) < b := by omega
  have e : (a : Int) - (b : Int) = ((a - b : Nat) : Int) := by omega
  go_enter Try.func110, Try.ntmps110
  go_wp2
  exact bodyPost_ret (v := uV (a - b)) (by simp [results, Try.results110, go_sem, *]) rfl ⟨rfl, (by repeat (first | exact Below.refl _ _ | assumption | refine ba_alloc ?_ _ | refine ba_drew ?_ | refine ba_drewN ?_ _ | refine ba_via (by assumption) ?_ | (refine ba_set ?_ ?_ _; rotate_left; (first | omega | (simp; omega) | simp))))⟩
theorem plus_any (a b : Nat) (w : World) (h : a ≤ 1152921504606846976) (hb : b ≤ 1152921504606846976) :
    Calls Try.prog 111 #[uV a, uV b] w fun e w' => e = .returned (uV (a + b)) ∧ Below w.heap.size w w' := by
  unfold uV
  have h1 : ¬ (a : Int) + b < b := by omega
  go_enter Try.func111, Try.ntmps111
  go_wp2
  exact bodyPost_ret (v := uV (a + b)) (by simp [results, Try.results111, go_sem, *]) rfl ⟨rfl, (by repeat (first | exact Below.refl _ _ | assumption | refine ba_alloc ?_ _ | refine ba_drew ?_ | refine ba_drewN ?_ _ | refine ba_via (by assumption) ?_ | (refine ba_set ?_ ?_ _; rotate_left; (first | omega | (simp; omega) | simp))))⟩
set_option maxRecDepth 100000 in
set_option maxHeartbeats 2000000 in
theorem div_any (a b : Nat) (w : World) (h : a ≤ 1152921504606846976) (hb : b ≤ 1152921504606846976) (hb0 : 1 ≤ b) :
    Calls Try.prog 102 #[uV a, uV b] w fun e w' => e = .returned (.tuple #[uV (a / b), uV (a % b)]) ∧ Below w.heap.size w w' := by
  unfold uV
  have hz : ((b : Int) == 0) = false := by simp; omega
  have hq : a / b ≤ a := Nat.div_le_self a b
  have e1 : IntKind.u64.wrap ((a : Int) / (b : Int)) = (a : Int) / (b : Int) := by
    have := u64_nat (a / b) (Nat.le_trans hq h)
    rw [Int.natCast_ediv] at this
    exact this
  clear hq
  go_enter Try.func102, Try.ntmps102
  go_wp2
  go_region
  go_wp2
  exact bodyPost_ret (v := .tuple #[.agg #[.int .u64 0, .int .u64 ((a : Int) / (b : Int))], .agg #[.int .u64 0, .int .u64 ((a : Int) % (b : Int))]]) (by simp [results, Try.results102, go_sem, *]) rfl ⟨by rw [Int.natCast_ediv, Int.natCast_emod], (by repeat (first | exact Below.refl _ _ | assumption | refine ba_alloc ?_ _ | refine ba_drew ?_ | refine ba_drewN ?_ _ | refine ba_via (by assumption) ?_ | (refine ba_set ?_ ?_ _; rotate_left; (first | omega | (simp; omega) | simp))))⟩
end Go.Proofs.Ytiebbklljckbdaa
