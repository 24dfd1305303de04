/- Contracts: fractions made of small numbers (ratio). -/
import Derived.Test.YtiebbklljckbdaaTail
import Derived.Test.YtiebbklljckbdaaRows
import Derived.PlainAid
set_option linter.unusedVariables false
set_option linter.unusedSimpArgs false
namespace Go.Proofs.Ytiebbklljckbdaa
open Go.RowKit

theorem rsz_any (n : Int) (w : World) (h0 : 0 ≤ n) (h1 : n ≤ 1152921504606846976) :
    Calls Try.prog 72 #[.int .i64 n] w fun e w' => e = .returned (.int .u64 n) ∧ w = w' := by
  have e := PlainAid.u64_nonneg h0 (by omega)
  go_enter Try.func72, Try.ntmps72
  go_wp2
  go_ret
  exact ⟨rfl, rfl⟩
def gcdI (a b : Int) : Int := ((Nat.gcd a.toNat b.toNat : Nat) : Int)
theorem gcd_step (x y : Nat) (hy : 0 < y) : Nat.gcd y (x % y) = Nat.gcd x y := by
  rw [Nat.gcd_comm x y, Nat.gcd_rec y x, Nat.gcd_comm]
theorem gcd_any (a b : Nat) (w : World) (ha : a ≤ 1152921504606846976) (hb : b ≤ 1152921504606846976) :
    Calls Try.prog 73 #[.int .u64 a, .int .u64 b] w fun e w' => e = .returned (.int .u64 (Nat.gcd a b : Nat)) ∧ Below w.heap.size w w' := by
  go_enter Try.func73, Try.ntmps73
  go_wp2
  go_loopw [0, 1] (fun u v wr => ∃ x y : Nat, x ≤ 1152921504606846976 ∧ y ≤ 1152921504606846976 ∧ u = .int .u64 x ∧ v = .int .u64 y ∧ Hid (Nat.gcd x y = Nat.gcd a b) ∧ Below w.heap.size w wr) (fun _ v _ => (intOf v).toNat)
  case atStart => exact ⟨a, b, ha, hb, rfl, rfl, Lib.hid rfl, Below.refl _ _⟩
  case round =>
    obtain ⟨x, y, hx, hy, rfl, rfl, hg, hbr⟩ := hrel
    by_cases h0 : y = 0
    · have hz : (((y : Nat) : Int) != 0) = false := by simp [h0]
      have hg2 := Lib.hid h0
      clear h0
      go_wp2
      go_ret
      refine ⟨?_, (by repeat (first | exact Below.refl _ _ | assumption | refine ba_alloc ?_ _ | refine ba_drew ?_ | refine ba_drewN ?_ _ | refine ba_via (by assumption) ?_ | (refine ba_set ?_ ?_ _; rotate_left; (first | omega | (simp; omega) | simp))))⟩
      have h := hg.out
      rw [hg2.out, Nat.gcd_zero_right] at h
      simp [h]
    · have hz : (((y : Nat) : Int) != 0) = true := by simp; omega
      have hz' : (((y : Nat) : Int) == 0) = false := by simp; omega
      have hlt := Nat.mod_lt x (show 0 < y by omega)
      have hm : ((x : Int) % (y : Int)) = ((x % y : Nat) : Int) := by omega
      go_wp2_with fail
      go_quiet (fail)
      go_wp2
      go_roundw
      case rel => exact ⟨y, x % y, hy, by omega, rfl, rfl, Lib.hid ((gcd_step x y (by omega)).trans hg.out), (by repeat (first | exact Below.refl _ _ | assumption | refine ba_alloc ?_ _ | refine ba_drew ?_ | refine ba_drewN ?_ _ | refine ba_via (by assumption) ?_ | (refine ba_set ?_ ?_ _; rotate_left; (first | omega | (simp; omega) | simp))))⟩
      case measure => simp [intOf]; omega
theorem signed_any (a b : Int) (w : World) (ha0 : 0 ≤ a) (ha : a ≤ 1152921504606846976) (hb0 : 0 ≤ b) (hb : b ≤ 1152921504606846976) :
    Calls Try.prog 74 #[.bool false, .int .u64 a, .int .u64 b] w fun e w' => e = .returned (.tuple #[.agg #[.int .i64 a, .int .i64 b], .int .i64 0]) ∧ Below w.heap.size w w' := by
  go_enter Try.func74, Try.ntmps74
  go_wp2
  go_returns
  exact ⟨rfl, (by repeat (first | exact Below.refl _ _ | assumption | refine ba_alloc ?_ _ | refine ba_drew ?_ | refine ba_drewN ?_ _ | refine ba_via (by assumption) ?_ | (refine ba_set ?_ ?_ _; rotate_left; (first | omega | (simp; omega) | simp))))⟩
theorem gcdI_pos {n d : Int} (h : 1 ≤ d) : 1 ≤ gcdI n d := by
  have : 0 < Nat.gcd n.toNat d.toNat := Nat.gcd_pos_of_pos_right _ (by omega)
  unfold gcdI
  omega
theorem gcdI_le {n d : Int} (h : 1 ≤ d) : gcdI n d ≤ d := by
  have := Nat.gcd_le_right n.toNat (show 0 < d.toNat by omega)
  unfold gcdI
  omega
theorem div_bd {n g : Int} (h0 : 0 ≤ n) (hg : 1 ≤ g) : 0 ≤ n / g ∧ n / g ≤ n := ⟨Int.ediv_nonneg h0 (by omega), Int.ediv_le_self _ h0⟩
set_option maxRecDepth 10000 in
set_option maxHeartbeats 1000000 in
theorem make_any (n d : Int) (w : World) (h0 : 0 ≤ n) (h1 : n ≤ 1152921504606846976) (hd0 : 1 ≤ d) (hd : d ≤ 1152921504606846976) :
    Calls Try.prog 43 #[.int .i64 n, .int .i64 d] w fun e w' => e = .returned (.tuple #[.agg #[.int .i64 (n / gcdI n d), .int .i64 (d / gcdI n d)], .int .i64 0]) ∧ Below w.heap.size w w' := by
  have g1 := gcdI_pos (n := n) hd0
  have g2 := gcdI_le (n := n) hd0
  have gz : (gcdI n d == 0) = false := by simp; omega
  have q1 := div_bd h0 g1
  have q2 := div_bd (show 0 ≤ d by omega) g1
  have dz : (d == 0) = false := by simp; omega
  have hG : ∀ w : World, Calls Try.prog 73 #[.int .u64 n, .int .u64 d] w fun e w' => e = .returned (.int .u64 (gcdI n d)) ∧ Below w.heap.size w w' := fun w => by
    have := gcd_any n.toNat d.toNat w (by omega) (by omega)
    rw [Int.toNat_of_nonneg h0, Int.toNat_of_nonneg (by omega)] at this
    exact this
  have HG := Lib.hid hG
  clear hG
  have hn : decide (n < 0) = false := by simp; omega
  have hdn : decide (d < 0) = false := by simp; omega
  by_cases hz : n = 0
  · have nz : (n != 0) = false := by simp [hz]
    have HZ := Lib.hid hz
    clear hz
    go_enter Try.func43, Try.ntmps43
    go_wp2_with (first
      | (go_at_call 72; (with_reducible refine (rsz_any _ _ (by omega) (by omega)).mono ?_); rintro e w' ⟨rfl, rfl⟩)
      | (go_at_call 73; (with_reducible refine (HG.out _).mono ?_); rintro e w1 ⟨rfl, hbw1⟩; obtain ⟨hcw1, hfw1⟩ := bcell hbw1; have hzw1_0 : w.heap.size < w1.heap.size := lt_via hbw1 (by first | omega | (simp; done) | (simp; omega))))
    refine wp_region_grow_tail 18 (by kernel_rfl) (by kernel_rfl) ?_
    simp only [List.take_succ_cons, List.take_zero, List.drop_succ_cons, List.drop_zero]
    repeat (go_big_quiet_step ((go_at_call 74; exact grow_of (signed_any _ _ _ q1.1 (by omega) q2.1 (by omega)))))
    all_goals (refine wpQuiet_nil ?_; intro w2 hbw2; obtain ⟨hcw2, hfw2⟩ := bcell hbw2; have hzw2_0 : w.heap.size < w2.heap.size := lt_via hbw2 (by first | omega | (simp; done) | (simp; omega)))
    go_wp2
    exact bodyPost_ret (v := .tuple #[.agg #[.int .i64 (n / gcdI n d), .int .i64 (d / gcdI n d)], .int .i64 0]) (by simp [results, Try.results43, go_sem, *]) rfl ⟨rfl, (by repeat (first | exact Below.refl _ _ | assumption | refine ba_alloc ?_ _ | refine ba_drew ?_ | refine ba_drewN ?_ _ | refine ba_via (by assumption) ?_ | (refine ba_set ?_ ?_ _; rotate_left; (first | omega | (simp; omega) | simp))))⟩
  · have nz : (n != 0) = true := by simpa using hz
    go_enter Try.func43, Try.ntmps43
    go_wp2_with (first
      | (go_at_call 72; (with_reducible refine (rsz_any _ _ (by omega) (by omega)).mono ?_); rintro e w' ⟨rfl, rfl⟩)
      | (go_at_call 73; (with_reducible refine (HG.out _).mono ?_); rintro e w1 ⟨rfl, hbw1⟩; obtain ⟨hcw1, hfw1⟩ := bcell hbw1; have hzw1_0 : w.heap.size < w1.heap.size := lt_via hbw1 (by first | omega | (simp; done) | (simp; omega))))
    refine wp_region_grow_tail 18 (by kernel_rfl) (by kernel_rfl) ?_
    simp only [List.take_succ_cons, List.take_zero, List.drop_succ_cons, List.drop_zero]
    repeat (go_big_quiet_step ((go_at_call 74; exact grow_of (signed_any _ _ _ q1.1 (by omega) q2.1 (by omega)))))
    all_goals (refine wpQuiet_nil ?_; intro w2 hbw2; obtain ⟨hcw2, hfw2⟩ := bcell hbw2; have hzw2_0 : w.heap.size < w2.heap.size := lt_via hbw2 (by first | omega | (simp; done) | (simp; omega)))
    go_wp2
    exact bodyPost_ret (v := .tuple #[.agg #[.int .i64 (n / gcdI n d), .int .i64 (d / gcdI n d)], .int .i64 0]) (by simp [results, Try.results43, go_sem, *]) rfl ⟨rfl, (by repeat (first | exact Below.refl _ _ | assumption | refine ba_alloc ?_ _ | refine ba_drew ?_ | refine ba_drewN ?_ _ | refine ba_via (by assumption) ?_ | (refine ba_set ?_ ?_ _; rotate_left; (first | omega | (simp; omega) | simp))))⟩
end Go.Proofs.Ytiebbklljckbdaa
