/- Contracts of the reference for layer 2: Made, Make, for numbers from 0 to 2^60. -/
import Derived.Test.YtiebbklljckbdaaRGcd
import Derived.Test.YtiebbklljckbdaaFrac
set_option linter.unusedVariables false
set_option linter.unusedSimpArgs false
namespace Go.Proofs.Ytiebbklljckbdaa
open Go.RowKit
set_option maxRecDepth 100000 in
set_option maxHeartbeats 4000000 in
theorem made_any (n d : Nat) (w : World) (hn : n ≤ 1152921504606846976) (hd : d ≤ 1152921504606846976) (hd0 : 1 ≤ d) :
    Calls Try.prog 80 #[uV n, .bool false, uV d] w fun e w' => e = .returned (.tuple #[.agg #[.int .i64 ((n / Nat.gcd n d : Nat) : Int), .int .i64 ((d / Nat.gcd n d : Nat) : Int)], .int .i64 0]) ∧ Below w.heap.size w w' := by
  have q0 := run_eq_u d 0
  have q1 : (d == 0) = false := by simp; omega
  rw [q1] at q0
  clear q1
  have hg0 : 1 ≤ Nat.gcd n d := Nat.gcd_pos_of_pos_right _ (by omega)
  have hg1 := Nat.gcd_le_right n (show 0 < d by omega)
  have HG := Lib.hid (fun w => gcd2_any n d w hn hd hd0)
  generalize Nat.gcd n d = g at *
  have HN := Lib.hid (fun w => div_any n g w hn (by omega) hg0)
  have HD := Lib.hid (fun w => div_any d g w hd (by omega) hg0)
  have hn1 := Nat.le_trans (Nat.div_le_self n g) hn
  have hd1 := Nat.le_trans (Nat.div_le_self d g) hd
  generalize n / g = p at *
  generalize n % g = p' at *
  generalize d / g = q at *
  generalize d % g = q' at *
  have hp : ¬ (1152921504606846976 : Int) < p := by omega
  have hq : ¬ (1152921504606846976 : Int) < q := by omega
  have e1 : IntKind.i64.wrap (p : Int) = p := IntWalk.i64_in _ (by omega)
  have e2 : IntKind.i64.wrap (q : Int) = q := IntWalk.i64_in _ (by omega)
  unfold uV at *
  go_enter Try.func80, Try.ntmps80
  go_wp2_with (first
    | (go_at_call 101; (with_reducible refine (HG.out _).mono ?_); rintro e w1 ⟨rfl, hbw1⟩; obtain ⟨hcw1, hfw1⟩ := bcell hbw1; have hzw1_0 : w.heap.size < w1.heap.size := lt_via hbw1 (by first | omega | (simp; done) | (simp; omega)); have hzw1_1 : w.heap.size + 1 < w1.heap.size := lt_via hbw1 (by first | omega | (simp; done) | (simp; omega)); have hzw1_2 : w.heap.size + 1 + 1 < w1.heap.size := lt_via hbw1 (by first | omega | (simp; done) | (simp; omega)))
    | (go_at_call 102; (with_reducible refine (HN.out _).mono ?_); rintro e w2 ⟨rfl, hbw2⟩; obtain ⟨hcw2, hfw2⟩ := bcell hbw2; have hzw2_0 : w.heap.size < w2.heap.size := lt_via hbw2 (by first | omega | (simp; done) | (simp; omega)); have hzw2_1 : w.heap.size + 1 < w2.heap.size := lt_via hbw2 (by first | omega | (simp; done) | (simp; omega)); have hzw2_2 : w.heap.size + 1 + 1 < w2.heap.size := lt_via hbw2 (by first | omega | (simp; done) | (simp; omega)); have hzw2_3 : w1.heap.size < w2.heap.size := lt_via hbw2 (by first | omega | (simp; done) | (simp; omega)))
    | (go_at_call 102; (with_reducible refine (HD.out _).mono ?_); rintro e w3 ⟨rfl, hbw3⟩; obtain ⟨hcw3, hfw3⟩ := bcell hbw3; have hzw3_0 : w.heap.size < w3.heap.size := lt_via hbw3 (by first | omega | (simp; done) | (simp; omega)); have hzw3_1 : w.heap.size + 1 < w3.heap.size := lt_via hbw3 (by first | omega | (simp; done) | (simp; omega)); have hzw3_2 : w.heap.size + 1 + 1 < w3.heap.size := lt_via hbw3 (by first | omega | (simp; done) | (simp; omega)); have hzw3_3 : w1.heap.size < w3.heap.size := lt_via hbw3 (by first | omega | (simp; done) | (simp; omega)); have hzw3_4 : w2.heap.size < w3.heap.size := lt_via hbw3 (by first | omega | (simp; done) | (simp; omega)); have hzw3_5 : w2.heap.size + 1 < w3.heap.size := lt_via hbw3 (by first | omega | (simp; done) | (simp; omega))))
  exact bodyPost_ret (v := .tuple #[.agg #[.int .i64 (p : Int), .int .i64 (q : Int)], .int .i64 0]) (by simp [results, Try.results80, go_sem, *]) rfl ⟨rfl, (by repeat (first | exact Below.refl _ _ | assumption | refine ba_alloc ?_ _ | refine ba_drew ?_ | refine ba_drewN ?_ _ | refine ba_via (by assumption) ?_ | (refine ba_set ?_ ?_ _; rotate_left; (first | omega | (simp; omega) | simp))))⟩
set_option maxRecDepth 100000 in
set_option maxHeartbeats 1000000 in
theorem rmake_any (n d : Int) (w : World) (h0 : 0 ≤ n) (h1 : n ≤ 1152921504606846976) (hd0 : 1 ≤ d) (hd : d ≤ 1152921504606846976) :
    Calls Try.prog 48 #[.int .i64 n, .int .i64 d] w fun e w' => e = .returned (.tuple #[.agg #[.int .i64 (n / gcdI n d), .int .i64 (d / gcdI n d)], .int .i64 0]) ∧ Below w.heap.size w w' := by
  have HM := Lib.hid (fun w => made_any n.toNat d.toNat w (by omega) (by omega) (by omega))
  have e1 : ((n.toNat / Nat.gcd n.toNat d.toNat : Nat) : Int) = n / gcdI n d := by rw [Int.natCast_ediv, Int.toNat_of_nonneg h0]; rfl
  have e2 : ((d.toNat / Nat.gcd n.toNat d.toNat : Nat) : Int) = d / gcdI n d := by rw [Int.natCast_ediv, Int.toNat_of_nonneg (by omega)]; rfl
  unfold uV at HM
  rw [e1, e2, Int.toNat_of_nonneg h0, Int.toNat_of_nonneg (show 0 ≤ d by omega)] at HM
  clear e1 e2
  generalize n / gcdI n d = p at *
  generalize d / gcdI n d = q at *
  have h2 : decide (n < 0) = false := by simp; omega
  have h3 : decide (d < 0) = false := by simp; omega
  go_enter Try.func48, Try.ntmps48
  go_wp2_with (first
    | (go_at_call 81; (with_reducible refine (rsz2_any _ _ (by omega) (by omega)).mono ?_); rintro e w' ⟨rfl, rfl⟩)
    | (go_at_call 80; (with_reducible refine (HM.out _).mono ?_); rintro e w1 ⟨rfl, hbw1⟩; obtain ⟨hcw1, hfw1⟩ := bcell hbw1; have hzw1_0 : w.heap.size < w1.heap.size := lt_via hbw1 (by first | omega | (simp; done) | (simp; omega))))
  exact bodyPost_ret (v := .tuple #[.agg #[.int .i64 p, .int .i64 q], .int .i64 0]) (by simp [results, Try.results48, go_sem, *]) rfl ⟨rfl, (by repeat (first | exact Below.refl _ _ | assumption | refine ba_alloc ?_ _ | refine ba_drew ?_ | refine ba_drewN ?_ _ | refine ba_via (by assumption) ?_ | (refine ba_set ?_ ?_ _; rotate_left; (first | omega | (simp; omega) | simp))))⟩
end Go.Proofs.Ytiebbklljckbdaa
