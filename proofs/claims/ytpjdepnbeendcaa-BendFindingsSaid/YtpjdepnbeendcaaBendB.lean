/- Contracts: bend.Cut, Mass; the example of the chapter on bends; long, right. -/
import Derived.Test.YtpjdepnbeendcaaBendA
import Derived.Test.YtpjdepnbeendcaaRef12V
set_option linter.unusedVariables false
set_option linter.unusedSimpArgs false
namespace Go.Proofs.Ytpjdepnbeendcaa
open Go.RowKit
theorem cut_no (b : Bar) (A : Option Addr) (n c : Nat) (B : Nat) (w : World) (hB : B ≤ w.heap.size) (hA : BarAt w B A n b) (h : S.bar b = false) :
    Calls Try.prog 44 #[barV b A n c] w fun e w' => e = .returned (.tuple #[.int .i64 0, .int .i64 1]) ∧ Below w.heap.size w w' := by
  have HA := Lib.hid hA
  clear hA
  unfold barV
  go_enter Try.func44, Try.ntmps44
  go_wp2_with (go_at_call 42; (with_reducible refine (devel_no b A n c B _ (by simp; omega) (BarAt.at_ HA.out hB (by repeat (first | exact Below.refl _ _ | assumption | refine ba_alloc ?_ _ | refine ba_drew ?_ | refine ba_drewN ?_ _ | refine ba_via (by assumption) ?_ | (refine ba_set ?_ ?_ _; rotate_left; (first | omega | (simp; omega) | simp))))) h).mono ?_); rintro e w1 ⟨rfl, hbw1⟩; obtain ⟨hcw1, hfw1⟩ := bcell hbw1; have hzw1_0 : w.heap.size < w1.heap.size := lt_via hbw1 (by first | omega | (simp; done) | (simp; omega)))
  go_ret2
  exact ⟨rfl, (by repeat (first | exact Below.refl _ _ | assumption | refine ba_alloc ?_ _ | refine ba_drew ?_ | refine ba_drewN ?_ _ | refine ba_via (by assumption) ?_ | (refine ba_set ?_ ?_ _; rotate_left; (first | omega | (simp; omega) | simp))))⟩
theorem cut_yes (b : Bar) (A : Option Addr) (n c : Nat) (B : Nat) (w : World) (hB : B ≤ w.heap.size) (hA : BarAt w B A n b) (h : S.bar b = true) :
    Calls Try.prog 44 #[barV b A n c] w fun e w' => e = .returned (.tuple #[.int .i64 (S.cut b), .int .i64 0]) ∧ Below w.heap.size w w' := by
  have HA := Lib.hid hA
  have hd := dev_bd h
  have HC := Lib.hid (show max 5 (5 * ((max 0 (S.devHi b) + 5000 - 1) / 5000)) = S.cut b by unfold S.cut; rw [show max 0 (S.devHi b) + 5000 - 1 = max 0 (S.devHi b) + 4999 by omega])
  have HD := Lib.hid (fun (B : Nat) (w : World) (hB : B ≤ w.heap.size) (hA : BarAt w B A n b) => devel_yes b A n c B w hB hA h)
  clear hA
  generalize S.devHi b = hi at *
  generalize S.devLo b = lo at *
  have HX := Lib.hid hd
  clear hd
  by_cases hp : 0 < hi
  · have hm : max 0 hi = hi := by omega
    have hh : hi ≤ 524288000 := by have := HX.out; omega
    have e1 : IntKind.i64.wrap (5 * ((hi + 5000 - 1) / 5000)) = 5 * ((hi + 5000 - 1) / 5000) := IntWalk.i64_in _ (by omega)
    unfold barV
    go_enter Try.func44, Try.ntmps44
    go_wp2_with (first
      | (go_at_call 42; (with_reducible refine (HD.out B _ (by simp; omega) (BarAt.at_ HA.out hB (by repeat (first | exact Below.refl _ _ | assumption | refine ba_alloc ?_ _ | refine ba_drew ?_ | refine ba_drewN ?_ _ | refine ba_via (by assumption) ?_ | (refine ba_set ?_ ?_ _; rotate_left; (first | omega | (simp; omega) | simp)))))).mono ?_); rintro e w1 ⟨rfl, hbw1⟩; obtain ⟨hcw1, hfw1⟩ := bcell hbw1; have hzw1_0 : w.heap.size < w1.heap.size := lt_via hbw1 (by first | omega | (simp; done) | (simp; omega)))
      | (go_at_call 68; (with_reducible refine (up_any hi 5000 _ (by omega) (by omega) (by omega) (by omega)).mono ?_); rintro e w' ⟨rfl, rfl⟩))
    all_goals (
      go_ret2
      exact ⟨ret_2 (by have := HC.out; omega) rfl, (by repeat (first | exact Below.refl _ _ | assumption | refine ba_alloc ?_ _ | refine ba_drew ?_ | refine ba_drewN ?_ _ | refine ba_via (by assumption) ?_ | (refine ba_set ?_ ?_ _; rotate_left; (first | omega | (simp; omega) | simp))))⟩)
  · have hm : max 0 hi = 0 := by omega
    have hn : hi ≤ 0 := by omega
    unfold barV
    go_enter Try.func44, Try.ntmps44
    go_wp2_with (first
      | (go_at_call 42; (with_reducible refine (HD.out B _ (by simp; omega) (BarAt.at_ HA.out hB (by repeat (first | exact Below.refl _ _ | assumption | refine ba_alloc ?_ _ | refine ba_drew ?_ | refine ba_drewN ?_ _ | refine ba_via (by assumption) ?_ | (refine ba_set ?_ ?_ _; rotate_left; (first | omega | (simp; omega) | simp)))))).mono ?_); rintro e w1 ⟨rfl, hbw1⟩; obtain ⟨hcw1, hfw1⟩ := bcell hbw1; have hzw1_0 : w.heap.size < w1.heap.size := lt_via hbw1 (by first | omega | (simp; done) | (simp; omega)))
      | (go_at_call 68; (with_reducible refine (up_any 0 5000 _ (by omega) (by omega) (by omega) (by omega)).mono ?_); rintro e w' ⟨rfl, rfl⟩))
    all_goals (
      go_ret2
      exact ⟨ret_2 (by have := HC.out; omega) rfl, (by repeat (first | exact Below.refl _ _ | assumption | refine ba_alloc ?_ _ | refine ba_drew ?_ | refine ba_drewN ?_ _ | refine ba_via (by assumption) ?_ | (refine ba_set ?_ ?_ _; rotate_left; (first | omega | (simp; omega) | simp))))⟩)
theorem bmass_no (b : Bar) (A : Option Addr) (n c : Nat) (B : Nat) (w : World) (hB : B ≤ w.heap.size) (hA : BarAt w B A n b) (h : S.bar b = false) :
    Calls Try.prog 45 #[barV b A n c] w fun e w' => e = .returned (.tuple #[.int .i64 0, .int .i64 1]) ∧ Below w.heap.size w w' := by
  have HA := Lib.hid hA
  clear hA
  unfold barV
  go_enter Try.func45, Try.ntmps45
  go_wp2_with (go_at_call 44; (with_reducible refine (cut_no b A n c B _ (by simp; omega) (BarAt.at_ HA.out hB (by repeat (first | exact Below.refl _ _ | assumption | refine ba_alloc ?_ _ | refine ba_drew ?_ | refine ba_drewN ?_ _ | refine ba_via (by assumption) ?_ | (refine ba_set ?_ ?_ _; rotate_left; (first | omega | (simp; omega) | simp))))) h).mono ?_); rintro e w1 ⟨rfl, hbw1⟩; obtain ⟨hcw1, hfw1⟩ := bcell hbw1; have hzw1_0 : w.heap.size < w1.heap.size := lt_via hbw1 (by first | omega | (simp; done) | (simp; omega)))
  go_ret2
  exact ⟨rfl, (by repeat (first | exact Below.refl _ _ | assumption | refine ba_alloc ?_ _ | refine ba_drew ?_ | refine ba_drewN ?_ _ | refine ba_via (by assumption) ?_ | (refine ba_set ?_ ?_ _; rotate_left; (first | omega | (simp; omega) | simp))))⟩
theorem bmass_yes (b : Bar) (A : Option Addr) (n c : Nat) (B : Nat) (w : World) (hB : B ≤ w.heap.size) (hA : BarAt w B A n b) (h : S.bar b = true) :
    Calls Try.prog 45 #[barV b A n c] w fun e w' => e = .returned (.tuple #[.int .i64 (S.mass b), .int .i64 0]) ∧ Below w.heap.size w w' := by
  have HA := Lib.hid hA
  have hc := cut_bd h
  have hm := mass_bd (bar_size h) (n := S.cut b) (by omega) (by omega)
  have hk := bar_count h
  have HM := Lib.hid (show b.count * S.massOf b.size (S.cut b) = S.mass b from rfl)
  have HD := Lib.hid (fun (B : Nat) (w : World) (hB : B ≤ w.heap.size) (hA : BarAt w B A n b) => cut_yes b A n c B w hB hA h)
  have HS := Lib.hid (fun w => smass_yes b.size (S.cut b) w (bar_size h) (by omega) (by omega))
  clear hA
  generalize S.cut b = ct at *
  generalize S.massOf b.size ct = ms at *
  have e1 : IntKind.i64.wrap (b.count * ms) = b.count * ms := by
    have a := Int.mul_nonneg (show (0 : Int) ≤ b.count by omega) hm.1
    have b := Int.mul_le_mul hk.2 hm.2 hm.1 (by omega)
    exact IntWalk.i64_in _ (by omega)
  unfold barV
  go_enter Try.func45, Try.ntmps45
  go_wp2_with (first
    | (go_at_call 44; (with_reducible refine (HD.out B _ (by simp; omega) (BarAt.at_ HA.out hB (by repeat (first | exact Below.refl _ _ | assumption | refine ba_alloc ?_ _ | refine ba_drew ?_ | refine ba_drewN ?_ _ | refine ba_via (by assumption) ?_ | (refine ba_set ?_ ?_ _; rotate_left; (first | omega | (simp; omega) | simp)))))).mono ?_); rintro e w1 ⟨rfl, hbw1⟩; obtain ⟨hcw1, hfw1⟩ := bcell hbw1; have hzw1_0 : w.heap.size < w1.heap.size := lt_via hbw1 (by first | omega | (simp; done) | (simp; omega)))
    | (go_at_call 46; (with_reducible refine (HS.out _).mono ?_); rintro e w2 ⟨rfl, hbw2⟩; obtain ⟨hcw2, hfw2⟩ := bcell hbw2; have hzw2_0 : w.heap.size < w2.heap.size := lt_via hbw2 (by first | omega | (simp; done) | (simp; omega))))
  go_ret2
  exact ⟨ret_2 HM.out rfl, (by repeat (first | exact Below.refl _ _ | assumption | refine ba_alloc ?_ _ | refine ba_drew ?_ | refine ba_drewN ?_ _ | refine ba_via (by assumption) ?_ | (refine ba_set ?_ ?_ _; rotate_left; (first | omega | (simp; omega) | simp))))⟩
abbrev exBend : Bar := ⟨⟨#[97]⟩, 12, 1, 11, [300, 400]⟩
theorem exBend_ok : S.bar exBend = true := by decide
theorem arc_ex (w : World) : Calls Try.prog 34 #[.int .i64 12] w fun e w' => e = .returned (.tuple #[spanV 47122 47124, .int .i64 0]) ∧ Below w.heap.size w w' := arc_yes 12 w (by decide)
theorem devel_ex (A : Option Addr) (B : Nat) (w : World) (hB : B ≤ w.heap.size) (hA : BarAt w B A 2 exBend) :
    Calls Try.prog 42 #[barV exBend A 2 2] w fun e w' => e = .returned (.tuple #[spanV 687122 687124, .int .i64 0]) ∧ Below w.heap.size w w' := by
  have h := devel_yes exBend A 2 2 B w hB hA exBend_ok
  rw [show S.devLo exBend = 687122 by decide, show S.devHi exBend = 687124 by decide] at h
  exact h
theorem cut_ex (A : Option Addr) (B : Nat) (w : World) (hB : B ≤ w.heap.size) (hA : BarAt w B A 2 exBend) :
    Calls Try.prog 44 #[barV exBend A 2 2] w fun e w' => e = .returned (.tuple #[.int .i64 690, .int .i64 0]) ∧ Below w.heap.size w w' := by
  have h := cut_yes exBend A 2 2 B w hB hA exBend_ok
  rw [show S.cut exBend = 690 by decide] at h
  exact h
set_option maxHeartbeats 2000000 in
theorem awake13_any (w : World) : Calls Try.prog 33 #[] w fun e w' => e = .returned (.bool true) ∧ Below w.heap.size w w' := by
  have hat : BarAt ((w.alloc (.cells #[.int .i64 300, .int .i64 400] 3)).alloc (.cells #[.string ⟨#[97]⟩, .int .i64 12, .int .i64 1, .int .i64 11, .slice (some ⟨w.heap.size, 0, none⟩) 2 2] 24)) (w.heap.size + 1) (some ⟨w.heap.size, 0, none⟩) 2 exBend :=
    ⟨rfl, by omega, by decide, (Cells.new w #[.int .i64 300, .int .i64 400] _ (0, 0)).alloc (by simp) _⟩
  have HAT := Lib.hid hat
  clear hat
  have q1 := run_eq_span 47122 47124 47122 47124
  have q2 := run_eq_span 687122 687124 687122 687124
  have q1' : S.eqspan 47122 47124 47122 47124 = true := by decide
  have q2' : S.eqspan 687122 687124 687122 687124 = true := by decide
  rw [q1'] at q1
  rw [q2'] at q2
  go_enter Try.func33, Try.ntmps33
  go_wp2_with (go_at_call 34; (with_reducible refine (arc_ex _).mono ?_); rintro e w1 ⟨rfl, hbw1⟩; obtain ⟨hcw1, hfw1⟩ := bcell hbw1; have hzw1_0 : w.heap.size < w1.heap.size := lt_via hbw1 (by first | omega | (simp; done) | (simp; omega)); have hzw1_1 : w.heap.size + 1 < w1.heap.size := lt_via hbw1 (by first | omega | (simp; done) | (simp; omega)))
  have HAT1 := Lib.hid (HAT.out.below (hbw1.mono (by simp)))
  have HAT2 := Lib.hid ((HAT1.out.cells.alloc (by omega) (.cells #[.int .i64 47122, .int .i64 47124] 51)))
  go_wp2_with (go_at_call 42; (with_reducible refine (devel_ex _ (w.heap.size + 1) _ (by simp; omega) ⟨rfl, by omega, by decide, HAT2.out⟩).mono ?_); rintro e w2 ⟨rfl, hbw2⟩; obtain ⟨hcw2, hfw2⟩ := bcell hbw2; have hzw2_0 : w.heap.size < w2.heap.size := lt_via hbw2 (by first | omega | (simp; done) | (simp; omega)); have hzw2_1 : w.heap.size + 1 < w2.heap.size := lt_via hbw2 (by first | omega | (simp; done) | (simp; omega)); have hyw2_0 : w1.heap.size < w2.heap.size := lt_via hbw2 (by first | omega | (simp; done) | (simp; omega)))
  have HAT3 := Lib.hid ((HAT2.out.below (hbw2.mono (by simp; omega))).alloc (by omega) (.cells #[.int .i64 687122, .int .i64 687124] 51))
  go_wp2_with (go_at_call 44; (with_reducible refine (cut_ex _ (w.heap.size + 1) _ (by simp; omega) ⟨rfl, by omega, by decide, HAT3.out⟩).mono ?_); rintro e w3 ⟨rfl, hbw3⟩; obtain ⟨hcw3, hfw3⟩ := bcell hbw3; have hzw3_0 : w.heap.size < w3.heap.size := lt_via hbw3 (by first | omega | (simp; done) | (simp; omega)); have hzw3_1 : w.heap.size + 1 < w3.heap.size := lt_via hbw3 (by first | omega | (simp; done) | (simp; omega)); have hyw3_0 : w1.heap.size < w3.heap.size := lt_via hbw3 (by first | omega | (simp; done) | (simp; omega)))
  go_ret
  exact ⟨rfl, (by repeat (first | exact Below.refl _ _ | assumption | refine ba_alloc ?_ _ | refine ba_drew ?_ | refine ba_drewN ?_ _ | refine ba_via (by assumption) ?_ | (refine ba_set ?_ ?_ _; rotate_left; (first | omega | (simp; omega) | simp))))⟩
end Go.Proofs.Ytpjdepnbeendcaa
