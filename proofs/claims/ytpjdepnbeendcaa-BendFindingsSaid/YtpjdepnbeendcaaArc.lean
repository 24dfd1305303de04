/- Contracts: bend.up, Arc, Allowance; the reference's Bend, Arc, Allowance; equality of spans. -/
import Derived.Test.YtpjdepnbeendcaaSteel
set_option linter.unusedVariables false
set_option linter.unusedSimpArgs false
namespace Go.Proofs.Ytpjdepnbeendcaa
open Go.RowKit
abbrev spanV (lo hi : Int) : Value := .agg #[.int .i64 lo, .int .i64 hi]
def S.eqspan (a b c d : Int) : Bool := decide (a = c) && decide (b = d)
theorem run_eq_span (a b c d : Int) (W : World) : (binOp .eql 51 (.agg #[.int .i64 a, .int .i64 b]) (.agg #[.int .i64 c, .int .i64 d])).run Try.prog W = .ok (.bool (S.eqspan a b c d)) W := by
  by_cases h1 : a = c
  · by_cases h2 : b = d
    · simp [go_sem, S.eqspan, h1, h2]
    · simp [go_sem, S.eqspan, h1, h2]
  · simp [go_sem, S.eqspan, h1]
theorem eqspan_refl (a b : Int) : S.eqspan a b a b = true := by simp [S.eqspan]
theorem up_any (n d : Int) (w : World) (h0 : 0 ≤ n) (h1 : n ≤ 1000000000000) (h2 : 1 ≤ d) (h3 : d ≤ 1000000) :
    Calls Try.prog 68 #[.int .i64 n, .int .i64 d] w fun e w' => e = .returned (.int .i64 ((n + d - 1) / d)) ∧ w = w' := by
  have hq : (n + d - 1).tdiv d = (n + d - 1) / d := Int.tdiv_eq_ediv_of_nonneg (by omega)
  have hb : 0 ≤ (n + d - 1) / d ∧ (n + d - 1) / d ≤ n + d - 1 := ⟨Int.ediv_nonneg (by omega) (by omega), Int.ediv_le_self _ (by omega)⟩
  have e1 : IntKind.i64.wrap (n + d) = n + d := IntWalk.i64_in _ (by omega)
  have e2 : IntKind.i64.wrap (n + d - 1) = n + d - 1 := IntWalk.i64_in _ (by omega)
  have e3 : IntKind.i64.wrap ((n + d - 1) / d) = (n + d - 1) / d := IntWalk.i64_in _ (by omega)
  have hd : (d == 0) = false := by simp; omega
  have hd' : d ≠ 0 := by omega
  go_enter Try.func68, Try.ntmps68
  go_wp2
  go_ret
  exact ⟨rfl, rfl⟩
theorem arc_no (d : Int) (w : World) (h : S.size d = false) :
    Calls Try.prog 34 #[.int .i64 d] w fun e w' => e = .returned (.tuple #[spanV 0 0, .int .i64 1]) ∧ Below w.heap.size w w' := by
  go_enter Try.func34, Try.ntmps34
  go_wp2_with (go_at_call 40; (with_reducible refine (sbend_no d _ h).mono ?_); rintro e w1 ⟨rfl, hbw1⟩; obtain ⟨hcw1, hfw1⟩ := bcell hbw1; have hzw1_0 : w.heap.size < w1.heap.size := lt_via hbw1 (by first | omega | (simp; done) | (simp; omega)))
  exact bodyPost_ret (v := .tuple #[spanV 0 0, .int .i64 1]) (by simp [results, Try.results34, go_sem, *]) rfl ⟨rfl, (by repeat (first | exact Below.refl _ _ | assumption | refine ba_alloc ?_ _ | refine ba_drew ?_ | refine ba_drewN ?_ _ | refine ba_via (by assumption) ?_ | (refine ba_set ?_ ?_ _; rotate_left; (first | omega | (simp; omega) | simp))))⟩
theorem arc_yes (d : Int) (w : World) (h : S.size d = true) :
    Calls Try.prog 34 #[.int .i64 d] w fun e w' => e = .returned (.tuple #[spanV (S.arcLo d) (S.arcHi d), .int .i64 0]) ∧ Below w.heap.size w w' := by
  have hr := arc_bd h
  have HLO := Lib.hid (show 500 * S.radius d * 333 / 106 = S.arcLo d from rfl)
  have HHI := Lib.hid (show (500 * S.radius d * 355 + 113 - 1) / 113 = S.arcHi d by unfold S.arcHi; congr 1; omega)
  generalize hR : S.radius d = R at *
  have e1 : IntKind.i64.wrap (500 * R) = 500 * R := IntWalk.i64_in _ (by omega)
  have e2 : IntKind.i64.wrap (500 * R * 333) = 500 * R * 333 := IntWalk.i64_in _ (by omega)
  have e3 : (500 * R * 333).tdiv 106 = 500 * R * 333 / 106 := Int.tdiv_eq_ediv_of_nonneg (by omega)
  have e4 : IntKind.i64.wrap (500 * R * 333 / 106) = 500 * R * 333 / 106 := IntWalk.i64_in _ (by omega)
  have e5 : IntKind.i64.wrap (500 * R * 355) = 500 * R * 355 := IntWalk.i64_in _ (by omega)
  have HR := Lib.hid hR
  clear hR
  go_enter Try.func34, Try.ntmps34
  go_wp2_with (first
    | (go_at_call 40; (with_reducible refine ((HR.out ▸ sbend_yes d _ h)).mono ?_); rintro e w1 ⟨rfl, hbw1⟩; obtain ⟨hcw1, hfw1⟩ := bcell hbw1; have hzw1_0 : w.heap.size < w1.heap.size := lt_via hbw1 (by first | omega | (simp; done) | (simp; omega)))
    | (go_at_call 68; (with_reducible refine (up_any (500 * R * 355) 113 _ (by omega) (by omega) (by omega) (by omega)).mono ?_); rintro e w' ⟨rfl, rfl⟩))
  exact bodyPost_ret (v := .tuple #[spanV (500 * R * 333 / 106) ((500 * R * 355 + 113 - 1) / 113), .int .i64 0]) (by simp [results, Try.results34, go_sem, *]) rfl ⟨by rw [HLO.out, HHI.out], (by repeat (first | exact Below.refl _ _ | assumption | refine ba_alloc ?_ _ | refine ba_drew ?_ | refine ba_drewN ?_ _ | refine ba_via (by assumption) ?_ | (refine ba_set ?_ ?_ _; rotate_left; (first | omega | (simp; omega) | simp))))⟩
theorem allow_no (d : Int) (w : World) (h : S.size d = false) :
    Calls Try.prog 35 #[.int .i64 d] w fun e w' => e = .returned (.tuple #[spanV 0 0, .int .i64 1]) ∧ Below w.heap.size w w' := by
  go_enter Try.func35, Try.ntmps35
  go_wp2_with (go_at_call 34; (with_reducible refine (arc_no d _ h).mono ?_); rintro e w1 ⟨rfl, hbw1⟩; obtain ⟨hcw1, hfw1⟩ := bcell hbw1; have hzw1_0 : w.heap.size < w1.heap.size := lt_via hbw1 (by first | omega | (simp; done) | (simp; omega)))
  exact bodyPost_ret (v := .tuple #[spanV 0 0, .int .i64 1]) (by simp [results, Try.results35, go_sem, *]) rfl ⟨rfl, (by repeat (first | exact Below.refl _ _ | assumption | refine ba_alloc ?_ _ | refine ba_drew ?_ | refine ba_drewN ?_ _ | refine ba_via (by assumption) ?_ | (refine ba_set ?_ ?_ _; rotate_left; (first | omega | (simp; omega) | simp))))⟩
theorem allow_yes (d : Int) (w : World) (h : S.size d = true) :
    Calls Try.prog 35 #[.int .i64 d] w fun e w' => e = .returned (.tuple #[spanV (S.allowLo d) (S.allowHi d), .int .i64 0]) ∧ Below w.heap.size w w' := by
  have hr := arc_bd h
  have HLO := Lib.hid (show 2000 * S.radius d - S.arcHi d = S.allowLo d from rfl)
  have HHI := Lib.hid (show 2000 * S.radius d - S.arcLo d = S.allowHi d from rfl)
  have HR := Lib.hid (fun w => sbend_yes d w h)
  have HA := Lib.hid (fun w => arc_yes d w h)
  generalize S.radius d = R at *
  generalize S.arcLo d = lo at *
  generalize S.arcHi d = hi at *
  have e1 : IntKind.i64.wrap (2000 * R) = 2000 * R := IntWalk.i64_in _ (by omega)
  have e2 : IntKind.i64.wrap (2000 * R - hi) = 2000 * R - hi := IntWalk.i64_in _ (by omega)
  have e3 : IntKind.i64.wrap (2000 * R - lo) = 2000 * R - lo := IntWalk.i64_in _ (by omega)
  go_enter Try.func35, Try.ntmps35
  go_wp2_with (first
    | (go_at_call 34; (with_reducible refine (HA.out _).mono ?_); rintro e w1 ⟨rfl, hbw1⟩; obtain ⟨hcw1, hfw1⟩ := bcell hbw1; have hzw1_0 : w.heap.size < w1.heap.size := lt_via hbw1 (by first | omega | (simp; done) | (simp; omega)))
    | (go_at_call 40; (with_reducible refine (HR.out _).mono ?_); rintro e w2 ⟨rfl, hbw2⟩; obtain ⟨hcw2, hfw2⟩ := bcell hbw2; have hzw2_0 : w.heap.size < w2.heap.size := lt_via hbw2 (by first | omega | (simp; done) | (simp; omega)); have hyw2_0 : w1.heap.size < w2.heap.size := lt_via hbw2 (by first | omega | (simp; done) | (simp; omega))))
  have hlt : w.heap.size < w1.heap.size + 1 := by omega
  exact bodyPost_ret (v := .tuple #[spanV (2000 * R - hi) (2000 * R - lo), .int .i64 0]) (by simp [results, Try.results35, go_sem, *]) rfl ⟨by rw [HLO.out, HHI.out], (by repeat (first | exact Below.refl _ _ | assumption | refine ba_alloc ?_ _ | refine ba_drew ?_ | refine ba_drewN ?_ _ | refine ba_via (by assumption) ?_ | (refine ba_set ?_ ?_ _; rotate_left; (first | omega | (simp; omega) | simp))))⟩
theorem rbend_yes (d : Int) (w : World) (h : S.size d = true) :
    Calls Try.prog 70 #[.int .i64 d] w fun e w' => e = .returned (.int .i64 (S.radius d)) ∧ w = w' := by
  rcases size_cases h with rfl | rfl | rfl | rfl | rfl | rfl | rfl | rfl | rfl
  all_goals (
    go_enter Try.func70, Try.ntmps70
    go_wp2
    go_ret
    exact ⟨rfl, rfl⟩)
theorem rarc_yes (d : Int) (w : World) (h : S.size d = true) :
    Calls Try.prog 37 #[.int .i64 d] w fun e w' => e = .returned (spanV (S.arcLo d) (S.arcHi d)) ∧ Below w.heap.size w w' := by
  have hr := arc_bd h
  have HLO := Lib.hid (show 500 * S.radius d * 333 / 106 = S.arcLo d from rfl)
  have HHI := Lib.hid (show (500 * S.radius d * 355 + 112) / 113 = S.arcHi d from rfl)
  have HR := Lib.hid (fun w => rbend_yes d w h)
  generalize S.radius d = R at *
  have e1 : IntKind.i64.wrap (500 * R) = 500 * R := IntWalk.i64_in _ (by omega)
  have e2 : IntKind.i64.wrap (500 * R * 333) = 500 * R * 333 := IntWalk.i64_in _ (by omega)
  have e3 : (500 * R * 333).tdiv 106 = 500 * R * 333 / 106 := Int.tdiv_eq_ediv_of_nonneg (by omega)
  have e4 : IntKind.i64.wrap (500 * R * 333 / 106) = 500 * R * 333 / 106 := IntWalk.i64_in _ (by omega)
  have e5 : IntKind.i64.wrap (500 * R * 355) = 500 * R * 355 := IntWalk.i64_in _ (by omega)
  have e6 : IntKind.i64.wrap (500 * R * 355 + 112) = 500 * R * 355 + 112 := IntWalk.i64_in _ (by omega)
  have e7 : (500 * R * 355 + 112).tdiv 113 = (500 * R * 355 + 112) / 113 := Int.tdiv_eq_ediv_of_nonneg (by omega)
  have e8 : IntKind.i64.wrap ((500 * R * 355 + 112) / 113) = (500 * R * 355 + 112) / 113 := IntWalk.i64_in _ (by omega)
  go_enter Try.func37, Try.ntmps37
  go_wp2_with (go_at_call 70; (with_reducible refine (HR.out _).mono ?_); rintro e w' ⟨rfl, rfl⟩)
  exact bodyPost_ret (v := spanV (500 * R * 333 / 106) ((500 * R * 355 + 112) / 113)) (by simp [results, Try.results37, go_sem, *]) rfl ⟨by rw [HLO.out, HHI.out], (by repeat (first | exact Below.refl _ _ | assumption | refine ba_alloc ?_ _ | refine ba_drew ?_ | refine ba_drewN ?_ _ | refine ba_via (by assumption) ?_ | (refine ba_set ?_ ?_ _; rotate_left; (first | omega | (simp; omega) | simp))))⟩
theorem rallow_yes (d : Int) (w : World) (h : S.size d = true) :
    Calls Try.prog 38 #[.int .i64 d] w fun e w' => e = .returned (spanV (S.allowLo d) (S.allowHi d)) ∧ Below w.heap.size w w' := by
  have hr := arc_bd h
  have HLO := Lib.hid (show 2000 * S.radius d - S.arcHi d = S.allowLo d from rfl)
  have HHI := Lib.hid (show 2000 * S.radius d - S.arcLo d = S.allowHi d from rfl)
  have HR := Lib.hid (fun w => rbend_yes d w h)
  have HA := Lib.hid (fun w => rarc_yes d w h)
  generalize S.radius d = R at *
  generalize S.arcLo d = lo at *
  generalize S.arcHi d = hi at *
  have e1 : IntKind.i64.wrap (2000 * R) = 2000 * R := IntWalk.i64_in _ (by omega)
  have e2 : IntKind.i64.wrap (2000 * R - hi) = 2000 * R - hi := IntWalk.i64_in _ (by omega)
  have e3 : IntKind.i64.wrap (2000 * R - lo) = 2000 * R - lo := IntWalk.i64_in _ (by omega)
  go_enter Try.func38, Try.ntmps38
  go_wp2_with (first
    | (go_at_call 37; (with_reducible refine (HA.out _).mono ?_); rintro e w1 ⟨rfl, hbw1⟩; obtain ⟨hcw1, hfw1⟩ := bcell hbw1; have hzw1_0 : w.heap.size < w1.heap.size := lt_via hbw1 (by first | omega | (simp; done) | (simp; omega)))
    | (go_at_call 70; (with_reducible refine (HR.out _).mono ?_); rintro e w' ⟨rfl, rfl⟩))
  exact bodyPost_ret (v := spanV (2000 * R - hi) (2000 * R - lo)) (by simp [results, Try.results38, go_sem, *]) rfl ⟨by rw [HLO.out, HHI.out], (by repeat (first | exact Below.refl _ _ | assumption | refine ba_alloc ?_ _ | refine ba_drew ?_ | refine ba_drewN ?_ _ | refine ba_via (by assumption) ?_ | (refine ba_set ?_ ?_ _; rotate_left; (first | omega | (simp; omega) | simp))))⟩
end Go.Proofs.Ytpjdepnbeendcaa
