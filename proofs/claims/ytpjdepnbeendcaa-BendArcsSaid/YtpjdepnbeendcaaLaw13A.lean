/- The walk of BendArcs. -/
import Derived.Test.YtpjdepnbeendcaaBendB
set_option linter.unusedVariables false
set_option linter.unusedSimpArgs false
namespace Go.Proofs.Ytpjdepnbeendcaa
open Go.RowKit
theorem arcs_no (d : Int) (w : World) (h : S.size d = false) :
    Calls Try.prog 8 #[.int .i64 d] w fun e w' => e = .returned (.bool true) ∧ Below w.heap.size w w' := by
  have q := run_eq_span 0 0 0 0
  rw [show S.eqspan 0 0 0 0 = true by decide] at q
  go_enter Try.func8, Try.ntmps8
  go_wp2_with (first
    | (go_at_call 33; (with_reducible refine (awake13_any _).mono ?_); rintro e w1 ⟨rfl, hbw1⟩; obtain ⟨hcw1, hfw1⟩ := bcell hbw1)
    | (go_at_call 34; (with_reducible refine (arc_no d _ h).mono ?_); rintro e w2 ⟨rfl, hbw2⟩; obtain ⟨hcw2, hfw2⟩ := bcell hbw2)
    | (go_at_call 35; (with_reducible refine (allow_no d _ h).mono ?_); rintro e w3 ⟨rfl, hbw3⟩; obtain ⟨hcw3, hfw3⟩ := bcell hbw3; have hyw3_0 : w2.heap.size < w3.heap.size := lt_via hbw3 (by first | omega | (simp; done) | (simp; omega)))
    | (go_at_call 36; (with_reducible refine (rsize_any d _).mono ?_); rintro e w4 ⟨rfl, hbw4⟩; obtain ⟨hcw4, hfw4⟩ := bcell hbw4; have hyw4_0 : w2.heap.size < w4.heap.size := lt_via hbw4 (by first | omega | (simp; done) | (simp; omega))))
  go_ret
  exact ⟨rfl, (by repeat (first | exact Below.refl _ _ | assumption | refine ba_alloc ?_ _ | refine ba_drew ?_ | refine ba_drewN ?_ _ | refine ba_via (by assumption) ?_ | (refine ba_set ?_ ?_ _; rotate_left; (first | omega | (simp; omega) | simp))))⟩
theorem arcs_yes (d : Int) (w : World) (h : S.size d = true) :
    Calls Try.prog 8 #[.int .i64 d] w fun e w' => e = .returned (.bool true) ∧ Below w.heap.size w w' := by
  have HA := Lib.hid (fun w => arc_yes d w h)
  have HB := Lib.hid (fun w => allow_yes d w h)
  have HC := Lib.hid (fun w => rarc_yes d w h)
  have HD := Lib.hid (fun w => rallow_yes d w h)
  generalize S.arcLo d = a at *
  generalize S.arcHi d = b at *
  generalize S.allowLo d = x at *
  generalize S.allowHi d = y at *
  have q := run_eq_span a b a b
  rw [eqspan_refl] at q
  have q' := run_eq_span x y x y
  rw [eqspan_refl] at q'
  go_enter Try.func8, Try.ntmps8
  go_wp2_with (first
    | (go_at_call 33; (with_reducible refine (awake13_any _).mono ?_); rintro e w1 ⟨rfl, hbw1⟩; obtain ⟨hcw1, hfw1⟩ := bcell hbw1)
    | (go_at_call 34; (with_reducible refine (HA.out _).mono ?_); rintro e w2 ⟨rfl, hbw2⟩; obtain ⟨hcw2, hfw2⟩ := bcell hbw2)
    | (go_at_call 35; (with_reducible refine (HB.out _).mono ?_); rintro e w3 ⟨rfl, hbw3⟩; obtain ⟨hcw3, hfw3⟩ := bcell hbw3; have hyw3_0 : w2.heap.size < w3.heap.size := lt_via hbw3 (by first | omega | (simp; done) | (simp; omega)))
    | (go_at_call 36; (with_reducible refine (rsize_any d _).mono ?_); rintro e w4 ⟨rfl, hbw4⟩; obtain ⟨hcw4, hfw4⟩ := bcell hbw4; have hyw4_0 : w2.heap.size < w4.heap.size := lt_via hbw4 (by first | omega | (simp; done) | (simp; omega))))
  have hz4 : w3.heap.size < w4.heap.size := lt_via hbw4 (by simp)
  refine wp_region_grow (by kernel_rfl) (by kernel_rfl) ?_
  repeat (go_big_quiet_step ((first | (go_at_call 37; exact grow_of (HC.out _)) | (go_at_call 38; exact grow_of (HD.out _)))))
  all_goals (refine wpQuiet_nil ?_; intro wg hbwg; obtain ⟨hcwg, hfwg⟩ := bcell hbwg)
  go_wp2
  go_ret
  exact ⟨rfl, (by repeat (first | exact Below.refl _ _ | assumption | refine ba_alloc ?_ _ | refine ba_drew ?_ | refine ba_drewN ?_ _ | refine ba_via (by assumption) ?_ | (refine ba_set ?_ ?_ _; rotate_left; (first | omega | (simp; omega) | simp))))⟩
theorem arcs_walk (d : Int) (w : World) :
    Calls Try.prog 8 #[.int .i64 d] w fun e w' => e = .returned (.bool true) ∧ Below w.heap.size w w' := by
  cases h : S.size d
  · exact arcs_no d w h
  · exact arcs_yes d w h
end Go.Proofs.Ytpjdepnbeendcaa
