/- Contracts: anchor.Straight. -/
import Derived.Test.YtiebbklljckbdaaSpecFrac
import Derived.Test.YtiebbklljckbdaaAnchC
set_option linter.unusedVariables false
set_option linter.unusedSimpArgs false
namespace Go.Proofs.Ytiebbklljckbdaa
open Go.RowKit
theorem basic_one {r : Rule} {d : Int} (hr : RuleOk r) (hd : 1 ≤ d) : 1 ≤ S.basic r d := by
  have h := up_mul (n := d) (p := r.num) (q := r.den) hr.den.1
  have h1 := Int.mul_le_mul_of_nonneg_right hd (show 0 ≤ r.num by have := hr.num; omega)
  have h2 : 1 ≤ S.up d r.num r.den := by
    rcases Int.lt_or_le 0 (S.up d r.num r.den) with h3 | h3
    · omega
    · have := Int.mul_nonpos_of_nonpos_of_nonneg h3 (show 0 ≤ r.den by have := hr.den; omega)
      have := hr.num
      omega
  unfold S.basic
  split <;> omega
theorem straight_bad (r : Rule) (d l : Int) (w : World) (h : S.sized r d ≠ 0) :
    Calls Try.prog 19 #[ruleV r, .int .i64 d, .int .i64 l] w fun e w' => e = .returned (.tuple #[.agg #[.int .i64 0, .int .i64 0], .int .i64 (S.sized r d)]) ∧ Below w.heap.size w w' := by
  have hb : (S.sized r d == 0) = false := by simpa using h
  have hb' : (S.sized r d != 0) = true := by simp [bne, hb]
  clear h
  unfold ruleV
  go_enter Try.func19, Try.ntmps19
  go_wp2_with (go_at_call 36; (with_reducible refine (given_any r d _).mono ?_); rintro e w1 ⟨rfl, hbw1⟩; obtain ⟨hcw1, hfw1⟩ := bcell hbw1; have hzw1_0 : w.heap.size < w1.heap.size := lt_via hbw1 (by first | omega | (simp; done) | (simp; omega)); have hzw1_1 : w.heap.size + 1 < w1.heap.size := lt_via hbw1 (by first | omega | (simp; done) | (simp; omega)))
  exact bodyPost_ret (v := .tuple #[.agg #[.int .i64 0, .int .i64 0], .int .i64 (S.sized r d)]) (by simp [results, Try.results19, go_sem, *]) rfl ⟨rfl, (by repeat (first | exact Below.refl _ _ | assumption | refine ba_alloc ?_ _ | refine ba_drew ?_ | refine ba_drewN ?_ _ | refine ba_via (by assumption) ?_ | (refine ba_set ?_ ?_ _; rotate_left; (first | omega | (simp; omega) | simp))))⟩
theorem straight_far (r : Rule) (d l : Int) (w : World) (h : S.sized r d = 0) (hl : l < 0 ∨ 1048576 < l) :
    Calls Try.prog 19 #[ruleV r, .int .i64 d, .int .i64 l] w fun e w' => e = .returned (.tuple #[.agg #[.int .i64 0, .int .i64 0], .int .i64 2]) ∧ Below w.heap.size w w' := by
  unfold ruleV
  rcases hl with h1 | h1
  all_goals
    go_enter Try.func19, Try.ntmps19
    go_wp2_with (go_at_call 36; (with_reducible refine (given_any r d _).mono ?_); rintro e w1 ⟨rfl, hbw1⟩; obtain ⟨hcw1, hfw1⟩ := bcell hbw1; have hzw1_0 : w.heap.size < w1.heap.size := lt_via hbw1 (by first | omega | (simp; done) | (simp; omega)); have hzw1_1 : w.heap.size + 1 < w1.heap.size := lt_via hbw1 (by first | omega | (simp; done) | (simp; omega)))
    exact bodyPost_ret (v := .tuple #[.agg #[.int .i64 0, .int .i64 0], .int .i64 2]) (by simp [results, Try.results19, go_sem, *]) rfl ⟨rfl, (by repeat (first | exact Below.refl _ _ | assumption | refine ba_alloc ?_ _ | refine ba_drew ?_ | refine ba_drewN ?_ _ | refine ba_via (by assumption) ?_ | (refine ba_set ?_ ?_ _; rotate_left; (first | omega | (simp; omega) | simp))))⟩
theorem straight_ok (r : Rule) (d l : Int) (w : World) (h : S.sized r d = 0) (h0 : 0 ≤ l) (h1 : l ≤ 1048576) :
    Calls Try.prog 19 #[ruleV r, .int .i64 d, .int .i64 l] w fun e w' =>
      e = .returned (.tuple #[.agg #[.int .i64 (min l (S.basic r d) / gcdI (min l (S.basic r d)) (S.basic r d)), .int .i64 (S.basic r d / gcdI (min l (S.basic r d)) (S.basic r d))], .int .i64 0]) ∧ Below w.heap.size w w' := by
  obtain ⟨hrl, hd⟩ := sized_zero h
  have hr := rule_ok hrl
  have HR := Lib.hid hr
  have hbd := size_bd hd
  have b1 := basic_bd hr (d := d) (by omega) (by omega)
  have b2 := basic_one hr (d := d) (by omega)
  clear hrl hd hr
  unfold ruleV
  rcases Int.lt_trichotomy l (S.basic r d) with hlt | hlt | hlt
  · have hm : min l (S.basic r d) = l := by omega
    rw [hm]
    clear hm
    go_enter Try.func19, Try.ntmps19
    go_wp2_with (first
      | (go_at_call 36; (with_reducible refine (given_any r d _).mono ?_); rintro e w1 ⟨rfl, hbw1⟩; obtain ⟨hcw1, hfw1⟩ := bcell hbw1; have hzw1_0 : w.heap.size < w1.heap.size := lt_via hbw1 (by first | omega | (simp; done) | (simp; omega)); have hzw1_1 : w.heap.size + 1 < w1.heap.size := lt_via hbw1 (by first | omega | (simp; done) | (simp; omega)))
      | (go_at_call 37; (with_reducible refine (abasic_any r d _ HR.out (by omega) (by omega)).mono ?_); rintro e w2 ⟨rfl, hbw2⟩; obtain ⟨hcw2, hfw2⟩ := bcell hbw2; have hzw2_0 : w.heap.size < w2.heap.size := lt_via hbw2 (by first | omega | (simp; done) | (simp; omega)); have hzw2_1 : w.heap.size + 1 < w2.heap.size := lt_via hbw2 (by first | omega | (simp; done) | (simp; omega)))
      | (go_at_call 43; (with_reducible refine (make_any _ _ _ (by omega) (by omega) (by omega) (by omega)).mono ?_); rintro e w3 ⟨rfl, hbw3⟩; obtain ⟨hcw3, hfw3⟩ := bcell hbw3; have hzw3_0 : w.heap.size < w3.heap.size := lt_via hbw3 (by first | omega | (simp; done) | (simp; omega)); have hzw3_1 : w.heap.size + 1 < w3.heap.size := lt_via hbw3 (by first | omega | (simp; done) | (simp; omega))))
    all_goals exact bodyPost_ret (v := .tuple #[.agg #[.int .i64 (l / gcdI l (S.basic r d)), .int .i64 (S.basic r d / gcdI l (S.basic r d))], .int .i64 0]) (by simp [results, Try.results19, go_sem, *]) rfl ⟨rfl, (by repeat (first | exact Below.refl _ _ | assumption | refine ba_alloc ?_ _ | refine ba_drew ?_ | refine ba_drewN ?_ _ | refine ba_via (by assumption) ?_ | (refine ba_set ?_ ?_ _; rotate_left; (first | omega | (simp; omega) | simp))))⟩
  · subst hlt
    have hm : min (S.basic r d) (S.basic r d) = S.basic r d := by omega
    rw [hm]
    clear hm
    go_enter Try.func19, Try.ntmps19
    go_wp2_with (first
      | (go_at_call 36; (with_reducible refine (given_any r d _).mono ?_); rintro e w1 ⟨rfl, hbw1⟩; obtain ⟨hcw1, hfw1⟩ := bcell hbw1; have hzw1_0 : w.heap.size < w1.heap.size := lt_via hbw1 (by first | omega | (simp; done) | (simp; omega)); have hzw1_1 : w.heap.size + 1 < w1.heap.size := lt_via hbw1 (by first | omega | (simp; done) | (simp; omega)))
      | (go_at_call 37; (with_reducible refine (abasic_any r d _ HR.out (by omega) (by omega)).mono ?_); rintro e w2 ⟨rfl, hbw2⟩; obtain ⟨hcw2, hfw2⟩ := bcell hbw2; have hzw2_0 : w.heap.size < w2.heap.size := lt_via hbw2 (by first | omega | (simp; done) | (simp; omega)); have hzw2_1 : w.heap.size + 1 < w2.heap.size := lt_via hbw2 (by first | omega | (simp; done) | (simp; omega)))
      | (go_at_call 43; (with_reducible refine (make_any _ _ _ (by omega) (by omega) (by omega) (by omega)).mono ?_); rintro e w3 ⟨rfl, hbw3⟩; obtain ⟨hcw3, hfw3⟩ := bcell hbw3; have hzw3_0 : w.heap.size < w3.heap.size := lt_via hbw3 (by first | omega | (simp; done) | (simp; omega)); have hzw3_1 : w.heap.size + 1 < w3.heap.size := lt_via hbw3 (by first | omega | (simp; done) | (simp; omega))))
    all_goals exact bodyPost_ret (v := .tuple #[.agg #[.int .i64 ((S.basic r d) / gcdI (S.basic r d) (S.basic r d)), .int .i64 (S.basic r d / gcdI (S.basic r d) (S.basic r d))], .int .i64 0]) (by simp [results, Try.results19, go_sem, *]) rfl ⟨rfl, (by repeat (first | exact Below.refl _ _ | assumption | refine ba_alloc ?_ _ | refine ba_drew ?_ | refine ba_drewN ?_ _ | refine ba_via (by assumption) ?_ | (refine ba_set ?_ ?_ _; rotate_left; (first | omega | (simp; omega) | simp))))⟩
  · have hm : min l (S.basic r d) = S.basic r d := by omega
    rw [hm]
    clear hm
    go_enter Try.func19, Try.ntmps19
    go_wp2_with (first
      | (go_at_call 36; (with_reducible refine (given_any r d _).mono ?_); rintro e w1 ⟨rfl, hbw1⟩; obtain ⟨hcw1, hfw1⟩ := bcell hbw1; have hzw1_0 : w.heap.size < w1.heap.size := lt_via hbw1 (by first | omega | (simp; done) | (simp; omega)); have hzw1_1 : w.heap.size + 1 < w1.heap.size := lt_via hbw1 (by first | omega | (simp; done) | (simp; omega)))
      | (go_at_call 37; (with_reducible refine (abasic_any r d _ HR.out (by omega) (by omega)).mono ?_); rintro e w2 ⟨rfl, hbw2⟩; obtain ⟨hcw2, hfw2⟩ := bcell hbw2; have hzw2_0 : w.heap.size < w2.heap.size := lt_via hbw2 (by first | omega | (simp; done) | (simp; omega)); have hzw2_1 : w.heap.size + 1 < w2.heap.size := lt_via hbw2 (by first | omega | (simp; done) | (simp; omega)))
      | (go_at_call 43; (with_reducible refine (make_any _ _ _ (by omega) (by omega) (by omega) (by omega)).mono ?_); rintro e w3 ⟨rfl, hbw3⟩; obtain ⟨hcw3, hfw3⟩ := bcell hbw3; have hzw3_0 : w.heap.size < w3.heap.size := lt_via hbw3 (by first | omega | (simp; done) | (simp; omega)); have hzw3_1 : w.heap.size + 1 < w3.heap.size := lt_via hbw3 (by first | omega | (simp; done) | (simp; omega))))
    all_goals exact bodyPost_ret (v := .tuple #[.agg #[.int .i64 ((S.basic r d) / gcdI (S.basic r d) (S.basic r d)), .int .i64 (S.basic r d / gcdI (S.basic r d) (S.basic r d))], .int .i64 0]) (by simp [results, Try.results19, go_sem, *]) rfl ⟨rfl, (by repeat (first | exact Below.refl _ _ | assumption | refine ba_alloc ?_ _ | refine ba_drew ?_ | refine ba_drewN ?_ _ | refine ba_via (by assumption) ?_ | (refine ba_set ?_ ?_ _; rotate_left; (first | omega | (simp; omega) | simp))))⟩
end Go.Proofs.Ytiebbklljckbdaa
