/- Contracts: the share of a straight end, in the program and in the reference, as one value. -/
import Derived.Test.YtiebbklljckbdaaRMake
import Derived.Test.YtiebbklljckbdaaStraight
set_option linter.unusedVariables false
set_option linter.unusedSimpArgs false
namespace Go.Proofs.Ytiebbklljckbdaa
open Go.RowKit
/-- Numerator, denominator, error number. -/
def S.straight (r : Rule) (d l : Int) : Int × Int × Int :=
  if S.sized r d = 0 then
    if l < 0 ∨ 1048576 < l then (0, 0, 2)
    else (min l (S.basic r d) / gcdI (min l (S.basic r d)) (S.basic r d), S.basic r d / gcdI (min l (S.basic r d)) (S.basic r d), 0)
  else (0, 0, S.sized r d)
abbrev straightV (r : Rule) (d l : Int) : Value := .tuple #[.agg #[.int .i64 (S.straight r d l).1, .int .i64 (S.straight r d l).2.1], .int .i64 (S.straight r d l).2.2]
theorem straight_any (r : Rule) (d l : Int) (w : World) :
    Calls Try.prog 19 #[ruleV r, .int .i64 d, .int .i64 l] w fun e w' => e = .returned (straightV r d l) ∧ Below w.heap.size w w' := by
  unfold straightV S.straight
  by_cases h : S.sized r d = 0
  · rw [if_pos h]
    by_cases hl : l < 0 ∨ 1048576 < l
    · rw [if_pos hl]; exact straight_far r d l w h hl
    · rw [if_neg hl]; exact straight_ok r d l w h (by omega) (by omega)
  · rw [if_neg h]; exact straight_bad r d l w h
set_option maxRecDepth 100000 in
set_option maxHeartbeats 1000000 in
theorem rstraight_any (r : Rule) (d l : Int) (w : World) :
    Calls Try.prog 22 #[ruleV r, .int .i64 d, .int .i64 l] w fun e w' => e = .returned (straightV r d l) ∧ Below w.heap.size w w' := by
  unfold straightV S.straight
  by_cases h : S.sized r d = 0
  · rw [if_pos h]
    by_cases hl : l < 0 ∨ 1048576 < l
    · rw [if_pos hl]
      unfold ruleV
      rcases hl with h1 | h1
      all_goals (
        go_enter Try.func22, Try.ntmps22
        go_wp2_with (go_at_call 15; (with_reducible refine (rsized_any r d _).mono ?_); rintro e w1 ⟨rfl, hbw1⟩; obtain ⟨hcw1, hfw1⟩ := bcell hbw1; have hzw1_0 : w.heap.size < w1.heap.size := lt_via hbw1 (by first | omega | (simp; done) | (simp; omega)); have hzw1_1 : w.heap.size + 1 < w1.heap.size := lt_via hbw1 (by first | omega | (simp; done) | (simp; omega)))
        exact bodyPost_ret (v := .tuple #[.agg #[.int .i64 0, .int .i64 0], .int .i64 2]) (by simp [results, Try.results22, go_sem, *]) rfl ⟨rfl, (by repeat (first | exact Below.refl _ _ | assumption | refine ba_alloc ?_ _ | refine ba_drew ?_ | refine ba_drewN ?_ _ | refine ba_via (by assumption) ?_ | (refine ba_set ?_ ?_ _; rotate_left; (first | omega | (simp; omega) | simp))))⟩)
    · rw [if_neg hl]
      have hl0 : 0 ≤ l := by omega
      have hl1 : l ≤ 1048576 := by omega
      obtain ⟨hrl, hd⟩ := sized_zero h
      have hr := rule_ok hrl
      have HR := Lib.hid hr
      have hbd := size_bd hd
      have b1 := basic_bd hr (d := d) (by omega) (by omega)
      have b2 := basic_one hr (d := d) (by omega)
      clear hrl hd hr hl
      have HMK := Lib.hid (fun w => rmake_any (min l (S.basic r d)) (S.basic r d) w (by omega) (by omega) (by omega) (by omega))
      generalize min l (S.basic r d) / gcdI (min l (S.basic r d)) (S.basic r d) = p at *
      generalize S.basic r d / gcdI (min l (S.basic r d)) (S.basic r d) = q at *
      unfold ruleV
      rcases Int.lt_or_le (S.basic r d) l with hlt | hlt
      · rw [show min l (S.basic r d) = S.basic r d by omega] at HMK
        go_enter Try.func22, Try.ntmps22
        go_wp2_with (first
          | (go_at_call 15; (with_reducible refine (rsized_any r d _).mono ?_); rintro e w1 ⟨rfl, hbw1⟩; obtain ⟨hcw1, hfw1⟩ := bcell hbw1; have hzw1_0 : w.heap.size < w1.heap.size := lt_via hbw1 (by first | omega | (simp; done) | (simp; omega)); have hzw1_1 : w.heap.size + 1 < w1.heap.size := lt_via hbw1 (by first | omega | (simp; done) | (simp; omega)))
          | (go_at_call 16; (with_reducible refine (rbasic_any r d _ HR.out (by omega) (by omega)).mono ?_); rintro e w2 ⟨rfl, hbw2⟩; obtain ⟨hcw2, hfw2⟩ := bcell hbw2; have hzw2_0 : w.heap.size < w2.heap.size := lt_via hbw2 (by first | omega | (simp; done) | (simp; omega)); have hzw2_1 : w.heap.size + 1 < w2.heap.size := lt_via hbw2 (by first | omega | (simp; done) | (simp; omega)))
          | (go_at_call 48; (with_reducible refine (HMK.out _).mono ?_); rintro e w3 ⟨rfl, hbw3⟩; obtain ⟨hcw3, hfw3⟩ := bcell hbw3; have hzw3_0 : w.heap.size < w3.heap.size := lt_via hbw3 (by first | omega | (simp; done) | (simp; omega)); have hzw3_1 : w.heap.size + 1 < w3.heap.size := lt_via hbw3 (by first | omega | (simp; done) | (simp; omega))))
        exact bodyPost_ret (v := .tuple #[.agg #[.int .i64 p, .int .i64 q], .int .i64 0]) (by simp [results, Try.results22, go_sem, *]) rfl ⟨rfl, (by repeat (first | exact Below.refl _ _ | assumption | refine ba_alloc ?_ _ | refine ba_drew ?_ | refine ba_drewN ?_ _ | refine ba_via (by assumption) ?_ | (refine ba_set ?_ ?_ _; rotate_left; (first | omega | (simp; omega) | simp))))⟩
      · rw [show min l (S.basic r d) = l by omega] at HMK
        go_enter Try.func22, Try.ntmps22
        go_wp2_with (first
          | (go_at_call 15; (with_reducible refine (rsized_any r d _).mono ?_); rintro e w1 ⟨rfl, hbw1⟩; obtain ⟨hcw1, hfw1⟩ := bcell hbw1; have hzw1_0 : w.heap.size < w1.heap.size := lt_via hbw1 (by first | omega | (simp; done) | (simp; omega)); have hzw1_1 : w.heap.size + 1 < w1.heap.size := lt_via hbw1 (by first | omega | (simp; done) | (simp; omega)))
          | (go_at_call 16; (with_reducible refine (rbasic_any r d _ HR.out (by omega) (by omega)).mono ?_); rintro e w2 ⟨rfl, hbw2⟩; obtain ⟨hcw2, hfw2⟩ := bcell hbw2; have hzw2_0 : w.heap.size < w2.heap.size := lt_via hbw2 (by first | omega | (simp; done) | (simp; omega)); have hzw2_1 : w.heap.size + 1 < w2.heap.size := lt_via hbw2 (by first | omega | (simp; done) | (simp; omega)))
          | (go_at_call 48; (with_reducible refine (HMK.out _).mono ?_); rintro e w3 ⟨rfl, hbw3⟩; obtain ⟨hcw3, hfw3⟩ := bcell hbw3; have hzw3_0 : w.heap.size < w3.heap.size := lt_via hbw3 (by first | omega | (simp; done) | (simp; omega)); have hzw3_1 : w.heap.size + 1 < w3.heap.size := lt_via hbw3 (by first | omega | (simp; done) | (simp; omega))))
        exact bodyPost_ret (v := .tuple #[.agg #[.int .i64 p, .int .i64 q], .int .i64 0]) (by simp [results, Try.results22, go_sem, *]) rfl ⟨rfl, (by repeat (first | exact Below.refl _ _ | assumption | refine ba_alloc ?_ _ | refine ba_drew ?_ | refine ba_drewN ?_ _ | refine ba_via (by assumption) ?_ | (refine ba_set ?_ ?_ _; rotate_left; (first | omega | (simp; omega) | simp))))⟩
  · rw [if_neg h]
    have hb : (S.sized r d == 0) = false := by simpa using h
    have hb' : (S.sized r d != 0) = true := by simp [bne, hb]
    clear h
    unfold ruleV
    go_enter Try.func22, Try.ntmps22
    go_wp2_with (go_at_call 15; (with_reducible refine (rsized_any r d _).mono ?_); rintro e w1 ⟨rfl, hbw1⟩; obtain ⟨hcw1, hfw1⟩ := bcell hbw1; have hzw1_0 : w.heap.size < w1.heap.size := lt_via hbw1 (by first | omega | (simp; done) | (simp; omega)); have hzw1_1 : w.heap.size + 1 < w1.heap.size := lt_via hbw1 (by first | omega | (simp; done) | (simp; omega)))
    exact bodyPost_ret (v := .tuple #[.agg #[.int .i64 0, .int .i64 0], .int .i64 (S.sized r d)]) (by simp [results, Try.results22, go_sem, *]) rfl ⟨rfl, (by repeat (first | exact Below.refl _ _ | assumption | refine ba_alloc ?_ _ | refine ba_drew ?_ | refine ba_drewN ?_ _ | refine ba_via (by assumption) ?_ | (refine ba_set ?_ ?_ _; rotate_left; (first | omega | (simp; omega) | simp))))⟩
end Go.Proofs.Ytiebbklljckbdaa
