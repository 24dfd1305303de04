/- AnchorFull returns true for every rule, size, length, and number. No condition. -/
import Derived.Test.YtiebbklljckbdaaStraight
import Derived.Test.YtiebbklljckbdaaOpenA
set_option linter.unusedVariables false
set_option linter.unusedSimpArgs false
namespace Go.Proofs.Ytiebbklljckbdaa
open Go.RowKit
theorem straight_frac (r : Rule) (d l : Int) (h : S.sized r d = 0) (h0 : 0 ≤ l) (h1 : l ≤ 1048576) (hb : 1 ≤ S.basic r d) :
    ∃ N D, (∀ w, Calls Try.prog 19 #[ruleV r, .int .i64 d, .int .i64 l] w fun e w' => e = .returned (.tuple #[.agg #[.int .i64 N, .int .i64 D], .int .i64 0]) ∧ Below w.heap.size w w') ∧ FracOf N D (min l (S.basic r d)) (S.basic r d) :=
  ⟨_, _, fun w => straight_ok r d l w h h0 h1, fracOf (by omega) (by omega) hb⟩
set_option maxRecDepth 100000 in
set_option maxHeartbeats 1000000 in
theorem full_walk (r : Rule) (d l m : Int) (w : World) (hm0 : 0 ≤ m) (hm1 : m ≤ 65535) :
    Calls Try.prog 5 #[ruleV r, .int .i64 d, .int .i64 l, .int .u16 m] w fun e w' => e = .returned (.bool true) ∧ Below w.heap.size w w' := by
  by_cases h0 : S.sized r d = 0
  · have ha : aBasic r d = S.basic r d := by simp [aBasic, h0]
    by_cases hl : l < 0 ∨ 1048576 < l
    · have HL := Lib.hid hl
      clear hl
      unfold ruleV
      go_enter Try.func5, Try.ntmps5
      go_wp2_with (first
        | (go_at_call 10; (with_reducible refine (awake_any _).mono ?_); rintro e w1 ⟨rfl, hbw1⟩; obtain ⟨hcw1, hfw1⟩ := bcell hbw1; have hzw1_0 : w.heap.size < w1.heap.size := lt_via hbw1 (by first | omega | (simp; done) | (simp; omega)))
        | (go_at_call 19; (with_reducible refine (straight_far r d l _ h0 HL.out).mono ?_); rintro e w2 ⟨rfl, hbw2⟩; obtain ⟨hcw2, hfw2⟩ := bcell hbw2; have hzw2_0 : w.heap.size < w2.heap.size := lt_via hbw2 (by first | omega | (simp; done) | (simp; omega))))
      go_ret
      exact ⟨rfl, (by repeat (first | exact Below.refl _ _ | assumption | refine ba_alloc ?_ _ | refine ba_drew ?_ | refine ba_drewN ?_ _ | refine ba_via (by assumption) ?_ | (refine ba_set ?_ ?_ _; rotate_left; (first | omega | (simp; omega) | simp))))⟩
    · obtain ⟨hl0, hl1⟩ : 0 ≤ l ∧ l ≤ 1048576 := by omega
      obtain ⟨hrl, hd⟩ := sized_zero h0
      have hr := rule_ok hrl
      have hbd := size_bd hd
      have b1 := basic_bd hr (d := d) (by omega) (by omega)
      have b2 := basic_one hr (d := d) (by omega)
      obtain ⟨N, D, hS, hF⟩ := straight_frac r d l h0 hl0 hl1 (by omega)
      have HS := Lib.hid hS
      clear hl hrl hd hr hS
      have f1 := hF.den
      have f2 := hF.le
      have f3 := hF.num
      have f4 := hF.part
      have hm1' := hF.eq
      have hmN := mul_bd f3 (show N ≤ 40000 by omega) b1.1 b1.2
      have hmD := mul_bd hl0 hl1 (show 0 ≤ D by omega) (show D ≤ 40000 by omega)
      by_cases hfar : 1048576 < l + m
      · have HFAR := Lib.hid (show l + m < 0 ∨ 1048576 < l + m from .inr hfar)
        rcases Int.lt_or_le l (S.basic r d) with hlb | hlb
        · exfalso; omega
        · have hNN : N = 1 ∧ D = 1 := hF.one.2 (by omega)
          obtain ⟨rfl, rfl⟩ := hNN
          have hdl : decide (S.basic r d ≤ l) = true := by simp; omega
          have hdm : decide (l < S.basic r d) = false := by simp; omega
          clear hm1' hF
          unfold ruleV
          go_enter Try.func5, Try.ntmps5
          go_wp2_with (first
            | (go_at_call 10; (with_reducible refine (awake_any _).mono ?_); rintro e w1 ⟨rfl, hbw1⟩; obtain ⟨hcw1, hfw1⟩ := bcell hbw1; have hzw1_0 : w.heap.size < w1.heap.size := lt_via hbw1 (by first | omega | (simp; done) | (simp; omega)))
            | (go_at_call 19; (with_reducible refine (HS.out _).mono ?_); rintro e w2 ⟨rfl, hbw2⟩; obtain ⟨hcw2, hfw2⟩ := bcell hbw2; have hzw2_0 : w.heap.size < w2.heap.size := lt_via hbw2 (by first | omega | (simp; done) | (simp; omega)))
            | (go_at_call 19; (with_reducible refine (straight_far r d (l + m) _ h0 HFAR.out).mono ?_); rintro e w4 ⟨rfl, hbw4⟩; obtain ⟨hcw4, hfw4⟩ := bcell hbw4; have hzw4_0 : w.heap.size < w4.heap.size := lt_via hbw4 (by first | omega | (simp; done) | (simp; omega)); have hyw4_0 : w2.heap.size < w4.heap.size := lt_via hbw4 (by first | omega | (simp; done) | (simp; omega)))
            | (go_at_call 11; (with_reducible refine (Basic_any r d _).mono ?_); rintro e w3 ⟨rfl, hbw3⟩; obtain ⟨hcw3, hfw3⟩ := bcell hbw3; have hzw3_0 : w.heap.size < w3.heap.size := lt_via hbw3 (by first | omega | (simp; done) | (simp; omega)); have hyw3_0 : w2.heap.size < w3.heap.size := lt_via hbw3 (by first | omega | (simp; done) | (simp; omega))))
          go_ret
          exact ⟨ret_b (by first | rfl | (simp; omega)), (by repeat (first | exact Below.refl _ _ | assumption | refine ba_alloc ?_ _ | refine ba_drew ?_ | refine ba_drewN ?_ _ | refine ba_via (by assumption) ?_ | (refine ba_set ?_ ?_ _; rotate_left; (first | omega | (simp; omega) | simp))))⟩
      · obtain ⟨N', D', hS2, hF2⟩ := straight_frac r d (l + m) h0 (by omega) (by omega) (by omega)
        have HS2 := Lib.hid hS2
        have g1 := hF2.den
        have g2 := hF2.le
        have g3 := hF2.num
        have g4 := hF2.part
        have hcross := frac_mono hF hF2 (by omega)
        have hc1 := mul_bd f3 (show N ≤ 40000 by omega) (show 0 ≤ D' by omega) (show D' ≤ 40000 by omega)
        have hc2 := mul_bd g3 (show N' ≤ 40000 by omega) (show 0 ≤ D by omega) (show D ≤ 40000 by omega)
        clear hS2 hF2
        rcases Int.lt_or_le l (S.basic r d) with hlb | hlb
        · have hne : ¬ (N = 1 ∧ D = 1) := fun h => by have := hF.one.1 h; omega
          have hdl : decide (S.basic r d ≤ l) = false := by simp; omega
          have hmin : min l (S.basic r d) = l := by omega
          rw [hmin] at hm1'
          have hq : (N * S.basic r d != l * D) = false := by simp [hm1']
          clear hm1' hmin hF
          by_cases hN1 : N = 1
          · subst hN1
            simp only [Int.one_mul] at *
            have hD1 : (D == 1) = false := by simp; intro h; exact hne ⟨trivial, h⟩
            unfold ruleV
            go_enter Try.func5, Try.ntmps5
            go_wp2_with (first
              | (go_at_call 10; (with_reducible refine (awake_any _).mono ?_); rintro e w1 ⟨rfl, hbw1⟩; obtain ⟨hcw1, hfw1⟩ := bcell hbw1; have hzw1_0 : w.heap.size < w1.heap.size := lt_via hbw1 (by first | omega | (simp; done) | (simp; omega)))
              | (go_at_call 19; (with_reducible refine (HS.out _).mono ?_); rintro e w2 ⟨rfl, hbw2⟩; obtain ⟨hcw2, hfw2⟩ := bcell hbw2; have hzw2_0 : w.heap.size < w2.heap.size := lt_via hbw2 (by first | omega | (simp; done) | (simp; omega)))
              | (go_at_call 19; (with_reducible refine (HS2.out _).mono ?_); rintro e w4 ⟨rfl, hbw4⟩; obtain ⟨hcw4, hfw4⟩ := bcell hbw4; have hzw4_0 : w.heap.size < w4.heap.size := lt_via hbw4 (by first | omega | (simp; done) | (simp; omega)); have hyw4_0 : w2.heap.size < w4.heap.size := lt_via hbw4 (by first | omega | (simp; done) | (simp; omega)))
              | (go_at_call 11; (with_reducible refine (Basic_any r d _).mono ?_); rintro e w3 ⟨rfl, hbw3⟩; obtain ⟨hcw3, hfw3⟩ := bcell hbw3; have hzw3_0 : w.heap.size < w3.heap.size := lt_via hbw3 (by first | omega | (simp; done) | (simp; omega)); have hyw3_0 : w2.heap.size < w3.heap.size := lt_via hbw3 (by first | omega | (simp; done) | (simp; omega))))
            go_ret
            exact ⟨ret_b (by first | rfl | (simp; omega)), (by repeat (first | exact Below.refl _ _ | assumption | refine ba_alloc ?_ _ | refine ba_drew ?_ | refine ba_drewN ?_ _ | refine ba_via (by assumption) ?_ | (refine ba_set ?_ ?_ _; rotate_left; (first | omega | (simp; omega) | simp))))⟩
          · have hN2 : (N == 1) = false := by simpa using hN1
            unfold ruleV
            go_enter Try.func5, Try.ntmps5
            go_wp2_with (first
              | (go_at_call 10; (with_reducible refine (awake_any _).mono ?_); rintro e w1 ⟨rfl, hbw1⟩; obtain ⟨hcw1, hfw1⟩ := bcell hbw1; have hzw1_0 : w.heap.size < w1.heap.size := lt_via hbw1 (by first | omega | (simp; done) | (simp; omega)))
              | (go_at_call 19; (with_reducible refine (HS.out _).mono ?_); rintro e w2 ⟨rfl, hbw2⟩; obtain ⟨hcw2, hfw2⟩ := bcell hbw2; have hzw2_0 : w.heap.size < w2.heap.size := lt_via hbw2 (by first | omega | (simp; done) | (simp; omega)))
              | (go_at_call 19; (with_reducible refine (HS2.out _).mono ?_); rintro e w4 ⟨rfl, hbw4⟩; obtain ⟨hcw4, hfw4⟩ := bcell hbw4; have hzw4_0 : w.heap.size < w4.heap.size := lt_via hbw4 (by first | omega | (simp; done) | (simp; omega)); have hyw4_0 : w2.heap.size < w4.heap.size := lt_via hbw4 (by first | omega | (simp; done) | (simp; omega)))
              | (go_at_call 11; (with_reducible refine (Basic_any r d _).mono ?_); rintro e w3 ⟨rfl, hbw3⟩; obtain ⟨hcw3, hfw3⟩ := bcell hbw3; have hzw3_0 : w.heap.size < w3.heap.size := lt_via hbw3 (by first | omega | (simp; done) | (simp; omega)); have hyw3_0 : w2.heap.size < w3.heap.size := lt_via hbw3 (by first | omega | (simp; done) | (simp; omega))))
            go_ret
            exact ⟨ret_b (by first | rfl | (simp; omega)), (by repeat (first | exact Below.refl _ _ | assumption | refine ba_alloc ?_ _ | refine ba_drew ?_ | refine ba_drewN ?_ _ | refine ba_via (by assumption) ?_ | (refine ba_set ?_ ?_ _; rotate_left; (first | omega | (simp; omega) | simp))))⟩
        · have hNN : N = 1 ∧ D = 1 := hF.one.2 (by omega)
          obtain ⟨rfl, rfl⟩ := hNN
          have hdl : decide (S.basic r d ≤ l) = true := by simp; omega
          have hdm : decide (l < S.basic r d) = false := by simp; omega
          clear hm1' hF
          unfold ruleV
          go_enter Try.func5, Try.ntmps5
          go_wp2_with (first
            | (go_at_call 10; (with_reducible refine (awake_any _).mono ?_); rintro e w1 ⟨rfl, hbw1⟩; obtain ⟨hcw1, hfw1⟩ := bcell hbw1; have hzw1_0 : w.heap.size < w1.heap.size := lt_via hbw1 (by first | omega | (simp; done) | (simp; omega)))
            | (go_at_call 19; (with_reducible refine (HS.out _).mono ?_); rintro e w2 ⟨rfl, hbw2⟩; obtain ⟨hcw2, hfw2⟩ := bcell hbw2; have hzw2_0 : w.heap.size < w2.heap.size := lt_via hbw2 (by first | omega | (simp; done) | (simp; omega)))
            | (go_at_call 19; (with_reducible refine (HS2.out _).mono ?_); rintro e w4 ⟨rfl, hbw4⟩; obtain ⟨hcw4, hfw4⟩ := bcell hbw4; have hzw4_0 : w.heap.size < w4.heap.size := lt_via hbw4 (by first | omega | (simp; done) | (simp; omega)); have hyw4_0 : w2.heap.size < w4.heap.size := lt_via hbw4 (by first | omega | (simp; done) | (simp; omega)))
            | (go_at_call 11; (with_reducible refine (Basic_any r d _).mono ?_); rintro e w3 ⟨rfl, hbw3⟩; obtain ⟨hcw3, hfw3⟩ := bcell hbw3; have hzw3_0 : w.heap.size < w3.heap.size := lt_via hbw3 (by first | omega | (simp; done) | (simp; omega)); have hyw3_0 : w2.heap.size < w3.heap.size := lt_via hbw3 (by first | omega | (simp; done) | (simp; omega))))
          go_ret
          exact ⟨ret_b (by first | rfl | (simp; omega)), (by repeat (first | exact Below.refl _ _ | assumption | refine ba_alloc ?_ _ | refine ba_drew ?_ | refine ba_drewN ?_ _ | refine ba_via (by assumption) ?_ | (refine ba_set ?_ ?_ _; rotate_left; (first | omega | (simp; omega) | simp))))⟩
  · have hb : (S.sized r d == 0) = false := by simpa using h0
    have hb' : (S.sized r d != 0) = true := by simp [bne, hb]
    have H0 := Lib.hid h0
    clear h0
    unfold ruleV
    go_enter Try.func5, Try.ntmps5
    go_wp2_with (first
      | (go_at_call 10; (with_reducible refine (awake_any _).mono ?_); rintro e w1 ⟨rfl, hbw1⟩; obtain ⟨hcw1, hfw1⟩ := bcell hbw1; have hzw1_0 : w.heap.size < w1.heap.size := lt_via hbw1 (by first | omega | (simp; done) | (simp; omega)))
      | (go_at_call 19; (with_reducible refine (straight_bad r d l _ H0.out).mono ?_); rintro e w2 ⟨rfl, hbw2⟩; obtain ⟨hcw2, hfw2⟩ := bcell hbw2; have hzw2_0 : w.heap.size < w2.heap.size := lt_via hbw2 (by first | omega | (simp; done) | (simp; omega))))
    go_ret
    exact ⟨rfl, (by repeat (first | exact Below.refl _ _ | assumption | refine ba_alloc ?_ _ | refine ba_drew ?_ | refine ba_drewN ?_ _ | refine ba_via (by assumption) ?_ | (refine ba_set ?_ ?_ _; rotate_left; (first | omega | (simp; omega) | simp))))⟩
end Go.Proofs.Ytiebbklljckbdaa
