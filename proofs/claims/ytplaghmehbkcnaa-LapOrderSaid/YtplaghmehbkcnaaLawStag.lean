/- The walk through the law LapStaggers. -/
import Derived.Test.YtplaghmehbkcnaaAwake
import Derived.Test.YtplaghmehbkcnaaStagC
set_option linter.unusedVariables false
set_option linter.unusedSimpArgs false
namespace Go.Proofs.Ytplaghmehbkcnaa
open Go.RowKit
theorem stagT_ok {l : List Sp} {num den : Int} (h : S.stagErr l num den = 0) : S.stagT l num den = .tuple #[.bool (decide (S.stag l num den < 0)), .int .i64 (S.stag l num den), .int .i64 0] := by
  unfold S.stagT S.stagIs S.stagIx
  rw [h, if_pos rfl]
  simp
set_option maxRecDepth 8000 in
set_option maxHeartbeats 4000000 in
theorem staggers_walk (l : List Sp) (num den : Int) (A : Option Addr) (n c : Nat) (w : World) (hn : l.length = n) (hc : n ≤ c) (hcm : c ≤ maxLen) (hs : Cells w w.heap.size A (l.flatMap spC)) :
    Calls Try.prog 3 #[.slice A n c, .int .i64 num, .int .i64 den] w fun e w' => e = .returned (.bool true) ∧ Below w.heap.size w w' := by
  have hmx : n ≤ 9223372036854775807 := by unfold maxLen at hcm; omega
  have HA := Lib.hid (fun w => awake_any w)
  have HST := Lib.hid (fun (W : World) (hb : Below w.heap.size w W) => stag_any l num den A n c w.heap.size W hn hmx hc hb.size (hs.below hb))
  have HF := Lib.hid Try.call10
  have HCF := Lib.hid (fun (W : World) (hb : Below w.heap.size w W) => containsfS_any 10 #[] #[] S.spanNot A n c l w.heap.size W hn hmx hb.size (hs.below hb) HF.out (fun x w' _ => spanNot_any x w'))
  have HN := Lib.hid hn
  by_cases h1 : 20 < n ∧ n ≤ 1000
  · obtain ⟨h1, h2⟩ := h1
    have h1i : (20 : Int) < n := by omega
    have h2i : (n : Int) ≤ 1000 := by omega
    clear hn hs HST HCF HF
    go_enter Try.func3, Try.ntmps3
    go_wp2_with (first
      | (go_at_call 7; (with_reducible refine (HA.out _).mono ?_); rintro e w1 ⟨rfl, hbw1⟩; obtain ⟨hcw1, hfw1⟩ := bcell hbw1))
    go_ret
    exact ⟨rfl, (by repeat (first | exact Below.refl _ _ | assumption | refine ba_alloc ?_ _ | refine ba_drew ?_ | refine ba_drewN ?_ _ | refine ba_via (by assumption) ?_ | (refine ba_set ?_ ?_ _; rotate_left; (first | omega | (simp; omega) | simp))))⟩
  by_cases h3 : 1005 < n
  · have h3i : (1005 : Int) < n := by omega
    have h1i : (20 : Int) < n := by omega
    have h2i : ¬ ((n : Int) ≤ 1000) := by omega
    clear hn hs HST HCF HF h1
    go_enter Try.func3, Try.ntmps3
    go_wp2_with (first
      | (go_at_call 7; (with_reducible refine (HA.out _).mono ?_); rintro e w1 ⟨rfl, hbw1⟩; obtain ⟨hcw1, hfw1⟩ := bcell hbw1))
    go_ret
    exact ⟨rfl, (by repeat (first | exact Below.refl _ _ | assumption | refine ba_alloc ?_ _ | refine ba_drew ?_ | refine ba_drewN ?_ _ | refine ba_via (by assumption) ?_ | (refine ba_set ?_ ?_ _; rotate_left; (first | omega | (simp; omega) | simp))))⟩
  have h3i : ¬ ((1005 : Int) < n) := by omega
  have hn20 : (¬ ((20 : Int) < n) ∧ ¬ ((1000 : Int) < n)) ∨ ((20 : Int) < n ∧ ¬ ((n : Int) ≤ 1000) ∧ (1000 : Int) < n) := by omega
  by_cases ha : anyb l S.spanNot = true
  · have hT := stagT_err (l := l) (num := num) (den := den) (e := 1) (by unfold S.stagErr; rw [if_pos ha]) (by decide)
    rw [hT] at HST
    rw [ha] at HCF
    clear hn hs HF h1 h3 hT ha
    rcases hn20 with ⟨g1, g2⟩ | ⟨g1, g2, g3⟩
    all_goals (
      go_enter Try.func3, Try.ntmps3
      go_wp2_with (first
        | (go_at_call 7; (with_reducible refine (HA.out _).mono ?_); rintro e w1 ⟨rfl, hbw1⟩; obtain ⟨hcw1, hfw1⟩ := bcell hbw1)
        | (go_at_call 8; (with_reducible refine (HST.out _ (by repeat (first | exact Below.refl _ _ | assumption | refine ba_alloc ?_ _ | refine ba_drew ?_ | refine ba_drewN ?_ _ | refine ba_via (by assumption) ?_ | (refine ba_set ?_ ?_ _; rotate_left; (first | omega | (simp; omega) | simp))))).mono ?_); rintro e w2 ⟨rfl, hbw2⟩; obtain ⟨hcw2, hfw2⟩ := bcell hbw2)
        | (go_at_call 9; (with_reducible refine (HCF.out _ (by repeat (first | exact Below.refl _ _ | assumption | refine ba_alloc ?_ _ | refine ba_drew ?_ | refine ba_drewN ?_ _ | refine ba_via (by assumption) ?_ | (refine ba_set ?_ ?_ _; rotate_left; (first | omega | (simp; omega) | simp))))).mono ?_); rintro e w3 ⟨rfl, hbw3⟩; obtain ⟨hcw3, hfw3⟩ := bcell hbw3))
      go_ret
      exact ⟨rfl, (by repeat (first | exact Below.refl _ _ | assumption | refine ba_alloc ?_ _ | refine ba_drew ?_ | refine ba_drewN ?_ _ | refine ba_via (by assumption) ?_ | (refine ba_set ?_ ?_ _; rotate_left; (first | omega | (simp; omega) | simp))))⟩)
  have ha' : anyb l S.spanNot = false := by simpa using ha
  rw [ha'] at HCF
  by_cases hb : S.stagNum num den = true
  · have hT := stagT_err (l := l) (num := num) (den := den) (e := 2) (by unfold S.stagErr; rw [if_neg ha, if_pos hb]) (by decide)
    rw [hT] at HST
    have hcs : num < 1 ∨ (¬ num < 1 ∧ 1000 < num) ∨ (¬ num < 1 ∧ ¬ 1000 < num ∧ den < 1) ∨ (¬ num < 1 ∧ ¬ 1000 < num ∧ ¬ den < 1 ∧ 1000 < den) := by
      simp only [S.stagNum, Bool.or_eq_true, decide_eq_true_eq] at hb
      omega
    clear hn hs HF h1 h3 hT ha ha' hb
    rcases hn20 with ⟨g1, g2⟩ | ⟨g1, g2, g3⟩ <;> rcases hcs with k1 | ⟨k1, k2⟩ | ⟨k1, k2, k3⟩ | ⟨k1, k2, k3, k4⟩
    all_goals (
      go_enter Try.func3, Try.ntmps3
      go_wp2_with (first
        | (go_at_call 7; (with_reducible refine (HA.out _).mono ?_); rintro e w1 ⟨rfl, hbw1⟩; obtain ⟨hcw1, hfw1⟩ := bcell hbw1)
        | (go_at_call 8; (with_reducible refine (HST.out _ (by repeat (first | exact Below.refl _ _ | assumption | refine ba_alloc ?_ _ | refine ba_drew ?_ | refine ba_drewN ?_ _ | refine ba_via (by assumption) ?_ | (refine ba_set ?_ ?_ _; rotate_left; (first | omega | (simp; omega) | simp))))).mono ?_); rintro e w2 ⟨rfl, hbw2⟩; obtain ⟨hcw2, hfw2⟩ := bcell hbw2)
        | (go_at_call 9; (with_reducible refine (HCF.out _ (by repeat (first | exact Below.refl _ _ | assumption | refine ba_alloc ?_ _ | refine ba_drew ?_ | refine ba_drewN ?_ _ | refine ba_via (by assumption) ?_ | (refine ba_set ?_ ?_ _; rotate_left; (first | omega | (simp; omega) | simp))))).mono ?_); rintro e w3 ⟨rfl, hbw3⟩; obtain ⟨hcw3, hfw3⟩ := bcell hbw3))
      go_ret
      exact ⟨rfl, (by repeat (first | exact Below.refl _ _ | assumption | refine ba_alloc ?_ _ | refine ba_drew ?_ | refine ba_drewN ?_ _ | refine ba_via (by assumption) ?_ | (refine ba_set ?_ ?_ _; rotate_left; (first | omega | (simp; omega) | simp))))⟩)
  have hb' : (¬ num < 1 ∧ ¬ 1000 < num) ∧ ¬ den < 1 ∧ ¬ 1000 < den := by
    simp only [S.stagNum, Bool.or_eq_true, decide_eq_true_eq] at hb
    omega
  obtain ⟨⟨k1, k2⟩, k3, k4⟩ := hb'
  rcases hn20 with ⟨g1, g2⟩ | ⟨g1, g2, g3⟩
  rotate_left
  · have hT := stagT_err (l := l) (num := num) (den := den) (e := 4) (by unfold S.stagErr; rw [if_neg ha, if_neg hb, if_pos (by omega)]) (by decide)
    rw [hT] at HST
    clear hn hs HF h1 h3 hT ha ha' hb
    go_enter Try.func3, Try.ntmps3
    go_wp2_with (first
      | (go_at_call 7; (with_reducible refine (HA.out _).mono ?_); rintro e w1 ⟨rfl, hbw1⟩; obtain ⟨hcw1, hfw1⟩ := bcell hbw1)
      | (go_at_call 8; (with_reducible refine (HST.out _ (by repeat (first | exact Below.refl _ _ | assumption | refine ba_alloc ?_ _ | refine ba_drew ?_ | refine ba_drewN ?_ _ | refine ba_via (by assumption) ?_ | (refine ba_set ?_ ?_ _; rotate_left; (first | omega | (simp; omega) | simp))))).mono ?_); rintro e w2 ⟨rfl, hbw2⟩; obtain ⟨hcw2, hfw2⟩ := bcell hbw2)
      | (go_at_call 9; (with_reducible refine (HCF.out _ (by repeat (first | exact Below.refl _ _ | assumption | refine ba_alloc ?_ _ | refine ba_drew ?_ | refine ba_drewN ?_ _ | refine ba_via (by assumption) ?_ | (refine ba_set ?_ ?_ _; rotate_left; (first | omega | (simp; omega) | simp))))).mono ?_); rintro e w3 ⟨rfl, hbw3⟩; obtain ⟨hcw3, hfw3⟩ := bcell hbw3))
    go_ret
    exact ⟨rfl, (by repeat (first | exact Below.refl _ _ | assumption | refine ba_alloc ?_ _ | refine ba_drew ?_ | refine ba_drewN ?_ _ | refine ba_via (by assumption) ?_ | (refine ba_set ?_ ?_ _; rotate_left; (first | omega | (simp; omega) | simp))))⟩
  have hT := stagT_ok (l := l) (num := num) (den := den) (by unfold S.stagErr; rw [if_neg ha, if_neg hb, if_neg (by omega)])
  rw [hT] at HST
  have HRS := Lib.hid (fun (W : World) (hb : Below w.heap.size w W) => rstag_any l num den A n c w.heap.size W hn (by omega) hb.size (hs.below hb) ha' (by omega) (by omega))
  clear hn hs HF h1 h3 hT ha ha' hb
  generalize S.stag l num den = s at *
  by_cases hs0 : s < 0
  all_goals (
    go_enter Try.func3, Try.ntmps3
    go_wp2_with (first
      | (go_at_call 7; (with_reducible refine (HA.out _).mono ?_); rintro e w1 ⟨rfl, hbw1⟩; obtain ⟨hcw1, hfw1⟩ := bcell hbw1)
      | (go_at_call 8; (with_reducible refine (HST.out _ (by repeat (first | exact Below.refl _ _ | assumption | refine ba_alloc ?_ _ | refine ba_drew ?_ | refine ba_drewN ?_ _ | refine ba_via (by assumption) ?_ | (refine ba_set ?_ ?_ _; rotate_left; (first | omega | (simp; omega) | simp))))).mono ?_); rintro e w2 ⟨rfl, hbw2⟩; obtain ⟨hcw2, hfw2⟩ := bcell hbw2)
      | (go_at_call 9; (with_reducible refine (HCF.out _ (by repeat (first | exact Below.refl _ _ | assumption | refine ba_alloc ?_ _ | refine ba_drew ?_ | refine ba_drewN ?_ _ | refine ba_via (by assumption) ?_ | (refine ba_set ?_ ?_ _; rotate_left; (first | omega | (simp; omega) | simp))))).mono ?_); rintro e w3 ⟨rfl, hbw3⟩; obtain ⟨hcw3, hfw3⟩ := bcell hbw3)
      | (go_at_call 12; (with_reducible refine (HRS.out _ (by repeat (first | exact Below.refl _ _ | assumption | refine ba_alloc ?_ _ | refine ba_drew ?_ | refine ba_drewN ?_ _ | refine ba_via (by assumption) ?_ | (refine ba_set ?_ ?_ _; rotate_left; (first | omega | (simp; omega) | simp))))).mono ?_); rintro e w4 ⟨rfl, hbw4⟩; obtain ⟨hcw4, hfw4⟩ := bcell hbw4))
    go_ret
    exact ⟨rfl, (by repeat (first | exact Below.refl _ _ | assumption | refine ba_alloc ?_ _ | refine ba_drew ?_ | refine ba_drewN ?_ _ | refine ba_via (by assumption) ?_ | (refine ba_set ?_ ?_ _; rotate_left; (first | omega | (simp; omega) | simp))))⟩)
end Go.Proofs.Ytplaghmehbkcnaa
