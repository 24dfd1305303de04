/- The walk of BendSpans. -/
import Derived.Test.YtpjdepnbeendcaaBendC
set_option linter.unusedVariables false
set_option linter.unusedSimpArgs false
namespace Go.Proofs.Ytpjdepnbeendcaa
open Go.RowKit
theorem right_bar {b : Bar} (h : S.right b = true) : S.bar b = true := by simp only [S.right, Bool.and_eq_true] at h; exact h.2
set_option maxRecDepth 100000 in
theorem spans_no (b : Bar) (A : Option Addr) (n c : Nat) (B : Nat) (w : World) (hB : B ≤ w.heap.size) (hA : BarAt w B A n b) (hr : S.right b = false) :
    Calls Try.prog 9 #[barV b A n c] w fun e w' => e = .returned (.bool true) ∧ Below w.heap.size w w' := by
  have HA := Lib.hid hA
  clear hA
  unfold barV
  go_enter Try.func9, Try.ntmps9
  go_wp2_with (first
    | (go_at_call 33; (with_reducible refine (awake13_any _).mono ?_); rintro e w1 ⟨rfl, hbw1⟩; obtain ⟨hcw1, hfw1⟩ := bcell hbw1; have hzw1_0 : w.heap.size < w1.heap.size := lt_via hbw1 (by first | omega | (simp; done) | (simp; omega)))
    | (go_at_call 39; (with_reducible refine (right_any b A n c B _ (by first | omega | (simp; omega)) (BarAt.at_ HA.out hB (by repeat (first | exact Below.refl _ _ | assumption | refine ba_alloc ?_ _ | refine ba_drew ?_ | refine ba_drewN ?_ _ | refine ba_via (by assumption) ?_ | (refine ba_set ?_ ?_ _; rotate_left; (first | omega | (simp; omega) | simp)))))).mono ?_); rintro e w2 ⟨rfl, hbw2⟩; obtain ⟨hcw2, hfw2⟩ := bcell hbw2; have hzw2_0 : w.heap.size < w2.heap.size := lt_via hbw2 (by first | omega | (simp; done) | (simp; omega))))
  go_ret
  exact ⟨rfl, (by repeat (first | exact Below.refl _ _ | assumption | refine ba_alloc ?_ _ | refine ba_drew ?_ | refine ba_drewN ?_ _ | refine ba_via (by assumption) ?_ | (refine ba_set ?_ ?_ _; rotate_left; (first | omega | (simp; omega) | simp))))⟩
set_option maxRecDepth 100000 in
set_option maxHeartbeats 2000000 in
theorem spans_yes (b : Bar) (A : Option Addr) (n c : Nat) (B : Nat) (w : World) (hB : B ≤ w.heap.size) (hA : BarAt w B A n b) (hr : S.right b = true) (tf : Bool) (htf : decide (0 < S.bends b) = tf) :
    Calls Try.prog 9 #[barV b A n c] w fun e w' => e = .returned (.bool true) ∧ Below w.heap.size w w' := by
  have h := right_bar hr
  have HA := Lib.hid hA
  have hl := legs_bd b.code (legs_sum h).2
  have hl6 := legs_len b.code
  have hac := arc_bd (bar_size h)
  have hdv := dev_bd h
  have HLS := Lib.hid (show (S.legLens b).length = (S.legsOf b.code).length by simp [S.legLens])
  have HP := Lib.hid (lens_pos h)
  have hdlo : S.devLo b = 1000 * S.legSum b - S.bends b * (2000 * S.radius b.size - S.arcLo b.size) := rfl
  have hdhi : S.devHi b = 1000 * S.legSum b - S.bends b * (2000 * S.radius b.size - S.arcHi b.size) := rfl
  have hbn : S.bends b = ((S.legsOf b.code).length : Int) - 1 := rfl
  have HT := Lib.hid (show ∀ (A : Option Addr) (n c B : Nat) (w : World) (hn : (S.legLens b).length = n) (hm : n ≤ 1000000) (hs : Cells w B A (i64s (S.legLens b))), Calls Try.prog 43 #[.slice A n c] w fun e w' => e = .returned (.int .i64 (S.legSum b)) ∧ w = w' from fun A n c B w hn hm hs => total_any A n c (S.legLens b) B w hn hm hs (lens_pos h) (by have := hdv.2.2.2.2; unfold S.legSum at this; omega))
  have HR := Lib.hid (fun w => sbend_yes b.size w (bar_size h))
  have HC := Lib.hid (fun w => arc_yes b.size w (bar_size h))
  have HN := Lib.hid (fun (B : Nat) (w : World) (hB : B ≤ w.heap.size) (hA : BarAt w B A n b) => bends_yes b A n c B w hB hA h)
  have HD := Lib.hid (fun (B : Nat) (w : World) (hB : B ≤ w.heap.size) (hA : BarAt w B A n b) => devel_yes b A n c B w hB hA h)
  clear hA
  generalize S.radius b.size = R at *
  generalize S.arcLo b.size = lo at *
  generalize S.arcHi b.size = hi at *
  generalize S.devLo b = dl at *
  generalize S.devHi b = dh at *
  generalize S.bends b = N at *
  generalize hSm : S.legSum b = Sm at *
  clear hSm
  generalize hL : (S.legsOf b.code).length = L at *
  have HL := Lib.hid hL
  clear hL
  have e0 : IntKind.i64.wrap ((L : Int) - 1) = (L : Int) - 1 := IntWalk.i64_in _ (by omega)
  have q0 : (N != (L : Int) - 1) = false := by simp [hbn]
  have q1 : decide (hi ≤ lo) = false := by simp; omega
  have e1 : IntKind.i64.wrap (1000 * Sm) = 1000 * Sm := IntWalk.i64_in _ (by omega)
  have e2 : IntKind.i64.wrap (2000 * R) = 2000 * R := IntWalk.i64_in _ (by omega)
  have hN : 0 ≤ N ∧ N ≤ 5 := by omega
  have hp : 2000 * R * N = N * (2000 * R) := Int.mul_comm _ _
  have p0 := mul5_bd hN.1 hN.2 (x := 2000 * R) (by omega) (by omega)
  have p1 := mul5_bd hN.1 hN.2 (x := lo) (by omega) (by omega)
  have p2 := mul5_bd hN.1 hN.2 (x := hi) (by omega) (by omega)
  have p3 : N * (2000 * R - lo) = N * (2000 * R) - N * lo := Int.mul_sub _ _ _
  have p4 : N * (2000 * R - hi) = N * (2000 * R) - N * hi := Int.mul_sub _ _ _
  have e3 : IntKind.i64.wrap (2000 * R * N) = 2000 * R * N := IntWalk.i64_in _ (by omega)
  have e4 : IntKind.i64.wrap (1000 * Sm - 2000 * R * N) = 1000 * Sm - 2000 * R * N := IntWalk.i64_in _ (by omega)
  have e5 : IntKind.i64.wrap (N * lo) = N * lo := IntWalk.i64_in _ (by omega)
  have e6 : IntKind.i64.wrap (N * hi) = N * hi := IntWalk.i64_in _ (by omega)
  have e7 : IntKind.i64.wrap (1000 * Sm - 2000 * R * N + N * lo) = 1000 * Sm - 2000 * R * N + N * lo := IntWalk.i64_in _ (by omega)
  have e8 : IntKind.i64.wrap (1000 * Sm - 2000 * R * N + N * hi) = 1000 * Sm - 2000 * R * N + N * hi := IntWalk.i64_in _ (by omega)
  have q2 : (dl != 1000 * Sm - 2000 * R * N + N * lo) = false := by simp; omega
  have q3 : (dh != 1000 * Sm - 2000 * R * N + N * hi) = false := by simp; omega
  have q4 : tf = true → decide (1000 * Sm ≤ dh) = false := fun ht => by
    rw [ht] at htf
    simp at htf
    have : 0 < N * (2000 * R - hi) := Int.mul_pos htf (by omega)
    simp
    omega
  have e9 : IntKind.i64.wrap (1410 * R) = 1410 * R := IntWalk.i64_in _ (by omega)
  have q5 : decide (1410 * R < lo) = true := by simp; omega
  have q6 : decide (hi < 2000 * R) = true := by simp; omega
  have e10 : IntKind.i64.wrap (hi - lo) = hi - lo := IntWalk.i64_in _ (by omega)
  have e11 : R.tdiv 10 = R / 10 := Int.tdiv_eq_ediv_of_nonneg (by omega)
  have e12 : IntKind.i64.wrap (R / 10) = R / 10 := IntWalk.i64_in _ (by omega)
  have e13 : IntKind.i64.wrap (1 + R / 10) = 1 + R / 10 := IntWalk.i64_in _ (by omega)
  have e14 : IntKind.i64.wrap (1 + R / 10 + 2) = 1 + R / 10 + 2 := IntWalk.i64_in _ (by omega)
  have q7 : decide (hi - lo ≤ 1 + R / 10 + 2) = true := by simp; omega
  clear p0 p1 p2 p3 p4 hp hdlo hdhi hac hdv hbn
  unfold barV
  cases tf
  all_goals (
    try have q4' := q4 rfl
    clear q4
    go_enter Try.func9, Try.ntmps9
    go_wp2_with (first
      | (go_at_call 33; (with_reducible refine (awake13_any _).mono ?_); rintro e w1 ⟨rfl, hbw1⟩; obtain ⟨hcw1, hfw1⟩ := bcell hbw1; have hzw1_0 : w.heap.size < w1.heap.size := lt_via hbw1 (by first | omega | (simp; done) | (simp; omega)))
      | (go_at_call 39; (with_reducible refine (right_any b A n c B _ (by first | omega | (simp; omega)) (BarAt.at_ HA.out hB (by repeat (first | exact Below.refl _ _ | assumption | refine ba_alloc ?_ _ | refine ba_drew ?_ | refine ba_drewN ?_ _ | refine ba_via (by assumption) ?_ | (refine ba_set ?_ ?_ _; rotate_left; (first | omega | (simp; omega) | simp)))))).mono ?_); rintro e w2 ⟨rfl, hbw2⟩; obtain ⟨hcw2, hfw2⟩ := bcell hbw2; have hzw2_0 : w.heap.size < w2.heap.size := lt_via hbw2 (by first | omega | (simp; done) | (simp; omega)))
      | ((go_at_call 19; (with_reducible refine (legs_yesL b A n c B _ L HL.out (by omega) (BarAt.at_ HA.out hB (by repeat (first | exact Below.refl _ _ | assumption | refine ba_alloc ?_ _ | refine ba_drew ?_ | refine ba_drewN ?_ _ | refine ba_via (by assumption) ?_ | (refine ba_set ?_ ?_ _; rotate_left; (first | omega | (simp; omega) | simp))))) h).mono ?_); rintro e w3 ⟨Aw3, cw3, rfl, how3, hbw3⟩; obtain ⟨hcw3, hfw3⟩ := bcell hbw3; have hzw3_0 : w.heap.size < w3.heap.size := lt_via hbw3 (by first | omega | (simp; done) | (simp; omega)))
         obtain ⟨hs3, _, _⟩ := own_cells how3)
      | (go_at_call 40; (with_reducible refine (HR.out _).mono ?_); rintro e w4 ⟨rfl, hbw4⟩; obtain ⟨hcw4, hfw4⟩ := bcell hbw4; have hzw4_0 : w.heap.size < w4.heap.size := lt_via hbw4 (by first | omega | (simp; done) | (simp; omega)))
      | (go_at_call 34; (with_reducible refine (HC.out _).mono ?_); rintro e w5 ⟨rfl, hbw5⟩; obtain ⟨hcw5, hfw5⟩ := bcell hbw5; have hzw5_0 : w.heap.size < w5.heap.size := lt_via hbw5 (by first | omega | (simp; done) | (simp; omega)))
      | (go_at_call 41; (with_reducible refine (HN.out B _ (by first | omega | (simp; omega)) (BarAt.at_ HA.out hB (by repeat (first | exact Below.refl _ _ | assumption | refine ba_alloc ?_ _ | refine ba_drew ?_ | refine ba_drewN ?_ _ | refine ba_via (by assumption) ?_ | (refine ba_set ?_ ?_ _; rotate_left; (first | omega | (simp; omega) | simp)))))).mono ?_); rintro e w6 ⟨rfl, hbw6⟩; obtain ⟨hcw6, hfw6⟩ := bcell hbw6; have hzw6_0 : w.heap.size < w6.heap.size := lt_via hbw6 (by first | omega | (simp; done) | (simp; omega)); have hyw6_0 : w5.heap.size < w6.heap.size := lt_via hbw6 (by first | omega | (simp; done) | (simp; omega)))
      | (go_at_call 42; (with_reducible refine (HD.out B _ (by first | omega | (simp; omega)) (BarAt.at_ HA.out hB (by repeat (first | exact Below.refl _ _ | assumption | refine ba_alloc ?_ _ | refine ba_drew ?_ | refine ba_drewN ?_ _ | refine ba_via (by assumption) ?_ | (refine ba_set ?_ ?_ _; rotate_left; (first | omega | (simp; omega) | simp)))))).mono ?_); rintro e w7 ⟨rfl, hbw7⟩; obtain ⟨hcw7, hfw7⟩ := bcell hbw7; have hzw7_0 : w.heap.size < w7.heap.size := lt_via hbw7 (by first | omega | (simp; done) | (simp; omega)); have hyw7_0 : w5.heap.size < w7.heap.size := lt_via hbw7 (by first | omega | (simp; done) | (simp; omega)))
      | (go_at_call 43; (with_reducible refine (HT.out Aw3 L cw3 w3.heap.size _ HLS.out (by omega) (hs3.below (by repeat (first | exact Below.refl _ _ | assumption | refine ba_alloc ?_ _ | refine ba_drew ?_ | refine ba_drewN ?_ _ | refine ba_via (by assumption) ?_ | (refine ba_set ?_ ?_ _; rotate_left; (first | omega | (simp; omega) | simp)))))).mono ?_); rintro e w' ⟨rfl, rfl⟩))
    refine wp_region_grow (by kernel_rfl) (by kernel_rfl) ?_
    repeat (go_big_quiet_step ((go_at_call 43; exact grow_of_eq (HT.out Aw3 L cw3 w3.heap.size _ HLS.out (by omega) (hs3.below (ba_via (grow_below _ _) (by repeat (first | exact Below.refl _ _ | assumption | refine ba_alloc ?_ _ | refine ba_drew ?_ | refine ba_drewN ?_ _ | refine ba_via (by assumption) ?_ | (refine ba_set ?_ ?_ _; rotate_left; (first | omega | (simp; omega) | simp))))))))))
    all_goals (refine wpQuiet_nil ?_; intro wg hbwg; obtain ⟨hcwg, hfwg⟩ := bcell hbwg; have hzwg_0 : w.heap.size < wg.heap.size := lt_via hbwg (by first | omega | (simp; done) | (simp; omega)))
    go_wp2
    go_ret
    exact ⟨rfl, (by repeat (first | exact Below.refl _ _ | assumption | refine ba_alloc ?_ _ | refine ba_drew ?_ | refine ba_drewN ?_ _ | refine ba_via (by assumption) ?_ | (refine ba_set ?_ ?_ _; rotate_left; (first | omega | (simp; omega) | simp))))⟩)
theorem spans_walk (b : Bar) (A : Option Addr) (n c : Nat) (w : World) (hA : BarAt w w.heap.size A n b) :
    Calls Try.prog 9 #[barV b A n c] w fun e w' => e = .returned (.bool true) ∧ Below w.heap.size w w' := by
  cases h : S.right b
  · exact spans_no b A n c _ w (Nat.le_refl _) hA h
  · exact spans_yes b A n c _ w (Nat.le_refl _) hA h _ rfl
end Go.Proofs.Ytpjdepnbeendcaa
