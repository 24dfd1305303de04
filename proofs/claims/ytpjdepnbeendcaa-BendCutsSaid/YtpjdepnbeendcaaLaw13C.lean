/- The walk of BendCuts. -/
import Derived.Test.YtpjdepnbeendcaaLaw13B
import Derived.Test.YtpjdepnbeendcaaSpecScale
set_option linter.unusedVariables false
set_option linter.unusedSimpArgs false
namespace Go.Proofs.Ytpjdepnbeendcaa
open Go.RowKit
theorem BarAt.recount {w : World} {B : Nat} {A : Option Addr} {n : Nat} {b : Bar} (h : BarAt w B A n b) (ct : Int) : BarAt w B A n ⟨b.mark, b.size, ct, b.code, b.dims⟩ := ⟨h.len, h.max, h.mark, h.cells⟩
theorem bar_recount {b : Bar} (h : S.bar b = true) (ct : Int) (h1 : 1 ≤ ct) : S.bar ⟨b.mark, b.size, ct, b.code, b.dims⟩ = decide (ct ≤ 1000) := by
  simp only [S.bar, S.barHead, Bool.and_eq_true, Bool.not_eq_true', decide_eq_true_eq] at h ⊢
  obtain ⟨⟨⟨⟨⟨⟨a1, a2⟩, a3⟩, a4⟩, a5⟩, a6⟩, a7⟩ := h
  simp [a1, a2, a3, a6, a7, h1]
theorem mass_recount (b : Bar) (ct : Int) : S.mass ⟨b.mark, b.size, ct, b.code, b.dims⟩ = ct * S.massOf b.size (S.cut b) := rfl
set_option maxRecDepth 100000 in
theorem cuts_no (b : Bar) (A : Option Addr) (n c : Nat) (B : Nat) (w : World) (hB : B ≤ w.heap.size) (hA : BarAt w B A n b) (hr : S.right b = false) :
    Calls Try.prog 10 #[barV b A n c] w fun e w' => e = .returned (.bool true) ∧ Below w.heap.size w w' := by
  have HA := Lib.hid hA
  clear hA
  unfold barV
  go_enter Try.func10, Try.ntmps10
  go_wp2_with (first
    | (go_at_call 33; (with_reducible refine (awake13_any _).mono ?_); rintro e w1 ⟨rfl, hbw1⟩; obtain ⟨hcw1, hfw1⟩ := bcell hbw1; have hzw1_0 : w.heap.size < w1.heap.size := lt_via hbw1 (by first | omega | (simp; done) | (simp; omega)))
    | (go_at_call 39; (with_reducible refine (right_any b A n c B _ (by first | omega | (simp; omega)) (BarAt.at_ HA.out hB (by repeat (first | exact Below.refl _ _ | assumption | refine ba_alloc ?_ _ | refine ba_drew ?_ | refine ba_drewN ?_ _ | refine ba_via (by assumption) ?_ | (refine ba_set ?_ ?_ _; rotate_left; (first | omega | (simp; omega) | simp)))))).mono ?_); rintro e w2 ⟨rfl, hbw2⟩; obtain ⟨hcw2, hfw2⟩ := bcell hbw2; have hzw2_0 : w.heap.size < w2.heap.size := lt_via hbw2 (by first | omega | (simp; done) | (simp; omega))))
  go_ret
  exact ⟨rfl, (by repeat (first | exact Below.refl _ _ | assumption | refine ba_alloc ?_ _ | refine ba_drew ?_ | refine ba_drewN ?_ _ | refine ba_via (by assumption) ?_ | (refine ba_set ?_ ?_ _; rotate_left; (first | omega | (simp; omega) | simp))))⟩
set_option maxRecDepth 100000 in
set_option maxHeartbeats 2000000 in
theorem cuts_yes (b : Bar) (A : Option Addr) (n c : Nat) (B : Nat) (w : World) (hB : B ≤ w.heap.size) (hA : BarAt w B A n b) (hr : S.right b = true) (tf tg : Bool) (htf : decide (5 < S.cut b) = tf) (htg : decide (b.count * 2 ≤ 1000) = tg) :
    Calls Try.prog 10 #[barV b A n c] w fun e w' => e = .returned (.bool true) ∧ Below w.heap.size w w' := by
  have h := right_bar hr
  have HA := Lib.hid hA
  have hct := bar_count h
  have hcut := cut_bd h
  have hdv := dev_bd h
  have hms := mass_bd (bar_size h) (n := S.cut b) (by omega) (by omega)
  have hcd : S.cut b = max 5 (5 * ((max 0 (S.devHi b) + 4999) / 5000)) := rfl
  have hmd : S.mass b = b.count * S.massOf b.size (S.cut b) := rfl
  have hb2 := (bar_recount h (b.count * 2) (by omega)).trans htg
  have hm2 := mass_recount b (b.count * 2)
  have HD := Lib.hid (fun (B : Nat) (w : World) (hB : B ≤ w.heap.size) (hA : BarAt w B A n b) => devel_yes b A n c B w hB hA h)
  have HC := Lib.hid (fun (B : Nat) (w : World) (hB : B ≤ w.heap.size) (hA : BarAt w B A n b) => cut_yes b A n c B w hB hA h)
  have HM := Lib.hid (fun (B : Nat) (w : World) (hB : B ≤ w.heap.size) (hA : BarAt w B A n b) => bmass_yes b A n c B w hB hA h)
  have HS := Lib.hid (fun w => smass_yes b.size (S.cut b) w (bar_size h) (by omega) (by omega))
  have HT := Lib.hid (fun (hg : tg = true) (B : Nat) (w : World) (hB : B ≤ w.heap.size) (hA : BarAt w B A n b) => hm2 ▸ bmass_yes ⟨b.mark, b.size, b.count * 2, b.code, b.dims⟩ A n c B w hB (hA.recount _) (hb2.trans hg))
  have HF := Lib.hid (fun (hg : tg = false) (B : Nat) (w : World) (hB : B ≤ w.heap.size) (hA : BarAt w B A n b) => bmass_no ⟨b.mark, b.size, b.count * 2, b.code, b.dims⟩ A n c B w hB (hA.recount _) (hb2.trans hg))
  clear hA hb2 hm2
  generalize S.devLo b = dl at *
  generalize S.devHi b = dh at *
  generalize S.mass b = ms at *
  generalize S.cut b = ct at *
  generalize S.massOf b.size ct = m1 at *
  have pr1 : 0 ≤ b.count * m1 ∧ b.count * m1 ≤ 1000 * 20000000 := ⟨Int.mul_nonneg (by omega) hms.1, Int.mul_le_mul hct.2 hms.2 hms.1 (by omega)⟩
  have pr2 : b.count * 2 * m1 = 2 * (b.count * m1) := by rw [Int.mul_comm b.count 2, Int.mul_assoc]
  have q1 : decide (ct < 5) = false := by simp; omega
  have q2 : ct.tmod 5 = 0 := by rw [Int.tmod_eq_emod_of_nonneg (by omega)]; omega
  have e1 : IntKind.i64.wrap (1000 * ct) = 1000 * ct := IntWalk.i64_in _ (by omega)
  have q3 : decide (1000 * ct < dh) = false := by simp; omega
  have e2 : IntKind.i64.wrap (ct - 5) = ct - 5 := IntWalk.i64_in _ (by omega)
  have e3 : IntKind.i64.wrap (1000 * (ct - 5)) = 1000 * (ct - 5) := IntWalk.i64_in _ (by omega)
  have q4 : tf = true → decide (dh ≤ 1000 * (ct - 5)) = false := fun ht => by
    rw [ht] at htf
    simp at htf
    simp
    omega
  have e4 : IntKind.i64.wrap (b.count * m1) = b.count * m1 := IntWalk.i64_in _ (by omega)
  have q5 : (ms != b.count * m1) = false := by simp [hmd]
  have e5 : IntKind.i64.wrap (b.count * 2) = b.count * 2 := IntWalk.i64_in _ (by omega)
  have q6 : tg = false → decide (1000 < b.count * 2) = true := fun ht => by
    rw [ht] at htg
    simp at htg
    simp
    omega
  have e6 : IntKind.i64.wrap (2 * ms) = 2 * ms := IntWalk.i64_in _ (by omega)
  have q7 : (b.count * 2 * m1 == 2 * ms) = true := by simp; omega
  clear pr1 pr2 hmd hcd hms hdv htg
  have hn := HA.out.len
  unfold barV
  cases tf <;> cases tg
  all_goals (
    have q4' := q4
    have q6' := q6
    simp only [reduceCtorEq, false_implies, true_implies, forall_const] at q4' q6'
    clear q4 q6
    go_enter Try.func10, Try.ntmps10
    go_wp2_with (first
      | (go_at_call 33; (with_reducible refine (awake13_any _).mono ?_); rintro e w1 ⟨rfl, hbw1⟩; obtain ⟨hcw1, hfw1⟩ := bcell hbw1; have hzw1_0 : w.heap.size < w1.heap.size := lt_via hbw1 (by first | omega | (simp; done) | (simp; omega)))
      | (go_at_call 39; (with_reducible refine (right_any b A n c B _ (by first | omega | (simp; omega)) (BarAt.at_ HA.out hB (by repeat (first | exact Below.refl _ _ | assumption | refine ba_alloc ?_ _ | refine ba_drew ?_ | refine ba_drewN ?_ _ | refine ba_via (by assumption) ?_ | (refine ba_set ?_ ?_ _; rotate_left; (first | omega | (simp; omega) | simp)))))).mono ?_); rintro e w2 ⟨rfl, hbw2⟩; obtain ⟨hcw2, hfw2⟩ := bcell hbw2; have hzw2_0 : w.heap.size < w2.heap.size := lt_via hbw2 (by first | omega | (simp; done) | (simp; omega)))
      | (go_at_call 42; (with_reducible refine (HD.out B _ (by first | omega | (simp; omega)) (BarAt.at_ HA.out hB (by repeat (first | exact Below.refl _ _ | assumption | refine ba_alloc ?_ _ | refine ba_drew ?_ | refine ba_drewN ?_ _ | refine ba_via (by assumption) ?_ | (refine ba_set ?_ ?_ _; rotate_left; (first | omega | (simp; omega) | simp)))))).mono ?_); rintro e w3 ⟨rfl, hbw3⟩; obtain ⟨hcw3, hfw3⟩ := bcell hbw3; have hzw3_0 : w.heap.size < w3.heap.size := lt_via hbw3 (by first | omega | (simp; done) | (simp; omega)))
      | (go_at_call 44; (with_reducible refine (HC.out B _ (by first | omega | (simp; omega)) (BarAt.at_ HA.out hB (by repeat (first | exact Below.refl _ _ | assumption | refine ba_alloc ?_ _ | refine ba_drew ?_ | refine ba_drewN ?_ _ | refine ba_via (by assumption) ?_ | (refine ba_set ?_ ?_ _; rotate_left; (first | omega | (simp; omega) | simp)))))).mono ?_); rintro e w4 ⟨rfl, hbw4⟩; obtain ⟨hcw4, hfw4⟩ := bcell hbw4; have hzw4_0 : w.heap.size < w4.heap.size := lt_via hbw4 (by first | omega | (simp; done) | (simp; omega)); have hyw4_0 : w3.heap.size < w4.heap.size := lt_via hbw4 (by first | omega | (simp; done) | (simp; omega)))
      | (go_at_call 45; (with_reducible refine (HM.out B _ (by first | omega | (simp; omega)) (BarAt.at_ HA.out hB (by repeat (first | exact Below.refl _ _ | assumption | refine ba_alloc ?_ _ | refine ba_drew ?_ | refine ba_drewN ?_ _ | refine ba_via (by assumption) ?_ | (refine ba_set ?_ ?_ _; rotate_left; (first | omega | (simp; omega) | simp)))))).mono ?_); rintro e w5 ⟨rfl, hbw5⟩; obtain ⟨hcw5, hfw5⟩ := bcell hbw5; have hzw5_0 : w.heap.size < w5.heap.size := lt_via hbw5 (by first | omega | (simp; done) | (simp; omega)); have hyw5_0 : w3.heap.size < w5.heap.size := lt_via hbw5 (by first | omega | (simp; done) | (simp; omega)))
      | (go_at_call 46; (with_reducible refine (HS.out _).mono ?_); rintro e w6 ⟨rfl, hbw6⟩; obtain ⟨hcw6, hfw6⟩ := bcell hbw6; have hzw6_0 : w.heap.size < w6.heap.size := lt_via hbw6 (by first | omega | (simp; done) | (simp; omega)); have hyw6_0 : w3.heap.size < w6.heap.size := lt_via hbw6 (by first | omega | (simp; done) | (simp; omega)))
      | (go_at_call 45; (with_reducible refine (HT.out (by first | rfl | trivial) B _ (by first | omega | (simp; omega)) (BarAt.at_ HA.out hB (by repeat (first | exact Below.refl _ _ | assumption | refine ba_alloc ?_ _ | refine ba_drew ?_ | refine ba_drewN ?_ _ | refine ba_via (by assumption) ?_ | (refine ba_set ?_ ?_ _; rotate_left; (first | omega | (simp; omega) | simp)))))).mono ?_); rintro e w7 ⟨rfl, hbw7⟩; obtain ⟨hcw7, hfw7⟩ := bcell hbw7; have hzw7_0 : w.heap.size < w7.heap.size := lt_via hbw7 (by first | omega | (simp; done) | (simp; omega)); have hyw7_0 : w6.heap.size < w7.heap.size := lt_via hbw7 (by first | omega | (simp; done) | (simp; omega)))
      | (go_at_call 45; (with_reducible refine (HF.out (by first | rfl | trivial) B _ (by first | omega | (simp; omega)) (BarAt.at_ HA.out hB (by repeat (first | exact Below.refl _ _ | assumption | refine ba_alloc ?_ _ | refine ba_drew ?_ | refine ba_drewN ?_ _ | refine ba_via (by assumption) ?_ | (refine ba_set ?_ ?_ _; rotate_left; (first | omega | (simp; omega) | simp)))))).mono ?_); rintro e w7 ⟨rfl, hbw7⟩; obtain ⟨hcw7, hfw7⟩ := bcell hbw7; have hzw7_0 : w.heap.size < w7.heap.size := lt_via hbw7 (by first | omega | (simp; done) | (simp; omega)); have hyw7_0 : w6.heap.size < w7.heap.size := lt_via hbw7 (by first | omega | (simp; done) | (simp; omega))))
    go_ret
    exact ⟨rfl, (by repeat (first | exact Below.refl _ _ | assumption | refine ba_alloc ?_ _ | refine ba_drew ?_ | refine ba_drewN ?_ _ | refine ba_via (by assumption) ?_ | (refine ba_set ?_ ?_ _; rotate_left; (first | omega | (simp; omega) | simp))))⟩)
theorem cuts_walk (b : Bar) (A : Option Addr) (n c : Nat) (w : World) (hA : BarAt w w.heap.size A n b) :
    Calls Try.prog 10 #[barV b A n c] w fun e w' => e = .returned (.bool true) ∧ Below w.heap.size w w' := by
  cases h : S.right b
  · exact cuts_no b A n c _ w (Nat.le_refl _) hA h
  · exact cuts_yes b A n c _ w (Nat.le_refl _) hA h _ _ rfl rfl
end Go.Proofs.Ytpjdepnbeendcaa
