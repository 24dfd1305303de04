/- The walk through the law LapLengths. -/
import Derived.Test.YtplaghmehbkcnaaAwake
import Derived.Test.YtplaghmehbkcnaaSpecOrd
set_option linter.unusedVariables false
set_option linter.unusedSimpArgs false
namespace Go.Proofs.Ytplaghmehbkcnaa
open Go.RowKit
theorem issize_any (d : Int) (w : World) : Calls Try.prog 14 #[.int .i64 d] w fun e w' => e = .returned (.bool (S.size d)) ∧ Below w.heap.size w w' := by
  have HS := Lib.hid (fun w => rsize_any d w)
  generalize S.size d = t at *
  go_enter Try.func14, Try.ntmps14
  go_wp2_with (go_at_call 36; refine (HS.out _).mono ?_; rintro e w1 ⟨rfl, hbw1⟩)
  go_ret
  exact ⟨rfl, (by repeat (first | exact Below.refl _ _ | assumption | refine ba_alloc ?_ _ | refine ba_drew ?_ | refine ba_drewN ?_ _ | refine ba_via (by assumption) ?_ | (refine ba_set ?_ ?_ _; rotate_left; (first | omega | (simp; omega) | simp))))⟩
theorem lLength_eq {r : Rule} {d : Int} {p : Bool} (h : S.sized r d = 0) : lLength r d p = S.up (S.length r d p false) r.lnum r.lden := by simp [lLength, h]
theorem rule_more {r : Rule} {k : Int} (h : S.rule r = true) (hk : r.lnum ≤ k) (hk2 : k ≤ 1000) : S.rule { r with lnum := k } = true := by
  simp only [S.rule, S.num, Bool.and_eq_true, decide_eq_true_eq] at h ⊢
  omega
theorem up_more {n p p' q : Int} (hn : 0 ≤ n) (hp : p ≤ p') (hq : 1 ≤ q) : S.up n p q ≤ S.up n p' q := by
  unfold S.up
  have := Int.mul_le_mul_of_nonneg_left hp hn
  exact Int.ediv_le_ediv (by omega) (by omega)
theorem up_low {n p q : Int} (hq : 1 ≤ q) : (S.up n p q - 1) * q < n * p := by
  unfold S.up
  have h2 : (n * p + q - 1) / q * q ≤ n * p + q - 1 := Int.ediv_mul_le _ (by omega)
  rw [Int.sub_mul]
  omega
set_option maxRecDepth 8000 in
set_option maxHeartbeats 4000000 in
theorem lengthsL_walk (r : Rule) (d more : Int) (poor : Bool) (by_ : Int) (w : World) (hb0 : 0 ≤ by_) (hb1 : by_ ≤ 65535) :
    Calls Try.prog 4 #[ruleV r, .int .i64 d, .int .i64 more, .bool poor, .int .u16 by_] w fun e w' => e = .returned (.bool true) ∧ Below w.heap.size w w' := by
  have HA := Lib.hid (fun w => awake_any w)
  have HV := Lib.hid (fun w => rvalid_any r w)
  have HD := Lib.hid (fun w => issize_any d w)
  have HMo := Lib.hid (fun w => issize_any more w)
  by_cases hok : S.rule r = true ∧ S.size d = true ∧ S.size more = true
  rotate_left
  · unfold ruleV
    unfold ruleV at HV
    generalize S.rule r = t1 at *
    generalize S.size d = t2 at *
    generalize S.size more = t3 at *
    have hcs : t1 = false ∨ (t1 = true ∧ t2 = false) ∨ (t1 = true ∧ t2 = true ∧ t3 = false) := by
      cases t1 <;> cases t2 <;> cases t3 <;> simp_all
    clear hok
    rcases hcs with rfl | ⟨rfl, rfl⟩ | ⟨rfl, rfl, rfl⟩
    all_goals (
      go_enter Try.func4, Try.ntmps4
      go_wp2_with (first
        | (go_at_call 7; (with_reducible refine (HA.out _).mono ?_); rintro e w1 ⟨rfl, hbw1⟩; obtain ⟨hcw1, hfw1⟩ := bcell hbw1; have hzw1_0 : w.heap.size < w1.heap.size := lt_via hbw1 (by first | omega | (simp; done) | (simp; omega)))
        | (go_at_call 13; (with_reducible refine (HV.out _).mono ?_); rintro e w2 ⟨rfl, hbw2⟩; obtain ⟨hcw2, hfw2⟩ := bcell hbw2; have hzw2_0 : w.heap.size < w2.heap.size := lt_via hbw2 (by first | omega | (simp; done) | (simp; omega)))
        | (go_at_call 14; (with_reducible refine (HD.out _).mono ?_); rintro e w3 ⟨rfl, hbw3⟩; obtain ⟨hcw3, hfw3⟩ := bcell hbw3; have hzw3_0 : w.heap.size < w3.heap.size := lt_via hbw3 (by first | omega | (simp; done) | (simp; omega)))
        | (go_at_call 14; (with_reducible refine (HMo.out _).mono ?_); rintro e w4 ⟨rfl, hbw4⟩; obtain ⟨hcw4, hfw4⟩ := bcell hbw4; have hzw4_0 : w.heap.size < w4.heap.size := lt_via hbw4 (by first | omega | (simp; done) | (simp; omega))))
      go_ret
      exact ⟨rfl, (by repeat (first | exact Below.refl _ _ | assumption | refine ba_alloc ?_ _ | refine ba_drew ?_ | refine ba_drewN ?_ _ | refine ba_via (by assumption) ?_ | (refine ba_set ?_ ?_ _; rotate_left; (first | omega | (simp; omega) | simp))))⟩)
  obtain ⟨h1, h2, h3⟩ := hok
  rw [h1] at HV
  rw [h2] at HD
  rw [h3] at HMo
  have hR := rule_ok h1
  have hz : S.sized r d = 0 := sized_yes h1 h2
  have hzm : S.sized r more = 0 := sized_yes h1 h3
  have hd := size_bd h2
  have hmo := size_bd h3
  have hl := hR.lnum
  have hl2 := hR.lden
  have hll := hR.lap
  have hlk : r.lnum ≤ (if r.lnum + by_ < 1000 then r.lnum + by_ else 1000) ∧ (if r.lnum + by_ < 1000 then r.lnum + by_ else 1000) ≤ 1000 := by split <;> omega
  have h1' := rule_more h1 hlk.1 hlk.2
  have hzs : S.sized { r with lnum := (if r.lnum + by_ < 1000 then r.lnum + by_ else 1000) } d = 0 := sized_yes h1' h2
  have HL1 := Lib.hid (fun w => lLength_any r d poor w)
  have HLm := Lib.hid (fun w => lLength_any r more poor w)
  have HLp := Lib.hid (fun w => lLength_any r d true w)
  have HLa := Lib.hid (fun w => Length_any r d poor false w)
  have HLs := Lib.hid (fun w => lLength_any { r with lnum := (if r.lnum + by_ < 1000 then r.lnum + by_ else 1000) } d poor w)
  rw [lLength_eq hz, hz] at HL1 HLp
  rw [lLength_eq hzm, hzm] at HLm
  rw [lLength_eq hzs, hzs] at HLs
  rw [show aLength r d poor false = S.length r d poor false by simp [aLength, hz], hz] at HLa
  have hba := length_bd hR (show 0 ≤ d by omega) (show d ≤ 40 by omega) poor false
  have hbm := length_bd hR (show 0 ≤ more by omega) (show more ≤ 40 by omega) poor false
  have f1 : ¬ S.up (S.length r d poor false) r.lnum r.lden < S.length r d poor false := by have := up_ge hba.1 hll hl2.1; omega
  have f2 : d ≤ more → ¬ S.up (S.length r more poor false) r.lnum r.lden < S.up (S.length r d poor false) r.lnum r.lden := fun h => by
    have := up_mono (length_wider (p := poor) (b := false) hR h) (show 0 ≤ r.lnum by omega) hl2.1
    omega
  have f3 : more ≤ d → ¬ S.up (S.length r d poor false) r.lnum r.lden < S.up (S.length r more poor false) r.lnum r.lden := fun h => by
    have := up_mono (length_wider (p := poor) (b := false) hR h) (show 0 ≤ r.lnum by omega) hl2.1
    omega
  have f4 : ¬ S.up (S.length r d true false) r.lnum r.lden < S.up (S.length r d poor false) r.lnum r.lden := by
    have := up_mono (length_poor (d := d) (p := poor) (b := false) hR) (show 0 ≤ r.lnum by omega) hl2.1
    omega
  have f5 := up_low (n := S.length r d poor false) (p := r.lnum) hl2.1
  have f6 := up_mul (n := S.length r d poor false) (p := r.lnum) hl2.1
  have f7 : S.up (S.length r d poor false) r.lnum r.lden ≤ S.up (S.length { r with lnum := (if r.lnum + by_ < 1000 then r.lnum + by_ else 1000) } d poor false) (if r.lnum + by_ < 1000 then r.lnum + by_ else 1000) r.lden := up_more hba.1 hlk.1 hl2.1
  have hbn := up_bd hba.1 hba.2 hl.1 hl.2 hl2.1
  have hmb := mul_bd hbn.1 hbn.2 (show 0 ≤ r.lden by omega) hl2.2
  have hma := mul_bd hba.1 hba.2 (show 0 ≤ r.lnum by omega) hl.2
  unfold ruleV at HV HL1 HLm HLp HLa HLs
  unfold ruleV
  simp only [] at HLs
  generalize S.up (S.length { r with lnum := (if r.lnum + by_ < 1000 then r.lnum + by_ else 1000) } d poor false) (if r.lnum + by_ < 1000 then r.lnum + by_ else 1000) r.lden = q at *
  generalize S.up (S.length r more poor false) r.lnum r.lden = m at *
  generalize S.up (S.length r d true false) r.lnum r.lden = p at *
  generalize S.up (S.length r d poor false) r.lnum r.lden = n at *
  generalize S.length r d poor false = a at *
  obtain ⟨y1, hy1⟩ : ∃ y, y = (n - 1) * r.lden := ⟨_, rfl⟩
  obtain ⟨y2, hy2⟩ : ∃ y, y = a * r.lnum := ⟨_, rfl⟩
  obtain ⟨y3, hy3⟩ : ∃ y, y = n * r.lden := ⟨_, rfl⟩
  have e0 : IntKind.i64.wrap (n - 1) = n - 1 := IntWalk.i64_in _ (by omega)
  have e1 : IntKind.i64.wrap ((n - 1) * r.lden) = y1 := by rw [hy1, Int.sub_mul]; exact IntWalk.i64_in _ (by omega)
  have e2 : IntKind.i64.wrap (a * r.lnum) = y2 := by rw [hy2]; exact IntWalk.i64_in _ (by omega)
  have e3 : IntKind.i64.wrap (n * r.lden) = y3 := by rw [hy3]; exact IntWalk.i64_in _ (by omega)
  have e4 : IntKind.i64.wrap (r.lnum + by_) = r.lnum + by_ := IntWalk.i64_in _ (by omega)
  have e5 : IntKind.i64.wrap by_ = by_ := IntWalk.i64_in _ (by omega)
  have g1 : ¬ (y2 ≤ y1) := by rw [hy1, hy2]; omega
  have g2 : ¬ (y3 < y2) := by rw [hy2, hy3]; omega
  generalize hLL : (if r.lnum + by_ < 1000 then r.lnum + by_ else 1000) = LL at *
  have hcs : (more < d ∧ ¬ d ≤ more ∧ ¬ n < m) ∨ (d < more ∧ ¬ more ≤ d ∧ ¬ m < n) ∨ (d ≤ more ∧ more ≤ d ∧ ¬ m < n ∧ ¬ n < m) := by
    rcases Int.lt_trichotomy more d with h | h | h
    · exact .inl ⟨h, by omega, f3 (by omega)⟩
    · exact .inr (.inr ⟨by omega, by omega, f2 (by omega), f3 (by omega)⟩)
    · exact .inr (.inl ⟨h, by omega, f2 (by omega)⟩)
  clear hy1 hy2 hy3 f2 f3 f5 f6 hbn hmb hma hba hbm h1 h2 h3 h1' hR hz hzm hzs hd hmo hlk
  rcases hcs with ⟨c1, c2, c3⟩ | ⟨c1, c2, c3⟩ | ⟨c1, c2, c3, c4⟩
  all_goals (
    go_enter Try.func4, Try.ntmps4
    go_wp2_with (first
      | (go_at_call 7; (with_reducible refine (HA.out _).mono ?_); rintro e w1 ⟨rfl, hbw1⟩; obtain ⟨hcw1, hfw1⟩ := bcell hbw1; have hzw1_0 : w.heap.size < w1.heap.size := lt_via hbw1 (by first | omega | (simp; done) | (simp; omega)))
      | (go_at_call 13; (with_reducible refine (HV.out _).mono ?_); rintro e w2 ⟨rfl, hbw2⟩; obtain ⟨hcw2, hfw2⟩ := bcell hbw2; have hzw2_0 : w.heap.size < w2.heap.size := lt_via hbw2 (by first | omega | (simp; done) | (simp; omega)))
      | (go_at_call 14; (with_reducible refine (HD.out _).mono ?_); rintro e w3 ⟨rfl, hbw3⟩; obtain ⟨hcw3, hfw3⟩ := bcell hbw3; have hzw3_0 : w.heap.size < w3.heap.size := lt_via hbw3 (by first | omega | (simp; done) | (simp; omega)))
      | (go_at_call 14; (with_reducible refine (HMo.out _).mono ?_); rintro e w4 ⟨rfl, hbw4⟩; obtain ⟨hcw4, hfw4⟩ := bcell hbw4; have hzw4_0 : w.heap.size < w4.heap.size := lt_via hbw4 (by first | omega | (simp; done) | (simp; omega)))
      | (go_at_call 15; (with_reducible refine (HL1.out _).mono ?_); rintro e w5 ⟨rfl, hbw5⟩; obtain ⟨hcw5, hfw5⟩ := bcell hbw5; have hzw5_0 : w.heap.size < w5.heap.size := lt_via hbw5 (by first | omega | (simp; done) | (simp; omega)))
      | (go_at_call 16; (with_reducible refine (HLa.out _).mono ?_); rintro e w6 ⟨rfl, hbw6⟩; obtain ⟨hcw6, hfw6⟩ := bcell hbw6; have hzw6_0 : w.heap.size < w6.heap.size := lt_via hbw6 (by first | omega | (simp; done) | (simp; omega)))
      | (go_at_call 15; (with_reducible refine (HLm.out _).mono ?_); rintro e w7 ⟨rfl, hbw7⟩; obtain ⟨hcw7, hfw7⟩ := bcell hbw7; have hzw7_0 : w.heap.size < w7.heap.size := lt_via hbw7 (by first | omega | (simp; done) | (simp; omega)))
      | (go_at_call 15; (with_reducible refine (HLp.out _).mono ?_); rintro e w8 ⟨rfl, hbw8⟩; obtain ⟨hcw8, hfw8⟩ := bcell hbw8; have hzw8_0 : w.heap.size < w8.heap.size := lt_via hbw8 (by first | omega | (simp; done) | (simp; omega)))
      | (go_at_call 15; (with_reducible refine (HLs.out _).mono ?_); rintro e w9 ⟨rfl, hbw9⟩; obtain ⟨hcw9, hfw9⟩ := bcell hbw9; have hzw9_0 : w.heap.size < w9.heap.size := lt_via hbw9 (by first | omega | (simp; done) | (simp; omega))))
    go_ret
    exact ⟨ret_b (by first | exact decide_eq_true f7 | (simp; done) | (simp; omega)), (by repeat (first | exact Below.refl _ _ | assumption | refine ba_alloc ?_ _ | refine ba_drew ?_ | refine ba_drewN ?_ _ | refine ba_via (by assumption) ?_ | (refine ba_set ?_ ?_ _; rotate_left; (first | omega | (simp; omega) | simp))))⟩)
end Go.Proofs.Ytplaghmehbkcnaa
