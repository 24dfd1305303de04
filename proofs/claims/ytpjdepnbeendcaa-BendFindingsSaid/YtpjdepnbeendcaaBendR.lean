/- Contracts of the reference for layer 13: Bends, Developed, Cut, Mass. -/
import Derived.Test.YtpjdepnbeendcaaBendC
import Derived.Test.YtpjdepnbeendcaaRLegs
set_option linter.unusedVariables false
set_option linter.unusedSimpArgs false
namespace Go.Proofs.Ytpjdepnbeendcaa
open Go.RowKit
theorem le_via {B : Nat} {w W : World} (hB : B ≤ w.heap.size) (h : Below w.heap.size w W) : B ≤ W.heap.size := Nat.le_trans hB h.size
theorem rbends_yes (b : Bar) (A : Option Addr) (n c : Nat) (B : Nat) (w : World) (hB : B ≤ w.heap.size) (hA : BarAt w B A n b) (h : S.bar b = true) :
    Calls Try.prog 48 #[barV b A n c] w fun e w' => e = .returned (.int .i64 (S.bends b)) ∧ Below w.heap.size w w' := by
  have HA := Lib.hid hA
  have hl := legs_bd b.code (legs_sum h).2
  have H := Lib.hid (show ((S.legsOf b.code).length : Int) - 1 = S.bends b from rfl)
  have hl6 := legs_len b.code
  clear hA
  generalize hL : (S.legsOf b.code).length = L at *
  have HL := Lib.hid hL
  clear hL
  have e1 : IntKind.i64.wrap ((L : Int) - 1) = (L : Int) - 1 := IntWalk.i64_in _ (by omega)
  unfold barV
  go_enter Try.func48, Try.ntmps48
  go_wp2_with (go_at_call 53; (with_reducible refine (rlegs_yes b A n c B _ (le_via hB (by repeat (first | exact Below.refl _ _ | assumption | refine ba_alloc ?_ _ | refine ba_drew ?_ | refine ba_drewN ?_ _ | refine ba_via (by assumption) ?_ | (refine ba_set ?_ ?_ _; rotate_left; (first | omega | (simp; omega) | simp))))) (BarAt.at_ HA.out hB (by repeat (first | exact Below.refl _ _ | assumption | refine ba_alloc ?_ _ | refine ba_drew ?_ | refine ba_drewN ?_ _ | refine ba_via (by assumption) ?_ | (refine ba_set ?_ ?_ _; rotate_left; (first | omega | (simp; omega) | simp))))) h L HL.out).mono ?_); rintro e w1 ⟨Aw1, cw1, rfl, how1, hbw1⟩)
  go_ret
  exact ⟨ret_i H.out, (by repeat (first | exact Below.refl _ _ | assumption | refine ba_alloc ?_ _ | refine ba_drew ?_ | refine ba_drewN ?_ _ | refine ba_via (by assumption) ?_ | (refine ba_set ?_ ?_ _; rotate_left; (first | omega | (simp; omega) | simp))))⟩
set_option maxRecDepth 100000 in
set_option maxHeartbeats 2000000 in
theorem rdevel_yes (b : Bar) (A : Option Addr) (n c : Nat) (B : Nat) (w : World) (hB : B ≤ w.heap.size) (hA : BarAt w B A n b) (h : S.bar b = true) :
    Calls Try.prog 49 #[barV b A n c] w fun e w' => e = .returned (spanV (S.devLo b) (S.devHi b)) ∧ Below w.heap.size w w' := by
  have HA := Lib.hid hA
  have hl := legs_bd b.code (legs_sum h).2
  have HLO := Lib.hid (show 1000 * S.sum (S.legLens b) - S.bends b * S.allowHi b.size = S.devLo b from rfl)
  have HHI := Lib.hid (show 1000 * S.sum (S.legLens b) - S.bends b * S.allowLo b.size = S.devHi b from rfl)
  have hl6 := legs_len b.code
  have hbn : S.bends b = ((S.legsOf b.code).length : Int) - 1 := rfl
  have HN := Lib.hid (fun (B : Nat) (w : World) (hB : B ≤ w.heap.size) (hA : BarAt w B A n b) => rbends_yes b A n c B w hB hA h)
  have HG := Lib.hid (show ∀ k, k < (S.legsOf b.code).length → ∃ n, (i64s (S.legLens b))[k]? = some (.int .i64 n) ∧ (S.legLens b)[k]? = some n ∧ 1 ≤ n ∧ n ≤ 262144 from fun k hk => by obtain ⟨n, a1, a2, a3, a4, _⟩ := lens_get b h hk; exact ⟨n, a1, a2, a3, a4⟩)
  have HP := Lib.hid (lens_pos h)
  have hls : (S.legLens b).length = (S.legsOf b.code).length := by simp [S.legLens]
  have HLS := Lib.hid hls
  have hsm := (dev_bd h).2.2.2
  unfold S.legSum at hsm
  have HAL := Lib.hid (fun w => rallow_yes b.size w (bar_size h))
  have hab := allow_bd (bar_size h)
  generalize S.allowHi b.size = hi at *
  generalize S.allowLo b.size = lo at *
  generalize S.bends b = N at *
  have m1 := mul5_bd (n := N) (by omega) (by omega) (x := hi) (by omega) (by omega)
  have m2 := mul5_bd (n := N) (by omega) (by omega) (x := lo) (by omega) (by omega)
  clear hA hls hbn
  generalize hL : (S.legsOf b.code).length = L at *
  have HL := Lib.hid hL
  clear hL
  have e2 : IntKind.i64.wrap (N * hi) = N * hi := IntWalk.i64_in _ (by omega)
  have e3 : IntKind.i64.wrap (N * lo) = N * lo := IntWalk.i64_in _ (by omega)
  have e4 : IntKind.i64.wrap (1000 * S.sum (S.legLens b) - N * hi) = 1000 * S.sum (S.legLens b) - N * hi := IntWalk.i64_in _ (by omega)
  have e5 : IntKind.i64.wrap (1000 * S.sum (S.legLens b) - N * lo) = 1000 * S.sum (S.legLens b) - N * lo := IntWalk.i64_in _ (by omega)
  clear m1 m2
  unfold barV
  go_enter Try.func49, Try.ntmps49
  go_wp2_with (go_at_call 53; (with_reducible refine (rlegs_yes b A n c B _ (le_via hB (by repeat (first | exact Below.refl _ _ | assumption | refine ba_alloc ?_ _ | refine ba_drew ?_ | refine ba_drewN ?_ _ | refine ba_via (by assumption) ?_ | (refine ba_set ?_ ?_ _; rotate_left; (first | omega | (simp; omega) | simp))))) (BarAt.at_ HA.out hB (by repeat (first | exact Below.refl _ _ | assumption | refine ba_alloc ?_ _ | refine ba_drew ?_ | refine ba_drewN ?_ _ | refine ba_via (by assumption) ?_ | (refine ba_set ?_ ?_ _; rotate_left; (first | omega | (simp; omega) | simp))))) h L HL.out).mono ?_); rintro e w1 ⟨Aw1, cw1, rfl, how1, hbw1⟩; obtain ⟨hcw1, hfw1⟩ := bcell hbw1; have hzw1_0 : w.heap.size < w1.heap.size := lt_via hbw1 (by simp; omega); have hzw1_1 : w.heap.size + 1 < w1.heap.size := lt_via hbw1 (by simp)
               obtain ⟨hs1, _, _⟩ := own_cells how1
               obtain ⟨b1, o1, rfl, hb1, _⟩ := hs1.at_ (by simp; have := HLS.out; omega))
  clear how1
  go_loop [4, 5] (fun s i => ∃ k : Nat, k ≤ L ∧ i = .int .i64 k ∧ s = .int .i64 (1000 * S.sum ((S.legLens b).take k))) (fun _ i => L - (intOf i).toNat)
  case atStart => exact ⟨0, Nat.zero_le _, rfl, rfl⟩
  case round =>
    obtain ⟨k, hk, rfl, rfl⟩ := hrel
    by_cases hlt : k < L
    · obtain ⟨q, g1, g2, g3, g4⟩ := HG.out k (by have := HL.out; omega)
      have hck := hs1.get g1
      have hst := sum_take_snoc g2
      have h6 := sum_take_le HP.out k
      have h7 := sum_nonneg (l := (S.legLens b).take k) (fun x hx => HP.out x (List.mem_of_mem_take hx))
      have HST := Lib.hid hst
      generalize S.sum ((S.legLens b).take k) = sk at *
      have f1 : IntKind.i64.wrap (1000 * q) = 1000 * q := IntWalk.i64_in _ (by omega)
      have f2 : IntKind.i64.wrap (1000 * sk + 1000 * q) = 1000 * sk + 1000 * q := IntWalk.i64_in _ (by omega)
      have hkl : (k : Int) < (L : Int) := by omega
      clear hst g1 g2
      go_wp2
      go_round
      case rel => exact ⟨k + 1, by omega, by go_num, vint (by rw [HST.out]; omega)⟩
      case measure => simp [intOf]; omega
    · have he : k = L := by omega
      subst he
      have ht : (S.legLens b).take k = S.legLens b := List.take_of_length_le (by have := HLS.out; omega)
      rw [ht]
      go_wp2_with (go_at_call 38; (with_reducible refine (HAL.out _).mono ?_); rintro e w2 ⟨rfl, hbw2⟩; obtain ⟨hcw2, hfw2⟩ := bcell hbw2; have hzw2_0 : w.heap.size < w2.heap.size := lt_via hbw2 (by first | omega | (simp; done) | (simp; omega)); have hzw2_1 : w.heap.size + 1 < w2.heap.size := lt_via hbw2 (by first | omega | (simp; done) | (simp; omega)))
      refine wp_region_grow_tail 15 (by kernel_rfl) (by kernel_rfl) ?_
      simp only [List.take_succ_cons, List.take_zero, List.drop_succ_cons, List.drop_zero]
      repeat (go_big_quiet_step ((go_at_call 48; exact grow_of (HN.out B _ (le_via hB (ba_via (grow_below _ _) (by repeat (first | exact Below.refl _ _ | assumption | refine ba_alloc ?_ _ | refine ba_drew ?_ | refine ba_drewN ?_ _ | refine ba_via (by assumption) ?_ | (refine ba_set ?_ ?_ _; rotate_left; (first | omega | (simp; omega) | simp)))))) (BarAt.at_ HA.out hB (ba_via (grow_below _ _) (by repeat (first | exact Below.refl _ _ | assumption | refine ba_alloc ?_ _ | refine ba_drew ?_ | refine ba_drewN ?_ _ | refine ba_via (by assumption) ?_ | (refine ba_set ?_ ?_ _; rotate_left; (first | omega | (simp; omega) | simp))))))))))
      all_goals (refine wpQuiet_nil ?_; intro wg hbwg; obtain ⟨hcwg, hfwg⟩ := bcell hbwg; have hzwg_0 : w.heap.size < wg.heap.size := lt_via hbwg (by first | omega | (simp; done) | (simp; omega)); have hzwg_1 : w.heap.size + 1 < wg.heap.size := lt_via hbwg (by first | omega | (simp; done) | (simp; omega)))
      go_wp2
      exact bodyPost_ret (v := spanV (1000 * S.sum (S.legLens b) - N * hi) (1000 * S.sum (S.legLens b) - N * lo)) (by simp [results, Try.results49, go_sem, *]) rfl ⟨by rw [HLO.out, HHI.out], (by repeat (first | exact Below.refl _ _ | assumption | refine ba_alloc ?_ _ | refine ba_drew ?_ | refine ba_drewN ?_ _ | refine ba_via (by assumption) ?_ | (refine ba_set ?_ ?_ _; rotate_left; (first | omega | (simp; omega) | simp))))⟩
set_option maxRecDepth 100000 in
theorem rcut_yes (b : Bar) (A : Option Addr) (n c : Nat) (B : Nat) (w : World) (hB : B ≤ w.heap.size) (hA : BarAt w B A n b) (h : S.bar b = true) :
    Calls Try.prog 50 #[barV b A n c] w fun e w' => e = .returned (.int .i64 (S.cut b)) ∧ Below w.heap.size w w' := by
  have HA := Lib.hid hA
  have hd := dev_bd h
  have HC := Lib.hid (show S.cut b = max 5 (5 * ((max 0 (S.devHi b) + 4999) / 5000)) from rfl)
  have HD := Lib.hid (fun (B : Nat) (w : World) (hB : B ≤ w.heap.size) (hA : BarAt w B A n b) => rdevel_yes b A n c B w hB hA h)
  clear hA
  generalize S.devHi b = hi at *
  generalize S.devLo b = lo at *
  have hh : hi ≤ 524288000 := by omega
  have hfl : ∀ W, (Instr.field 51 (spanV lo hi) 1).run Try.prog W = .ok (.int .i64 hi) W := fun _ => by kernel_rfl
  clear hd
  by_cases hp : 0 < hi
  · have e0 : IntKind.i64.wrap (hi + 4999) = hi + 4999 := IntWalk.i64_in _ (by omega)
    have e1 : (hi + 4999).tdiv 5000 = (hi + 4999) / 5000 := Int.tdiv_eq_ediv_of_nonneg (by omega)
    have e2 : IntKind.i64.wrap ((hi + 4999) / 5000) = (hi + 4999) / 5000 := IntWalk.i64_in _ (by omega)
    have e3 : IntKind.i64.wrap ((hi + 4999) / 5000 * 5) = (hi + 4999) / 5000 * 5 := IntWalk.i64_in _ (by omega)
    unfold barV
    go_enter Try.func50, Try.ntmps50
    go_wp2_with (go_at_call 49; (with_reducible refine (HD.out B _ (le_via hB (by repeat (first | exact Below.refl _ _ | assumption | refine ba_alloc ?_ _ | refine ba_drew ?_ | refine ba_drewN ?_ _ | refine ba_via (by assumption) ?_ | (refine ba_set ?_ ?_ _; rotate_left; (first | omega | (simp; omega) | simp))))) (BarAt.at_ HA.out hB (by repeat (first | exact Below.refl _ _ | assumption | refine ba_alloc ?_ _ | refine ba_drew ?_ | refine ba_drewN ?_ _ | refine ba_via (by assumption) ?_ | (refine ba_set ?_ ?_ _; rotate_left; (first | omega | (simp; omega) | simp)))))).mono ?_); rintro e w1 ⟨rfl, hbw1⟩; obtain ⟨hcw1, hfw1⟩ := bcell hbw1; have hzw1_0 : w.heap.size < w1.heap.size := lt_via hbw1 (by first | omega | (simp; done) | (simp; omega)))
    all_goals (
      go_ret
      exact ⟨ret_i (by have := HC.out; omega), (by repeat (first | exact Below.refl _ _ | assumption | refine ba_alloc ?_ _ | refine ba_drew ?_ | refine ba_drewN ?_ _ | refine ba_via (by assumption) ?_ | (refine ba_set ?_ ?_ _; rotate_left; (first | omega | (simp; omega) | simp))))⟩)
  · unfold barV
    go_enter Try.func50, Try.ntmps50
    go_wp2_with (go_at_call 49; (with_reducible refine (HD.out B _ (le_via hB (by repeat (first | exact Below.refl _ _ | assumption | refine ba_alloc ?_ _ | refine ba_drew ?_ | refine ba_drewN ?_ _ | refine ba_via (by assumption) ?_ | (refine ba_set ?_ ?_ _; rotate_left; (first | omega | (simp; omega) | simp))))) (BarAt.at_ HA.out hB (by repeat (first | exact Below.refl _ _ | assumption | refine ba_alloc ?_ _ | refine ba_drew ?_ | refine ba_drewN ?_ _ | refine ba_via (by assumption) ?_ | (refine ba_set ?_ ?_ _; rotate_left; (first | omega | (simp; omega) | simp)))))).mono ?_); rintro e w1 ⟨rfl, hbw1⟩; obtain ⟨hcw1, hfw1⟩ := bcell hbw1; have hzw1_0 : w.heap.size < w1.heap.size := lt_via hbw1 (by first | omega | (simp; done) | (simp; omega)))
    all_goals (
      go_ret
      exact ⟨ret_i (by have := HC.out; omega), (by repeat (first | exact Below.refl _ _ | assumption | refine ba_alloc ?_ _ | refine ba_drew ?_ | refine ba_drewN ?_ _ | refine ba_via (by assumption) ?_ | (refine ba_set ?_ ?_ _; rotate_left; (first | omega | (simp; omega) | simp))))⟩)
theorem rmass11_yes (d n : Int) (w : World) (h : S.size d = true) (h0 : 0 ≤ n) (h1 : n ≤ 1048576) :
    Calls Try.prog 74 #[.int .i64 d, .int .i64 n] w fun e w' => e = .returned (.int .i64 (S.massOf d n)) ∧ w = w' := by
  have H := Lib.hid (show (6165 * d * d * n + 500000) / 1000000 = S.massOf d n from rfl)
  have hd := size_bd h
  have b1 : 0 ≤ d * d ∧ d * d ≤ 40 * 40 := ⟨Int.mul_nonneg (by omega) (by omega), Int.mul_le_mul hd.2 hd.2 (by omega) (by omega)⟩
  have b2 : 0 ≤ 6165 * d * d ∧ 6165 * d * d ≤ 6165 * 1600 := by rw [Int.mul_assoc]; omega
  have b3 : 0 ≤ 6165 * d * d * n ∧ 6165 * d * d * n ≤ 6165 * 1600 * 1048576 := ⟨Int.mul_nonneg b2.1 h0, Int.mul_le_mul b2.2 h1 h0 (by omega)⟩
  have e1 : IntKind.i64.wrap (6165 * d) = 6165 * d := IntWalk.i64_in _ (by omega)
  have e2 : IntKind.i64.wrap (6165 * d * d) = 6165 * d * d := IntWalk.i64_in _ (by omega)
  have e3 : IntKind.i64.wrap (6165 * d * d * n) = 6165 * d * d * n := IntWalk.i64_in _ (by omega)
  have e4 : IntKind.i64.wrap (6165 * d * d * n + 500000) = 6165 * d * d * n + 500000 := IntWalk.i64_in _ (by omega)
  have e5 : (6165 * d * d * n + 500000).tdiv 1000000 = (6165 * d * d * n + 500000) / 1000000 := Int.tdiv_eq_ediv_of_nonneg (by omega)
  have e6 : IntKind.i64.wrap ((6165 * d * d * n + 500000) / 1000000) = (6165 * d * d * n + 500000) / 1000000 := IntWalk.i64_in _ (by omega)
  clear b1 b2 b3
  go_enter Try.func74, Try.ntmps74
  go_wp2
  go_ret
  exact ⟨ret_i H.out, rfl⟩
theorem rbmass_yes (b : Bar) (A : Option Addr) (n c : Nat) (B : Nat) (w : World) (hB : B ≤ w.heap.size) (hA : BarAt w B A n b) (h : S.bar b = true) :
    Calls Try.prog 51 #[barV b A n c] w fun e w' => e = .returned (.int .i64 (S.mass b)) ∧ Below w.heap.size w w' := by
  have HA := Lib.hid hA
  have hc := cut_bd h
  have hm := mass_bd (bar_size h) (n := S.cut b) (by omega) (by omega)
  have hk := bar_count h
  have HM := Lib.hid (show b.count * S.massOf b.size (S.cut b) = S.mass b from rfl)
  have HD := Lib.hid (fun (B : Nat) (w : World) (hB : B ≤ w.heap.size) (hA : BarAt w B A n b) => rcut_yes b A n c B w hB hA h)
  have HS := Lib.hid (fun w => rmass11_yes b.size (S.cut b) w (bar_size h) (by omega) (by omega))
  clear hA
  generalize S.cut b = ct at *
  generalize S.massOf b.size ct = ms at *
  have e1 : IntKind.i64.wrap (b.count * ms) = b.count * ms := by
    have a := Int.mul_nonneg (show (0 : Int) ≤ b.count by omega) hm.1
    have b := Int.mul_le_mul hk.2 hm.2 hm.1 (by omega)
    exact IntWalk.i64_in _ (by omega)
  unfold barV
  go_enter Try.func51, Try.ntmps51
  go_wp2
  refine wp_region_grow (by kernel_rfl) (by kernel_rfl) ?_
  repeat (go_big_quiet_step ((first | (go_at_call 50; exact grow_of (HD.out B _ (le_via hB (ba_via (grow_below _ _) (by repeat (first | exact Below.refl _ _ | assumption | refine ba_alloc ?_ _ | refine ba_drew ?_ | refine ba_drewN ?_ _ | refine ba_via (by assumption) ?_ | (refine ba_set ?_ ?_ _; rotate_left; (first | omega | (simp; omega) | simp)))))) (BarAt.at_ HA.out hB (ba_via (grow_below _ _) (by repeat (first | exact Below.refl _ _ | assumption | refine ba_alloc ?_ _ | refine ba_drew ?_ | refine ba_drewN ?_ _ | refine ba_via (by assumption) ?_ | (refine ba_set ?_ ?_ _; rotate_left; (first | omega | (simp; omega) | simp)))))))) | (go_at_call 74; exact grow_of_eq (HS.out _)))))
  all_goals (refine wpQuiet_nil ?_; intro wg hbwg; obtain ⟨hcwg, hfwg⟩ := bcell hbwg; have hzwg_0 : w.heap.size < wg.heap.size := lt_via hbwg (by first | omega | (simp; done) | (simp; omega)))
  go_wp2
  go_ret
  exact ⟨ret_i HM.out, (by repeat (first | exact Below.refl _ _ | assumption | refine ba_alloc ?_ _ | refine ba_drew ?_ | refine ba_drewN ?_ _ | refine ba_via (by assumption) ?_ | (refine ba_set ?_ ?_ _; rotate_left; (first | omega | (simp; omega) | simp))))⟩
end Go.Proofs.Ytpjdepnbeendcaa
