/- Contracts: bend.Bends, Developed, Cut, Mass; steel.Mass. -/
import Derived.Test.YtpjdepnbeendcaaArc
import Derived.Test.YtpjdepnbeendcaaOpenB
set_option linter.unusedVariables false
set_option linter.unusedSimpArgs false
namespace Go.Proofs.Ytpjdepnbeendcaa
open Go.RowKit
theorem smass1_any (d n : Int) (g : Nat) (w : World) (hc : w.cell? ⟨g, 0, none⟩ = some (.int .i64 d)) (hc1 : w.cell? ⟨g + 1, 0, none⟩ = some (.int .i64 n)) (h : S.size d = true) (h0 : 0 ≤ n) (h1 : n ≤ 1048576) :
    Calls Try.prog 73 #[.pointer (some ⟨g, 0, none⟩), .pointer (some ⟨g + 1, 0, none⟩)] w fun e w' => e = .returned (.int .i64 (S.massOf d n)) ∧ Below w.heap.size w w' := by
  have H := Lib.hid (show (6165 * d * d * n + 500000) / 1000000 = S.massOf d n from rfl)
  have hd := size_bd h
  have b1 : 0 ≤ d * d ∧ d * d ≤ 40 * 40 := ⟨Int.mul_nonneg (by omega) (by omega), Int.mul_le_mul hd.2 hd.2 (by omega) (by omega)⟩
  have b2 : 0 ≤ 6165 * d * d ∧ 6165 * d * d ≤ 6165 * 1600 := by rw [Int.mul_assoc]; omega
  have b3 : 0 ≤ 6165 * d * d * n ∧ 6165 * d * d * n ≤ 6165 * 1600 * 1048576 := ⟨Int.mul_nonneg b2.1 h0, Int.mul_le_mul b2.2 h1 h0 (by omega)⟩
  have e1 : IntKind.i64.wrap (6165 * d) = 6165 * d := IntWalk.i64_in _ (by omega)
  have e2 : IntKind.i64.wrap (6165 * d * d) = 6165 * d * d := IntWalk.i64_in _ (by omega)
  have e3 : IntKind.i64.wrap (6165 * d * d * n) = 6165 * d * d * n := IntWalk.i64_in _ (by omega)
  have e4 : IntKind.i64.wrap (6165 * d * d * n + 500000) = 6165 * d * d * n + 500000 := IntWalk.i64_in _ (by omega)
  have e5 : (6165 * d * d * n + 500000).tdiv 1000000 = (6165 * d * d * n + 500000) / 1000000 := Int.tdiv_eq_ediv_of_nonneg (by omega)
  have e6 : IntKind.i64.wrap ((6165 * d * d * n + 500000) / 1000000) = (6165 * d * d * n + 500000) / 1000000 := IntWalk.i64_in _ (by omega)
  clear b1 b2 b3
  go_enter Try.func73, Try.ntmps73
  go_wp2
  go_ret
  exact ⟨ret_i H.out, Below.refl _ _⟩
theorem smass_yes (d n : Int) (w : World) (h : S.size d = true) (h0 : 0 ≤ n) (h1 : n ≤ 1048576) :
    Calls Try.prog 46 #[.int .i64 d, .int .i64 n] w fun e w' => e = .returned (.tuple #[.int .i64 (S.massOf d n), .int .i64 0]) ∧ Below w.heap.size w w' := by
  have hf : ∀ W, Below ((w.alloc (.cells #[.int .i64 d] 3)).alloc (.cells #[.int .i64 n] 3)).heap.size ((w.alloc (.cells #[.int .i64 d] 3)).alloc (.cells #[.int .i64 n] 3)) W → Tells W 73 #[] #[.pointer (some ⟨w.heap.size, 0, none⟩), .pointer (some ⟨w.heap.size + 1, 0, none⟩)] (S.massOf d n) := fun W hB w' hb =>
    smass1_any d n w.heap.size w' (((hB.trans (hb.mono hB.size)).cell (p := ⟨w.heap.size, 0, none⟩) (by simp; omega)).trans (by rw [World.cell?_alloc_lt _ _ _ (by simp)]; simp)) (((hB.trans (hb.mono hB.size)).cell (p := ⟨w.heap.size + 1, 0, none⟩) (by simp)).trans (by simp)) h h0 h1
  have HF := Lib.hid hf
  clear hf
  have g1 : decide (n < 0) = false := by simp; omega
  have g2 : decide (1048576 < n) = false := by simp; omega
  go_enter Try.func46, Try.ntmps46
  go_wp2_with (first
    | (go_at_call 66; (with_reducible refine (ssize_any d _).mono ?_); rintro e w1 ⟨rfl, hbw1⟩; obtain ⟨hcw1, hfw1⟩ := bcell hbw1; have hzw1_0 : w.heap.size < w1.heap.size := lt_via hbw1 (by first | omega | (simp; done) | (simp; omega)); have hzw1_1 : w.heap.size + 1 < w1.heap.size := lt_via hbw1 (by first | omega | (simp; done) | (simp; omega)))
    | (go_at_call 71; (with_reducible refine (sized_yes _ _ _ d (S.massOf d n) _ h Try.call73 (HF.out _ hbw1)).mono ?_); rintro e w2 ⟨rfl, hbw2⟩; obtain ⟨hcw2, hfw2⟩ := bcell hbw2; have hzw2_0 : w.heap.size < w2.heap.size := lt_via hbw2 (by first | omega | (simp; done) | (simp; omega)); have hzw2_1 : w.heap.size + 1 < w2.heap.size := lt_via hbw2 (by first | omega | (simp; done) | (simp; omega))))
  go_ret2
  exact ⟨rfl, (by repeat (first | exact Below.refl _ _ | assumption | refine ba_alloc ?_ _ | refine ba_drew ?_ | refine ba_drewN ?_ _ | refine ba_via (by assumption) ?_ | (refine ba_set ?_ ?_ _; rotate_left; (first | omega | (simp; omega) | simp))))⟩
/-- The bar in its box, from the world at the call's beginning. -/
abbrev boxB (w : World) (b : Bar) (A : Option Addr) (n c : Nat) : World := w.alloc (.cells #[.string b.mark, .int .i64 b.size, .int .i64 b.count, .int .i64 b.code, .slice A n c] 24)
theorem bends_no (b : Bar) (A : Option Addr) (n c : Nat) (B : Nat) (w : World) (hB : B ≤ w.heap.size) (hA : BarAt w B A n b) (h : S.bar b = false) :
    Calls Try.prog 41 #[barV b A n c] w fun e w' => e = .returned (.tuple #[.int .i64 0, .int .i64 1]) ∧ Below w.heap.size w w' := by
  have HA := Lib.hid hA
  clear hA
  unfold barV
  go_enter Try.func41, Try.ntmps41
  go_wp2_with (go_at_call 19; (with_reducible refine (legs_no b A n c B _ (by simp; omega) (BarAt.at_ HA.out hB (by repeat (first | exact Below.refl _ _ | assumption | refine ba_alloc ?_ _ | refine ba_drew ?_ | refine ba_drewN ?_ _ | refine ba_via (by assumption) ?_ | (refine ba_set ?_ ?_ _; rotate_left; (first | omega | (simp; omega) | simp))))) h).mono ?_); rintro e w1 ⟨Aw1, cw1, rfl, how1, hbw1⟩; obtain ⟨hcw1, hfw1⟩ := bcell hbw1; have hzw1_0 : w.heap.size < w1.heap.size := lt_via hbw1 (by first | omega | (simp; done) | (simp; omega)))
  go_ret2
  exact ⟨rfl, (by repeat (first | exact Below.refl _ _ | assumption | refine ba_alloc ?_ _ | refine ba_drew ?_ | refine ba_drewN ?_ _ | refine ba_via (by assumption) ?_ | (refine ba_set ?_ ?_ _; rotate_left; (first | omega | (simp; omega) | simp))))⟩
theorem bends_yes (b : Bar) (A : Option Addr) (n c : Nat) (B : Nat) (w : World) (hB : B ≤ w.heap.size) (hA : BarAt w B A n b) (h : S.bar b = true) :
    Calls Try.prog 41 #[barV b A n c] w fun e w' => e = .returned (.tuple #[.int .i64 (S.bends b), .int .i64 0]) ∧ Below w.heap.size w w' := by
  have HA := Lib.hid hA
  have hl := legs_bd b.code (legs_sum h).2
  have H := Lib.hid (show ((S.legsOf b.code).length : Int) - 1 = S.bends b from rfl)
  have hl6 := legs_len b.code
  clear hA
  generalize hL : (S.legsOf b.code).length = L at *
  have HL := Lib.hid hL
  clear hL
  have e1 : IntKind.i64.wrap ((L : Int) - 1) = (L : Int) - 1 := IntWalk.i64_in _ (by omega)
  unfold barV
  go_enter Try.func41, Try.ntmps41
  go_wp2_with (go_at_call 19; (with_reducible refine (legs_yesL b A n c B _ L HL.out (by simp; omega) (BarAt.at_ HA.out hB (by repeat (first | exact Below.refl _ _ | assumption | refine ba_alloc ?_ _ | refine ba_drew ?_ | refine ba_drewN ?_ _ | refine ba_via (by assumption) ?_ | (refine ba_set ?_ ?_ _; rotate_left; (first | omega | (simp; omega) | simp))))) h).mono ?_); rintro e w1 ⟨Aw1, cw1, rfl, how1, hbw1⟩; obtain ⟨hcw1, hfw1⟩ := bcell hbw1; have hzw1_0 : w.heap.size < w1.heap.size := lt_via hbw1 (by first | omega | (simp; done) | (simp; omega)))
  go_ret2
  exact ⟨ret_2 H.out rfl, (by repeat (first | exact Below.refl _ _ | assumption | refine ba_alloc ?_ _ | refine ba_drew ?_ | refine ba_drewN ?_ _ | refine ba_via (by assumption) ?_ | (refine ba_set ?_ ?_ _; rotate_left; (first | omega | (simp; omega) | simp))))⟩
theorem devel_no (b : Bar) (A : Option Addr) (n c : Nat) (B : Nat) (w : World) (hB : B ≤ w.heap.size) (hA : BarAt w B A n b) (h : S.bar b = false) :
    Calls Try.prog 42 #[barV b A n c] w fun e w' => e = .returned (.tuple #[spanV 0 0, .int .i64 1]) ∧ Below w.heap.size w w' := by
  have HA := Lib.hid hA
  clear hA
  unfold barV
  go_enter Try.func42, Try.ntmps42
  go_wp2_with (go_at_call 19; (with_reducible refine (legs_no b A n c B _ (by simp; omega) (BarAt.at_ HA.out hB (by repeat (first | exact Below.refl _ _ | assumption | refine ba_alloc ?_ _ | refine ba_drew ?_ | refine ba_drewN ?_ _ | refine ba_via (by assumption) ?_ | (refine ba_set ?_ ?_ _; rotate_left; (first | omega | (simp; omega) | simp))))) h).mono ?_); rintro e w1 ⟨Aw1, cw1, rfl, how1, hbw1⟩; obtain ⟨hcw1, hfw1⟩ := bcell hbw1; have hzw1_0 : w.heap.size < w1.heap.size := lt_via hbw1 (by first | omega | (simp; done) | (simp; omega)); have hzw1_1 : w.heap.size + 1 < w1.heap.size := lt_via hbw1 (by first | omega | (simp; done) | (simp; omega)))
  exact bodyPost_ret (v := .tuple #[spanV 0 0, .int .i64 1]) (by simp [results, Try.results42, go_sem, *]) rfl ⟨rfl, (by repeat (first | exact Below.refl _ _ | assumption | refine ba_alloc ?_ _ | refine ba_drew ?_ | refine ba_drewN ?_ _ | refine ba_via (by assumption) ?_ | (refine ba_set ?_ ?_ _; rotate_left; (first | omega | (simp; omega) | simp))))⟩
set_option maxHeartbeats 1000000 in
theorem devel_yes (b : Bar) (A : Option Addr) (n c : Nat) (B : Nat) (w : World) (hB : B ≤ w.heap.size) (hA : BarAt w B A n b) (h : S.bar b = true) :
    Calls Try.prog 42 #[barV b A n c] w fun e w' => e = .returned (.tuple #[spanV (S.devLo b) (S.devHi b), .int .i64 0]) ∧ Below w.heap.size w w' := by
  have HA := Lib.hid hA
  have hl := legs_bd b.code (legs_sum h).2
  have HLO := Lib.hid (show 1000 * S.sum (S.legLens b) - (((S.legsOf b.code).length : Int) - 1) * S.allowHi b.size = S.devLo b from rfl)
  have HHI := Lib.hid (show 1000 * S.sum (S.legLens b) - (((S.legsOf b.code).length : Int) - 1) * S.allowLo b.size = S.devHi b from rfl)
  have hl6 := legs_len b.code
  have HG := Lib.hid (show ∀ k, k < (S.legsOf b.code).length → ∃ n, (i64s (S.legLens b))[k]? = some (.int .i64 n) ∧ (S.legLens b)[k]? = some n ∧ 1 ≤ n ∧ n ≤ 262144 from fun k hk => by obtain ⟨n, a1, a2, a3, a4, _⟩ := lens_get b h hk; exact ⟨n, a1, a2, a3, a4⟩)
  have HP := Lib.hid (lens_pos h)
  have hls : (S.legLens b).length = (S.legsOf b.code).length := by simp [S.legLens]
  have HLS := Lib.hid hls
  have hsm := (dev_bd h).2.2.2
  unfold S.legSum at hsm
  have HAL := Lib.hid (fun w => allow_yes b.size w (bar_size h))
  have hab := allow_bd (bar_size h)
  generalize S.allowHi b.size = hi at *
  generalize S.allowLo b.size = lo at *
  have m1 := mul5_bd hl.1 hl.2 (x := hi) (by omega) (by omega)
  have m2 := mul5_bd hl.1 hl.2 (x := lo) (by omega) (by omega)
  clear hA hls
  generalize hL : (S.legsOf b.code).length = L at *
  have HL := Lib.hid hL
  clear hL
  have e1 : IntKind.i64.wrap ((L : Int) - 1) = (L : Int) - 1 := IntWalk.i64_in _ (by omega)
  have e2 : IntKind.i64.wrap (((L : Int) - 1) * hi) = ((L : Int) - 1) * hi := IntWalk.i64_in _ (by omega)
  have e3 : IntKind.i64.wrap (((L : Int) - 1) * lo) = ((L : Int) - 1) * lo := IntWalk.i64_in _ (by omega)
  have e4 : IntKind.i64.wrap (1000 * S.sum (S.legLens b) - ((L : Int) - 1) * hi) = 1000 * S.sum (S.legLens b) - ((L : Int) - 1) * hi := IntWalk.i64_in _ (by omega)
  have e5 : IntKind.i64.wrap (1000 * S.sum (S.legLens b) - ((L : Int) - 1) * lo) = 1000 * S.sum (S.legLens b) - ((L : Int) - 1) * lo := IntWalk.i64_in _ (by omega)
  clear m1 m2
  unfold barV
  go_enter Try.func42, Try.ntmps42
  go_wp2_with ((go_at_call 19; (with_reducible refine (legs_yesL b A n c B _ L HL.out (by simp; omega) (BarAt.at_ HA.out hB (by repeat (first | exact Below.refl _ _ | assumption | refine ba_alloc ?_ _ | refine ba_drew ?_ | refine ba_drewN ?_ _ | refine ba_via (by assumption) ?_ | (refine ba_set ?_ ?_ _; rotate_left; (first | omega | (simp; omega) | simp))))) h).mono ?_); rintro e w1 ⟨Aw1, cw1, rfl, how1, hbw1⟩; obtain ⟨hcw1, hfw1⟩ := bcell hbw1; have hzw1_0 : w.heap.size < w1.heap.size := lt_via hbw1 (by first | omega | (simp; done) | (simp; omega)); have hzw1_1 : w.heap.size + 1 < w1.heap.size := lt_via hbw1 (by first | omega | (simp; done) | (simp; omega)))
               obtain ⟨hs1, _, _⟩ := own_cells how1
               obtain ⟨b1, o1, rfl, hb1, _⟩ := hs1.at_ (by simp; have := HLS.out; omega))
  clear how1
  go_loop [6, 22] (fun s i => ∃ k : Nat, k ≤ L ∧ i = .int .i64 k ∧ s = .int .i64 (1000 * S.sum ((S.legLens b).take k))) (fun _ i => L - (intOf i).toNat)
  case atStart => exact ⟨0, Nat.zero_le _, rfl, rfl⟩
  case round =>
    obtain ⟨k, hk, rfl, rfl⟩ := hrel
    by_cases hlt : k < L
    · obtain ⟨q, g1, g2, g3, g4⟩ := HG.out k (by have := HL.out; omega)
      have hck := hs1.get g1
      have hst := sum_take_snoc g2
      have h6 := sum_take_le HP.out k
      have h7 := sum_nonneg (l := (S.legLens b).take k) (fun x hx => HP.out x (List.mem_of_mem_take hx))
      have HST := Lib.hid hst
      generalize S.sum ((S.legLens b).take k) = sk at *
      have f1 : IntKind.i64.wrap (1000 * q) = 1000 * q := IntWalk.i64_in _ (by omega)
      have f2 : IntKind.i64.wrap (1000 * sk + 1000 * q) = 1000 * sk + 1000 * q := IntWalk.i64_in _ (by omega)
      have hkl : (k : Int) < (L : Int) := by omega
      clear hst g1 g2
      go_wp2
      go_round
      case rel => exact ⟨k + 1, by omega, by go_num, vint (by rw [HST.out]; omega)⟩
      case measure => simp [intOf]; omega
    · have he : k = L := by omega
      subst he
      have ht : (S.legLens b).take k = S.legLens b := List.take_of_length_le (by have := HLS.out; omega)
      rw [ht]
      go_wp2_with (go_at_call 35; (with_reducible refine (HAL.out _).mono ?_); rintro e w2 ⟨rfl, hbw2⟩; obtain ⟨hcw2, hfw2⟩ := bcell hbw2; have hzw2_0 : w.heap.size < w2.heap.size := lt_via hbw2 (by first | omega | (simp; done) | (simp; omega)); have hzw2_1 : w.heap.size + 1 < w2.heap.size := lt_via hbw2 (by first | omega | (simp; done) | (simp; omega)))
      exact bodyPost_ret (v := .tuple #[spanV (1000 * S.sum (S.legLens b) - ((k : Int) - 1) * hi) (1000 * S.sum (S.legLens b) - ((k : Int) - 1) * lo), .int .i64 0]) (by simp [results, Try.results42, go_sem, *]) rfl ⟨by rw [HLO.out, HHI.out], (by repeat (first | exact Below.refl _ _ | assumption | refine ba_alloc ?_ _ | refine ba_drew ?_ | refine ba_drewN ?_ _ | refine ba_via (by assumption) ?_ | (refine ba_set ?_ ?_ _; rotate_left; (first | omega | (simp; omega) | simp))))⟩
end Go.Proofs.Ytpjdepnbeendcaa
