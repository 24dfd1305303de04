/- Contracts: the example of the chapter on shapes; Short; along. -/
import Derived.Test.YtpjdepnbeendcaaEqual
set_option linter.unusedVariables false
set_option linter.unusedSimpArgs false
namespace Go.Proofs.Ytpjdepnbeendcaa
open Go.RowKit
abbrev exBar : Bar := ⟨⟨#[97]⟩, 12, 1, 21, [200, 500, 300]⟩
theorem exBar_ok : S.bar exBar = true := by decide
theorem exBar_legs : S.legLens exBar = [200, 500, 300] := by decide
theorem exBar_path : (S.path exBar).flatMap ptC = [⟨0, 0, 0⟩, ⟨0, -200, 0⟩, ⟨500, -200, 0⟩, ⟨500, 100, 0⟩].flatMap ptC := by rfl
def S.short (b : Bar) : Bool := decide (b.dims.length ≤ 8) && decide (b.mark.size ≤ 60)
theorem short_any (b : Bar) (A : Option Addr) (n c : Nat) (w : World) (hn : b.dims.length = n) (hm : n ≤ 9223372036854775807) (hk : b.mark.size ≤ 9223372036854775807) :
    Calls Try.prog 18 #[barV b A n c] w fun e w' => e = .returned (.bool (S.short b)) ∧ Below w.heap.size w w' := by
  have H := Lib.hid (show S.short b = (decide (n ≤ 8) && decide (b.mark.size ≤ 60)) by simp [S.short, hn])
  clear hn
  unfold barV
  go_enter Try.func18, Try.ntmps18
  go_wp2
  all_goals (go_ret; exact ⟨ret_b (by rw [H.out, Bool.eq_iff_iff]; simp; omega), (by repeat (first | exact Below.refl _ _ | assumption | refine ba_alloc ?_ _ | refine ba_drew ?_ | refine ba_drewN ?_ _ | refine ba_via (by assumption) ?_ | (refine ba_set ?_ ?_ _; rotate_left; (first | omega | (simp; omega) | simp))))⟩)
theorem along_x (a b c d e f n : Int) (w : World) (ha : -8388608 ≤ a ∧ a ≤ 8388608) (hb : -8388608 ≤ b ∧ b ≤ 8388608) (hc : -8388608 ≤ c ∧ c ≤ 8388608) (hd : d - a = n ∨ d - a = -n) (he : e = b) (hf : f = c) (h1 : 1 ≤ n) (h2 : n ≤ 8388608) :
    Calls Try.prog 22 #[.agg #[.int .i64 a, .int .i64 b, .int .i64 c], .agg #[.int .i64 d, .int .i64 e, .int .i64 f]] w fun e w' => e = .returned (.tuple #[.int .i64 1, .int .i64 n]) ∧ Below w.heap.size w w' := by
  subst he hf
  have z1 : ((d - a) == 0) = false := by simp; omega
  have b1 : -16777216 ≤ d - a ∧ d - a ≤ 16777216 := by omega
  have HD := Lib.hid hd
  clear hd
  have i0 : ∀ W, (Instr.index 69 (.agg #[.int .i64 (d - a), .int .i64 0, .int .i64 0]) (.int .i64 0)).run Try.prog W = .ok (.int .i64 (d - a)) W := fun _ => by kernel_rfl
  have i1 : ∀ W, (Instr.index 69 (.agg #[.int .i64 (d - a), .int .i64 0, .int .i64 0]) (.int .i64 1)).run Try.prog W = .ok (.int .i64 (0)) W := fun _ => by kernel_rfl
  have i2 : ∀ W, (Instr.index 69 (.agg #[.int .i64 (d - a), .int .i64 0, .int .i64 0]) (.int .i64 2)).run Try.prog W = .ok (.int .i64 (0)) W := fun _ => by kernel_rfl
  go_enter Try.func22, Try.ntmps22
  go_wp2
  go_rounds 4
  all_goals (go_ret2; exact ⟨ret_2 rfl (by have := HD.out; omega), (by repeat (first | exact Below.refl _ _ | assumption | refine ba_alloc ?_ _ | refine ba_drew ?_ | refine ba_drewN ?_ _ | refine ba_via (by assumption) ?_ | (refine ba_set ?_ ?_ _; rotate_left; (first | omega | (simp; omega) | simp))))⟩)
theorem along_y (a b c d e f n : Int) (w : World) (ha : -8388608 ≤ a ∧ a ≤ 8388608) (hb : -8388608 ≤ b ∧ b ≤ 8388608) (hc : -8388608 ≤ c ∧ c ≤ 8388608) (hd : e - b = n ∨ e - b = -n) (he : d = a) (hf : f = c) (h1 : 1 ≤ n) (h2 : n ≤ 8388608) :
    Calls Try.prog 22 #[.agg #[.int .i64 a, .int .i64 b, .int .i64 c], .agg #[.int .i64 d, .int .i64 e, .int .i64 f]] w fun e w' => e = .returned (.tuple #[.int .i64 2, .int .i64 n]) ∧ Below w.heap.size w w' := by
  subst he hf
  have z1 : ((e - b) == 0) = false := by simp; omega
  have b1 : -16777216 ≤ e - b ∧ e - b ≤ 16777216 := by omega
  have HD := Lib.hid hd
  clear hd
  have i0 : ∀ W, (Instr.index 69 (.agg #[.int .i64 0, .int .i64 (e - b), .int .i64 0]) (.int .i64 0)).run Try.prog W = .ok (.int .i64 (0)) W := fun _ => by kernel_rfl
  have i1 : ∀ W, (Instr.index 69 (.agg #[.int .i64 0, .int .i64 (e - b), .int .i64 0]) (.int .i64 1)).run Try.prog W = .ok (.int .i64 (e - b)) W := fun _ => by kernel_rfl
  have i2 : ∀ W, (Instr.index 69 (.agg #[.int .i64 0, .int .i64 (e - b), .int .i64 0]) (.int .i64 2)).run Try.prog W = .ok (.int .i64 (0)) W := fun _ => by kernel_rfl
  go_enter Try.func22, Try.ntmps22
  go_wp2
  go_rounds 4
  all_goals (go_ret2; exact ⟨ret_2 rfl (by have := HD.out; omega), (by repeat (first | exact Below.refl _ _ | assumption | refine ba_alloc ?_ _ | refine ba_drew ?_ | refine ba_drewN ?_ _ | refine ba_via (by assumption) ?_ | (refine ba_set ?_ ?_ _; rotate_left; (first | omega | (simp; omega) | simp))))⟩)
theorem along_z (a b c d e f n : Int) (w : World) (ha : -8388608 ≤ a ∧ a ≤ 8388608) (hb : -8388608 ≤ b ∧ b ≤ 8388608) (hc : -8388608 ≤ c ∧ c ≤ 8388608) (hd : f - c = n ∨ f - c = -n) (he : d = a) (hf : e = b) (h1 : 1 ≤ n) (h2 : n ≤ 8388608) :
    Calls Try.prog 22 #[.agg #[.int .i64 a, .int .i64 b, .int .i64 c], .agg #[.int .i64 d, .int .i64 e, .int .i64 f]] w fun e w' => e = .returned (.tuple #[.int .i64 3, .int .i64 n]) ∧ Below w.heap.size w w' := by
  subst he hf
  have z1 : ((f - c) == 0) = false := by simp; omega
  have b1 : -16777216 ≤ f - c ∧ f - c ≤ 16777216 := by omega
  have HD := Lib.hid hd
  clear hd
  have i0 : ∀ W, (Instr.index 69 (.agg #[.int .i64 0, .int .i64 0, .int .i64 (f - c)]) (.int .i64 0)).run Try.prog W = .ok (.int .i64 (0)) W := fun _ => by kernel_rfl
  have i1 : ∀ W, (Instr.index 69 (.agg #[.int .i64 0, .int .i64 0, .int .i64 (f - c)]) (.int .i64 1)).run Try.prog W = .ok (.int .i64 (0)) W := fun _ => by kernel_rfl
  have i2 : ∀ W, (Instr.index 69 (.agg #[.int .i64 0, .int .i64 0, .int .i64 (f - c)]) (.int .i64 2)).run Try.prog W = .ok (.int .i64 (f - c)) W := fun _ => by kernel_rfl
  go_enter Try.func22, Try.ntmps22
  go_wp2
  go_rounds 4
  all_goals (go_ret2; exact ⟨ret_2 rfl (by have := HD.out; omega), (by repeat (first | exact Below.refl _ _ | assumption | refine ba_alloc ?_ _ | refine ba_drew ?_ | refine ba_drewN ?_ _ | refine ba_via (by assumption) ?_ | (refine ba_set ?_ ?_ _; rotate_left; (first | omega | (simp; omega) | simp))))⟩)
theorem legs_ex (A : Option Addr) (B : Nat) (w : World) (hB : B ≤ w.heap.size) (hA : BarAt w B A 3 exBar) :
    Calls Try.prog 19 #[barV exBar A 3 3] w (GivesRow 3 1 3 (i64s [200, 500, 300]) 0 w) := legs_yes exBar A 3 3 B w hB hA exBar_ok
theorem path_ex (A : Option Addr) (B : Nat) (w : World) (hB : B ≤ w.heap.size) (hA : BarAt w B A 3 exBar) :
    Calls Try.prog 20 #[barV exBar A 3 3] w (GivesRow 34 3 4 ((S.path exBar).flatMap ptC) 0 w) := path_yes exBar A 3 3 B w hB hA exBar_ok
def exPath : List Pt := [⟨0, 0, 0⟩, ⟨0, -200, 0⟩, ⟨500, -200, 0⟩, ⟨500, 100, 0⟩]
theorem exPath_eq : S.eqp (S.path exBar) exPath = true := by decide
set_option maxHeartbeats 2000000 in
theorem awake12_any (w : World) : Calls Try.prog 17 #[] w fun e w' => e = .returned (.bool true) ∧ Below w.heap.size w w' := by
  have hat : BarAt ((w.alloc (.cells #[.int .i64 200, .int .i64 500, .int .i64 300] 3)).alloc (.cells #[.string ⟨#[97]⟩, .int .i64 12, .int .i64 1, .int .i64 21, .slice (some ⟨w.heap.size, 0, none⟩) 3 3] 24)) (w.heap.size + 1) (some ⟨w.heap.size, 0, none⟩) 3 exBar :=
    ⟨rfl, by omega, by decide, (Cells.new w #[.int .i64 200, .int .i64 500, .int .i64 300] _ (0, 0)).alloc (by simp) _⟩
  have HAT := Lib.hid hat
  clear hat
  go_enter Try.func17, Try.ntmps17
  go_wp2_with (go_at_call 19; (with_reducible refine (legs_ex _ (w.heap.size + 1) _ (by simp) HAT.out).mono ?_); rintro e w1 ⟨Aw1, cw1, rfl, how1, hbw1⟩; obtain ⟨hcw1, hfw1⟩ := bcell hbw1; have hzw1_0 : w.heap.size < w1.heap.size := lt_via hbw1 (by first | omega | (simp; done) | (simp; omega)); have hzw1_1 : w.heap.size + 1 < w1.heap.size := lt_via hbw1 (by first | omega | (simp; done) | (simp; omega)))
  have HAT1 := Lib.hid (HAT.out.below (hbw1.mono (by simp)))
  go_wp2_with (go_at_call 20; (with_reducible refine (path_ex _ (w.heap.size + 1) _ (by omega) HAT1.out).mono ?_); rintro e w2 ⟨Aw2, cw2, rfl, how2, hbw2⟩; obtain ⟨hcw2, hfw2⟩ := bcell hbw2; have hzw2_0 : w.heap.size < w2.heap.size := lt_via hbw2 (by first | omega | (simp; done) | (simp; omega)); have hzw2_1 : w.heap.size + 1 < w2.heap.size := lt_via hbw2 (by first | omega | (simp; done) | (simp; omega)))
  obtain ⟨hs1, _, _⟩ := own_cells how1
  obtain ⟨hs2, _, _⟩ := own_cells how2
  have hs1' := (hs1.below hbw2).alloc hbw2.size (.cells #[.int .i64 200, .int .i64 500, .int .i64 300] 3)
  have hz1 := hbw2.size
  have hn1 : Cells (w2.alloc (.cells #[.int .i64 200, .int .i64 500, .int .i64 300] 3)) (w2.heap.size + 1) (some ⟨w2.heap.size, 0, none⟩) (i64s [200, 500, 300]) := Cells.new w2 _ _ (0, 0)
  have HE1 := Lib.hid (equal_any Aw1 (some ⟨w2.heap.size, 0, none⟩) 3 3 cw1 3 [200, 500, 300] [200, 500, 300] (w2.heap.size + 1) _ (by simp) rfl rfl (by omega) (by omega) (hs1'.mono (by omega)) hn1)
  have hq : S.eqi [200, 500, 300] [200, 500, 300] = true := by decide
  go_wp2_with ((go_at_call 24; (with_reducible refine (HE1.out).mono ?_); rintro e w3 ⟨rfl, hbw3⟩))
  have hs2' := ((hs2.alloc (by omega) (.cells #[.int .i64 200, .int .i64 500, .int .i64 300] 3)).below (hbw3.mono (by simp)))
  have hz3 := hbw3.size
  have hz2 : w2.heap.size + 1 ≤ w3.heap.size := by simpa using hz3
  have hs2'' := (hs2'.alloc (by omega) (.cells #[.int .i64 0, .int .i64 0, .int .i64 0, .int .i64 0, .int .i64 (-200), .int .i64 0, .int .i64 500, .int .i64 (-200), .int .i64 0, .int .i64 500, .int .i64 100, .int .i64 0] 34)).mono (show w2.heap.size ≤ w3.heap.size + 1 by omega)
  have hn2 : Cells (w3.alloc (.cells #[.int .i64 0, .int .i64 0, .int .i64 0, .int .i64 0, .int .i64 (-200), .int .i64 0, .int .i64 500, .int .i64 (-200), .int .i64 0, .int .i64 500, .int .i64 100, .int .i64 0] 34)) (w3.heap.size + 1) (some ⟨w3.heap.size, 0, none⟩) (exPath.flatMap ptC) := Cells.new w3 _ _ (0, 0)
  have HE2 := Lib.hid (equalp_any Aw2 (some ⟨w3.heap.size, 0, none⟩) 4 4 cw2 4 (S.path exBar) exPath (w3.heap.size + 1) _ (by simp) rfl rfl (by omega) (by omega) hs2'' hn2)
  have hq2 := exPath_eq
  go_wp2_with ((go_at_call 31; (with_reducible refine (HE2.out).mono ?_); rintro e w4 ⟨rfl, hbw4⟩))
  go_ret
  exact ⟨rfl, (by repeat (first | exact Below.refl _ _ | assumption | refine ba_alloc ?_ _ | refine ba_drew ?_ | refine ba_drewN ?_ _ | refine ba_via (by assumption) ?_ | (refine ba_set ?_ ?_ _; rotate_left; (first | omega | (simp; omega) | simp))))⟩
end Go.Proofs.Ytpjdepnbeendcaa
