/- Contracts: box.coords, ends, Valid, all; slices.IndexFunc and ContainsFunc over boxes. -/
import Derived.Test.YtnjflafaflalfaaRows
import Derived.Test.YtnjflafaflalfaaRM
import Derived.Test.YtnjflafaflalfaaRJ
import Derived.Test.YtnjflafaflalfaaRP
import Derived.Test.YtnjflafaflalfaaRE
set_option linter.unusedVariables false
set_option linter.unusedSimpArgs false
namespace Go.Proofs.Ytnjflafaflalfaa
open Go.RowKit
structure Bx where
  lo : Pt
  hi : Pt
abbrev boxC (b : Bx) : List Value := [.int .i64 b.lo.x, .int .i64 b.lo.y, .int .i64 b.lo.z, .int .i64 b.hi.x, .int .i64 b.hi.y, .int .i64 b.hi.z]
theorem boxC_len (b : Bx) : (boxC b).length = 6 := rfl
abbrev boxV (b : Bx) : Value := .agg #[.int .i64 b.lo.x, .int .i64 b.lo.y, .int .i64 b.lo.z, .int .i64 b.hi.x, .int .i64 b.hi.y, .int .i64 b.hi.z]
namespace S
def okAx (l h : Int) : Bool := decide (l ≤ h) && decide (-1048576 ≤ l) && decide (h ≤ 1048576)
def boxOk (b : Bx) : Bool := okAx b.lo.x b.hi.x && okAx b.lo.y b.hi.y && okAx b.lo.z b.hi.z
end S
theorem coords_any (x y z : Int) (w : World) :
    Calls Try.prog 82 #[.agg #[.int .i64 x, .int .i64 y, .int .i64 z]] w fun e w' => e = .returned (.agg #[.int .i64 x, .int .i64 y, .int .i64 z]) ∧ Below w.heap.size w w' := by
  go_enter Try.func82, Try.ntmps82
  go_wp2
  exact bodyPost_ret (v := .agg #[.int .i64 x, .int .i64 y, .int .i64 z]) (by simp [results, Try.results82, go_sem, *]) rfl ⟨rfl, bel⟩
theorem ends_x (b : Bx) (w : World) :
    Calls Try.prog 78 #[boxV b, .int .i64 0] w fun e w' => e = .returned (.tuple #[.int .i64 b.lo.x, .int .i64 b.hi.x]) ∧ Below w.heap.size w w' := by
  have i0 : ∀ W, (Instr.index 141 (.agg #[.int .i64 b.lo.x, .int .i64 b.lo.y, .int .i64 b.lo.z]) (.int .i64 0)).run Try.prog W = .ok (.int .i64 b.lo.x) W := fun _ => by kernel_rfl
  have i1 : ∀ W, (Instr.index 141 (.agg #[.int .i64 b.hi.x, .int .i64 b.hi.y, .int .i64 b.hi.z]) (.int .i64 0)).run Try.prog W = .ok (.int .i64 b.hi.x) W := fun _ => by kernel_rfl
  unfold boxV
  go_enter Try.func78, Try.ntmps78
  go_wp2
  refine wp_region_grow (by kernel_rfl) (by kernel_rfl) ?_
  repeat (go_big_quiet_step ((go_at_call 82; exact grow_of (coords_any _ _ _ _))))
  all_goals (refine wpQuiet_nil ?_; intro wg hbwg; obtain ⟨hcwg, hfwg⟩ := bcell hbwg; have hzwg_0 : w.heap.size < wg.heap.size := lt_via hbwg (by first | omega | (simp; done) | (simp; omega)))
  go_wp2
  go_ret2
  exact ⟨rfl, bel⟩
theorem ends_y (b : Bx) (w : World) :
    Calls Try.prog 78 #[boxV b, .int .i64 1] w fun e w' => e = .returned (.tuple #[.int .i64 b.lo.y, .int .i64 b.hi.y]) ∧ Below w.heap.size w w' := by
  have i0 : ∀ W, (Instr.index 141 (.agg #[.int .i64 b.lo.x, .int .i64 b.lo.y, .int .i64 b.lo.z]) (.int .i64 1)).run Try.prog W = .ok (.int .i64 b.lo.y) W := fun _ => by kernel_rfl
  have i1 : ∀ W, (Instr.index 141 (.agg #[.int .i64 b.hi.x, .int .i64 b.hi.y, .int .i64 b.hi.z]) (.int .i64 1)).run Try.prog W = .ok (.int .i64 b.hi.y) W := fun _ => by kernel_rfl
  unfold boxV
  go_enter Try.func78, Try.ntmps78
  go_wp2
  refine wp_region_grow (by kernel_rfl) (by kernel_rfl) ?_
  repeat (go_big_quiet_step ((go_at_call 82; exact grow_of (coords_any _ _ _ _))))
  all_goals (refine wpQuiet_nil ?_; intro wg hbwg; obtain ⟨hcwg, hfwg⟩ := bcell hbwg; have hzwg_0 : w.heap.size < wg.heap.size := lt_via hbwg (by first | omega | (simp; done) | (simp; omega)))
  go_wp2
  go_ret2
  exact ⟨rfl, bel⟩
theorem ends_z (b : Bx) (w : World) :
    Calls Try.prog 78 #[boxV b, .int .i64 2] w fun e w' => e = .returned (.tuple #[.int .i64 b.lo.z, .int .i64 b.hi.z]) ∧ Below w.heap.size w w' := by
  have i0 : ∀ W, (Instr.index 141 (.agg #[.int .i64 b.lo.x, .int .i64 b.lo.y, .int .i64 b.lo.z]) (.int .i64 2)).run Try.prog W = .ok (.int .i64 b.lo.z) W := fun _ => by kernel_rfl
  have i1 : ∀ W, (Instr.index 141 (.agg #[.int .i64 b.hi.x, .int .i64 b.hi.y, .int .i64 b.hi.z]) (.int .i64 2)).run Try.prog W = .ok (.int .i64 b.hi.z) W := fun _ => by kernel_rfl
  unfold boxV
  go_enter Try.func78, Try.ntmps78
  go_wp2
  refine wp_region_grow (by kernel_rfl) (by kernel_rfl) ?_
  repeat (go_big_quiet_step ((go_at_call 82; exact grow_of (coords_any _ _ _ _))))
  all_goals (refine wpQuiet_nil ?_; intro wg hbwg; obtain ⟨hcwg, hfwg⟩ := bcell hbwg; have hzwg_0 : w.heap.size < wg.heap.size := lt_via hbwg (by first | omega | (simp; done) | (simp; omega)))
  go_wp2
  go_ret2
  exact ⟨rfl, bel⟩
set_option maxHeartbeats 2000000 in
theorem bvalid_any (b : Bx) (w : World) :
    Calls Try.prog 62 #[boxV b] w fun e w' => e = .returned (.bool (S.boxOk b)) ∧ Below w.heap.size w w' := by
  have H := Lib.hid (show ∀ t : Bool, (t = true ↔ (b.lo.x ≤ b.hi.x ∧ -1048576 ≤ b.lo.x ∧ b.hi.x ≤ 1048576) ∧ (b.lo.y ≤ b.hi.y ∧ -1048576 ≤ b.lo.y ∧ b.hi.y ≤ 1048576) ∧ (b.lo.z ≤ b.hi.z ∧ -1048576 ≤ b.lo.z ∧ b.hi.z ≤ 1048576)) → t = S.boxOk b from fun t ht => by
    rw [Bool.eq_iff_iff, ht]
    simp only [S.boxOk, S.okAx, Bool.and_eq_true, decide_eq_true_eq]
    constructor <;> (intro h; omega))
  have HX := Lib.hid (fun w => ends_x b w)
  have HY := Lib.hid (fun w => ends_y b w)
  have HZ := Lib.hid (fun w => ends_z b w)
  unfold boxV
  go_enter Try.func62, Try.ntmps62
  go_wp2
  refine wp_loop_rounds 4 ?_
  rw [rounds_succ]
  go_wp2_with (go_at_call 78; (with_reducible refine (HX.out _).mono ?_); rintro e w1 ⟨rfl, hbw1⟩; obtain ⟨hcw1, hfw1⟩ := bcell hbw1; have hzw1_0 : w.heap.size < w1.heap.size := lt_via hbw1 (by first | omega | (simp; done) | (simp; omega)))
  all_goals (try (go_ret; exact ⟨ret_b (H.out _ (by simp only [decide_eq_true_eq, decide_eq_false_iff_not, Bool.false_eq_true, true_iff, false_iff] at *; omega)), bel⟩))
  rw [rounds_succ]
  go_wp2_with (go_at_call 78; (with_reducible refine (HY.out _).mono ?_); rintro e w2 ⟨rfl, hbw2⟩; obtain ⟨hcw2, hfw2⟩ := bcell hbw2; have hzw2_0 : w.heap.size < w2.heap.size := lt_via hbw2 (by first | omega | (simp; done) | (simp; omega)))
  all_goals (try (go_ret; exact ⟨ret_b (H.out _ (by simp only [decide_eq_true_eq, decide_eq_false_iff_not, Bool.false_eq_true, true_iff, false_iff] at *; omega)), bel⟩))
  rw [rounds_succ]
  go_wp2_with (go_at_call 78; (with_reducible refine (HZ.out _).mono ?_); rintro e w3 ⟨rfl, hbw3⟩; obtain ⟨hcw3, hfw3⟩ := bcell hbw3; have hzw3_0 : w.heap.size < w3.heap.size := lt_via hbw3 (by first | omega | (simp; done) | (simp; omega)))
  all_goals (try (go_ret; exact ⟨ret_b (H.out _ (by simp only [decide_eq_true_eq, decide_eq_false_iff_not, Bool.false_eq_true, true_iff, false_iff] at *; omega)), bel⟩))
  rw [rounds_succ]
  go_wp2
  (go_ret; exact ⟨ret_b (H.out _ (by simp only [decide_eq_true_eq, decide_eq_false_iff_not, Bool.false_eq_true, true_iff, false_iff] at *; omega)), bel⟩)
end Go.Proofs.Ytnjflafaflalfaa
