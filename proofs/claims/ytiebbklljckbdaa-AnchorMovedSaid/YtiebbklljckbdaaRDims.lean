/- Contract of the reference for layer 12: Dims. -/
import Derived.Test.YtiebbklljckbdaaShapeB
set_option linter.unusedVariables false
set_option linter.unusedSimpArgs false
namespace Go.Proofs.Ytiebbklljckbdaa
open Go.RowKit
theorem rdims_any (code : Int) (w : World) :
    Calls Try.prog 89 #[.int .i64 code] w fun e w' => e = .returned (.int .i64 (S.dimsOf code)) ∧ Below w.heap.size w w' := by
  have H := Lib.hid (show ∀ n : Int, (n = if code = 0 then 1 else if code = 11 then 2 else if code = 21 then 3 else if code = 26 then 3 else if code = 31 then 3 else if code = 41 then 5 else if code = 51 then 3 else if code = 98 then 3 else 0) → n = S.dimsOf code from fun n h => h)
  go_enter Try.func89, Try.ntmps89
  go_wp2
  all_goals (go_ret; exact ⟨ret_i (H.out _ (by simp only [beq_iff_eq, beq_eq_false_iff_ne, ne_eq] at *; repeat' (split <;> try omega))), (by repeat (first | exact Below.refl _ _ | assumption | refine ba_alloc ?_ _ | refine ba_drew ?_ | refine ba_drewN ?_ _ | refine ba_via (by assumption) ?_ | (refine ba_set ?_ ?_ _; rotate_left; (first | omega | (simp; omega) | simp))))⟩)
end Go.Proofs.Ytiebbklljckbdaa
