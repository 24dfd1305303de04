/- Contracts of the reference for layer 12: Codes, Dims. -/
import Derived.Test.YtpjdepnbeendcaaOpenB
set_option linter.unusedVariables false
set_option linter.unusedSimpArgs false
namespace Go.Proofs.Ytpjdepnbeendcaa
open Go.RowKit
def S.codes : List Int := [0, 11, 21, 26, 31, 41, 51, 98]
theorem codes_any (w : World) :
    Calls Try.prog 25 #[] w fun e w' => e = .returned (.slice (some ⟨w.heap.size, 0, none⟩) 8 8) ∧ w.heap.size < w'.heap.size ∧ Cells w' (w.heap.size + 1) (some ⟨w.heap.size, 0, none⟩) (i64s S.codes) ∧ Below w.heap.size w w' := by
  go_enter Try.func25, Try.ntmps25
  go_wp2
  go_ret
  exact ⟨rfl, by simp, Cells.new w (i64s S.codes).toArray _ (0, 0), (by repeat (first | exact Below.refl _ _ | assumption | refine ba_alloc ?_ _ | refine ba_drew ?_ | refine ba_drewN ?_ _ | refine ba_via (by assumption) ?_ | (refine ba_set ?_ ?_ _; rotate_left; (first | omega | (simp; omega) | simp))))⟩
theorem rcodes_any (w : World) :
    Calls Try.prog 26 #[] w fun e w' => e = .returned (.slice (some ⟨w.heap.size, 0, none⟩) 8 8) ∧ w.heap.size < w'.heap.size ∧ Cells w' (w.heap.size + 1) (some ⟨w.heap.size, 0, none⟩) (i64s S.codes) ∧ Below w.heap.size w w' := by
  go_enter Try.func26, Try.ntmps26
  go_wp2
  go_ret
  exact ⟨rfl, by simp, Cells.new w (i64s S.codes).toArray _ (0, 0), (by repeat (first | exact Below.refl _ _ | assumption | refine ba_alloc ?_ _ | refine ba_drew ?_ | refine ba_drewN ?_ _ | refine ba_via (by assumption) ?_ | (refine ba_set ?_ ?_ _; rotate_left; (first | omega | (simp; omega) | simp))))⟩
theorem rdims_any (code : Int) (w : World) :
    Calls Try.prog 27 #[.int .i64 code] w fun e w' => e = .returned (.int .i64 (S.dimsOf code)) ∧ Below w.heap.size w w' := by
  have H := Lib.hid (show ∀ n : Int, (n = if code = 0 then 1 else if code = 11 then 2 else if code = 21 then 3 else if code = 26 then 3 else if code = 31 then 3 else if code = 41 then 5 else if code = 51 then 3 else if code = 98 then 3 else 0) → n = S.dimsOf code from fun n h => h)
  go_enter Try.func27, Try.ntmps27
  go_wp2
  all_goals (go_ret; exact ⟨ret_i (H.out _ (by simp only [beq_iff_eq, beq_eq_false_iff_ne, ne_eq] at *; repeat' (split <;> try omega))), (by repeat (first | exact Below.refl _ _ | assumption | refine ba_alloc ?_ _ | refine ba_drew ?_ | refine ba_drewN ?_ _ | refine ba_via (by assumption) ?_ | (refine ba_set ?_ ?_ _; rotate_left; (first | omega | (simp; omega) | simp))))⟩)
end Go.Proofs.Ytpjdepnbeendcaa
