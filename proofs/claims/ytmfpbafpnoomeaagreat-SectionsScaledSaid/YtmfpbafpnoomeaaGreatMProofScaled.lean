/- Lemmas. -/
import Derived.Test.YtmfpbafpnoomeaaGreatMSC
set_option linter.unusedVariables false
set_option linter.unusedSimpArgs false
namespace Go.Proofs.YtmfpbafpnoomeaaGreat
open Go.ChangeShapes Go.WideShapes Go.ChangeAt Go.RowKit
set_option maxHeartbeats 4000000 in
theorem sectionsScaled_over : Rows.sectionsScaledRow.holds Tryz.pinned (OpenSpec.ofChange Rows.sectionsScaledSpec) :=
  OpenClaim.holds_of_wide 9 Tryz.f9 rfl rfl rfl rfl rfl rfl rfl ⟨rfl, rfl, rfl, rfl, rfl⟩ rfl rfl rfl rfl rfl (by as_aux_lemma => kernel_rfl) Tryz.func9 (by unfold joinedFacts; simp only [Bool.and_eq_true]; (repeat' apply And.intro); all_goals (as_aux_lemma => kernel_rfl))
    (by as_aux_lemma => exact of_decide_eq_true (by kernel_rfl)) (by as_aux_lemma => unfold Func.isWrapper; first | (rw [if_pos (by decide +kernel)]; kernel_rfl) | (rw [if_neg (by decide +kernel)]; exact ⟨rfl, rfl⟩))
    (fun os started H enc _ => sectionsScaled_lifted os started H enc)
/-- The statement. -/
theorem sectionsScaled_holds : Rows.SectionsScaledSaid := sectionsScaled_over
#print axioms sectionsScaled_holds
end Go.Proofs.YtmfpbafpnoomeaaGreat
