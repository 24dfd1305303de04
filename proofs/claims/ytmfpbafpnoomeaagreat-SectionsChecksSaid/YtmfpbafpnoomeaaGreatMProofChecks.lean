/- SectionsChecks: for every detail and all other arguments the law returns true, and each argument reads behind the call as before. No condition. -/
import Derived.Test.YtmfpbafpnoomeaaGreatMBD
set_option linter.unusedVariables false
set_option linter.unusedSimpArgs false
namespace Go.Proofs.YtmfpbafpnoomeaaGreat
open Go.ChangeShapes Go.WideShapes Go.ChangeAt Go.RowKit
set_option maxHeartbeats 4000000 in
theorem sectionsChecks_over : Rows.sectionsChecksRow.holds Tryz.pinned (OpenSpec.ofChange Rows.sectionsChecksSpec) :=
 OpenClaim.holds_of_wide 5 Tryz.f5 rfl rfl rfl rfl rfl rfl rfl ⟨rfl, rfl, rfl, rfl, rfl⟩ rfl rfl rfl rfl rfl (by as_aux_lemma => kernel_rfl) Tryz.func5 (by unfold joinedFacts; simp only [Bool.and_eq_true]; (repeat' apply And.intro); all_goals (as_aux_lemma => kernel_rfl))
  (by as_aux_lemma => exact of_decide_eq_true (by kernel_rfl)) (by as_aux_lemma => unfold Func.isWrapper; first | (rw [if_pos (by decide +kernel)]; kernel_rfl) | (rw [if_neg (by decide +kernel)]; exact ⟨rfl, rfl⟩))
  (fun os started H enc _ => sectionsChecks_lifted os started H enc)
theorem sectionsChecks_holds : Rows.SectionsChecksSaid := sectionsChecks_over
#print axioms sectionsChecks_holds
end Go.Proofs.YtmfpbafpnoomeaaGreat
