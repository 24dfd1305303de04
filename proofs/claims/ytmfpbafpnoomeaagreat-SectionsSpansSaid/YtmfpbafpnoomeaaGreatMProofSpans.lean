/- SectionsSpans: for every detail and all other arguments the law returns true, and each argument reads behind the call as before. No condition. -/
import Derived.Test.YtmfpbafpnoomeaaGreatMBB
set_option linter.unusedVariables false
set_option linter.unusedSimpArgs false
namespace Go.Proofs.YtmfpbafpnoomeaaGreat
open Go.ChangeShapes Go.WideShapes Go.ChangeAt Go.RowKit
set_option maxHeartbeats 4000000 in
theorem sectionsSpans_over : Rows.sectionsSpansRow.holds Tryz.pinned (OpenSpec.ofChange Rows.sectionsSpansSpec) :=
 OpenClaim.holds_of_wide 3 Tryz.f3 rfl rfl rfl rfl rfl rfl rfl ⟨rfl, rfl, rfl, rfl, rfl⟩ rfl rfl rfl rfl rfl (by as_aux_lemma => kernel_rfl) Tryz.func3 (by unfold joinedFacts; simp only [Bool.and_eq_true]; (repeat' apply And.intro); all_goals (as_aux_lemma => kernel_rfl))
  (by as_aux_lemma => exact of_decide_eq_true (by kernel_rfl)) (by as_aux_lemma => unfold Func.isWrapper; first | (rw [if_pos (by decide +kernel)]; kernel_rfl) | (rw [if_neg (by decide +kernel)]; exact ⟨rfl, rfl⟩))
  (fun os started H enc _ => sectionsSpans_lifted os started H enc)
theorem sectionsSpans_holds : Rows.SectionsSpansSaid := sectionsSpans_over
#print axioms sectionsSpans_holds
end Go.Proofs.YtmfpbafpnoomeaaGreat
