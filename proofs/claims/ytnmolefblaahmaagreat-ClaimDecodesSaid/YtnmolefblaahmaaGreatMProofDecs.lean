/- ClaimDecodes: for all bytes the law returns true, and the argument reads behind the call as before. No condition. -/
import Derived.Test.YtnmolefblaahmaaGreatMLiftDecs
set_option linter.unusedVariables false
set_option linter.unusedSimpArgs false
namespace Go.Proofs.YtnmolefblaahmaaGreat
open Go.ChangeShapes Go.WideShapes Go.ChangeAt Go.RowKit
set_option maxHeartbeats 4000000 in
theorem claimDecodes_over : Rows.claimDecodesRow.holds Tryz.pinned (OpenSpec.ofChange Rows.claimDecodesSpec) :=
  OpenClaim.holds_of_wide 6 Tryz.f6 rfl rfl rfl rfl rfl rfl rfl ⟨rfl, rfl, rfl, rfl, rfl⟩ rfl rfl rfl rfl rfl (by as_aux_lemma => kernel_rfl) Tryz.func6 (by unfold joinedFacts; simp only [Bool.and_eq_true]; (repeat' apply And.intro); all_goals (as_aux_lemma => kernel_rfl))
    (by as_aux_lemma => exact of_decide_eq_true (by kernel_rfl)) (by as_aux_lemma => unfold Func.isWrapper; first | (rw [if_pos (by decide +kernel)]; kernel_rfl) | (rw [if_neg (by decide +kernel)]; exact ⟨rfl, rfl⟩))
    (fun os started H enc _ => claimDecodes_lifted os started H enc)
/-- The statement. -/
theorem claimDecodes_holds : Rows.ClaimDecodesSaid := claimDecodes_over
#print axioms claimDecodes_holds
end Go.Proofs.YtnmolefblaahmaaGreat
