/- ClaimChanged: for every claim and all other arguments the law returns true, and each argument reads behind the call as before. No condition. -/
import Derived.Test.YtnmolefblaahmaaGreatMTopC
set_option linter.unusedVariables false
set_option linter.unusedSimpArgs false
namespace Go.Proofs.YtnmolefblaahmaaGreat
open Go.ChangeShapes Go.WideShapes Go.ChangeAt Go.RowKit
set_option maxHeartbeats 4000000 in
theorem claimChanged_over : Rows.claimChangedRow.holds Tryz.pinned (OpenSpec.ofChange Rows.claimChangedSpec) :=
  OpenClaim.holds_of_wide 8 Tryz.f8 rfl rfl rfl rfl rfl rfl rfl ⟨rfl, rfl, rfl, rfl, rfl⟩ rfl rfl rfl rfl rfl (by as_aux_lemma => kernel_rfl) Tryz.func8 (by unfold joinedFacts; simp only [Bool.and_eq_true]; (repeat' apply And.intro); all_goals (as_aux_lemma => kernel_rfl))
    (by as_aux_lemma => exact of_decide_eq_true (by kernel_rfl)) (by as_aux_lemma => unfold Func.isWrapper; first | (rw [if_pos (by decide +kernel)]; kernel_rfl) | (rw [if_neg (by decide +kernel)]; exact ⟨rfl, rfl⟩))
    (fun os started H enc _ => claimChanged_lifted os started H enc)
/-- The statement. -/
theorem claimChanged_holds : Rows.ClaimChangedSaid := claimChanged_over
#print axioms claimChanged_holds
end Go.Proofs.YtnmolefblaahmaaGreat
