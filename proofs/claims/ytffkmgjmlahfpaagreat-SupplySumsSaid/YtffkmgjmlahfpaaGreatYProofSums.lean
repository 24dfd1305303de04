/- SupplySums: for every detail and all other arguments the law returns true, and each argument reads behind the call as before. No condition. -/
import Derived.Test.YtffkmgjmlahfpaaGreatYAX
import Derived.Test.YtffkmgjmlahfpaaGreatYAJ
import Derived.Test.YtffkmgjmlahfpaaGreatYBC
set_option linter.unusedVariables false
set_option linter.unusedSimpArgs false
namespace Go.Proofs.YtffkmgjmlahfpaaGreat
open Go.ChangeShapes Go.WideShapes Go.ChangeAt Go.RowKit
set_option maxHeartbeats 4000000 in
theorem supplySums_over : Rows.supplySumsRow.holds Tryz.pinned (OpenSpec.ofChange Rows.supplySumsSpec) :=
  OpenClaim.holds_of_wide 11 Tryz.f11 rfl rfl rfl rfl rfl rfl rfl ⟨rfl, rfl, rfl, rfl, rfl⟩ rfl rfl rfl rfl rfl (by as_aux_lemma => kernel_rfl) Tryz.func11 (by unfold joinedFacts; simp only [Bool.and_eq_true]; (repeat' apply And.intro); all_goals (as_aux_lemma => kernel_rfl))
    (by as_aux_lemma => exact of_decide_eq_true (by kernel_rfl)) (by as_aux_lemma => unfold Func.isWrapper; first | (rw [if_pos (by decide +kernel)]; kernel_rfl) | (rw [if_neg (by decide +kernel)]; exact ⟨rfl, rfl⟩))
    (fun os started H enc _ => supplySums_lifted os started H enc)
theorem supplySums_holds : Rows.SupplySumsSaid := supplySums_over
#print axioms supplySums_holds
end Go.Proofs.YtffkmgjmlahfpaaGreat
