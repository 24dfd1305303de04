/- The walk through the law LapStaggers. -/
import Derived.Test.YtnjflafaflalfaaRAR
import Derived.Test.YtnjflafaflalfaaRAO
set_option linter.unusedVariables false
set_option linter.unusedSimpArgs false
namespace Go.Proofs.Ytnjflafaflalfaa
open Go.RowKit
theorem stagT_ok {l : List Sp} {num den : Int} (h : S.stagErr l num den = 0) : S.stagT l num den = .tuple #[.bool (decide (S.stag l num den < 0)), .int .i64 (S.stag l num den), .int .i64 0] := by
  unfold S.stagT S.stagIs S.stagIx
  rw [h, if_pos rfl]
  simp
end Go.Proofs.Ytnjflafaflalfaa
