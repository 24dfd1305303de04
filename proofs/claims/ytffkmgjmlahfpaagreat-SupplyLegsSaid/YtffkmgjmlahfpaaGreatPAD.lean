/- Contracts: lap.overlap, lap.Overlap of a valid detail. Contract: lap.chains of one lap and two bars. -/
import Derived.Test.YtffkmgjmlahfpaaGreatPW
set_option linter.unusedVariables false
set_option linter.unusedSimpArgs false
namespace Go.Proofs.YtffkmgjmlahfpaaGreat
open Go.RowKit
theorem elemRow : Elem Tryz.prog 48 58 (.slice none 0 0) 1 24 := ⟨Tryz.underlying48, by kernel_rfl, rfl, by decide⟩
end Go.Proofs.YtffkmgjmlahfpaaGreat
