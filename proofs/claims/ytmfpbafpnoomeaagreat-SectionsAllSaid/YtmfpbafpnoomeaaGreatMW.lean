/- Lemmas. -/
import Derived.Test.YtmfpbafpnoomeaaGreatMS
set_option linter.unusedVariables false
set_option linter.unusedSimpArgs false
namespace Go.Proofs.YtmfpbafpnoomeaaGreat
open Go.RowKit
theorem elemRow : Elem Tryz.prog 149 108 (.slice none 0 0) 1 24 := ⟨Tryz.underlying149, by kernel_rfl, rfl, by decide⟩
end Go.Proofs.YtmfpbafpnoomeaaGreat
