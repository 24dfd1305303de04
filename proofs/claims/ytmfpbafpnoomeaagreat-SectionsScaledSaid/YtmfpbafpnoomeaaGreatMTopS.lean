/- The lemmas of the law SectionsScaled. -/
import Derived.Test.YtmfpbafpnoomeaaGreatMAP
import Derived.Test.YtmfpbafpnoomeaaGreatMAQ
set_option linter.unusedVariables false
set_option linter.unusedSimpArgs false
namespace Go.Proofs.YtmfpbafpnoomeaaGreat
open Go.RowKit
theorem top_s : True := trivial
end Go.Proofs.YtmfpbafpnoomeaaGreat
