/- What further laws may want. -/
import Derived.Test.YtmfpbafpnoomeaaGreatMAU
set_option linter.unusedVariables false
set_option linter.unusedSimpArgs false
namespace Go.Proofs.YtmfpbafpnoomeaaGreat
end Go.Proofs.YtmfpbafpnoomeaaGreat
