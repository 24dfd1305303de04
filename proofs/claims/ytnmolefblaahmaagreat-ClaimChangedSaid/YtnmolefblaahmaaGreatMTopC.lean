/- What the claims of layer 51 lean on. -/
import Derived.Test.YtnmolefblaahmaaGreatMAO
import Derived.Test.YtnmolefblaahmaaGreatMAQ
set_option linter.unusedVariables false
set_option linter.unusedSimpArgs false
namespace Go.Proofs.YtnmolefblaahmaaGreat
end Go.Proofs.YtnmolefblaahmaaGreat
