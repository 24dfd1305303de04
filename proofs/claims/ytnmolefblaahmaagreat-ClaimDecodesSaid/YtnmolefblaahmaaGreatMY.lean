/- Contract: supply.Of of a valid detail. -/
import Derived.Test.YtnmolefblaahmaaGreatMW
import Derived.Test.YtnmolefblaahmaaGreatMX
set_option linter.unusedVariables false
set_option linter.unusedSimpArgs false
namespace Go.Proofs.YtnmolefblaahmaaGreat
open Go.RowKit
def S.ends2 (l : List SCh) : List Int := l.flatMap fun c => [c.lo, c.hi]
def S.places (l : List SCh) : List Int := Go.Lib.compact (S.sortI (S.ends2 l))
end Go.Proofs.YtnmolefblaahmaaGreat
