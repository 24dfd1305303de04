/- Contracts: supply.at, supply.At. -/
import Derived.Test.YtnmolefblaahmaaGreatMW
set_option linter.unusedVariables false
set_option linter.unusedSimpArgs false
namespace Go.Proofs.YtnmolefblaahmaaGreat
open Go.RowKit
def S.supAt (z : Bx) (p : Int) (rs : List Rod) (c : SCh) : Bool := S.atPl p c && S.sup rs z c
end Go.Proofs.YtnmolefblaahmaaGreat
