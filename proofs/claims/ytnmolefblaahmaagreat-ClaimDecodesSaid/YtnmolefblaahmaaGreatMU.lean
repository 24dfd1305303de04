/- Contracts: demand.In of a right demand and a main leg; supply.value. Contracts: the closures of supply.suppliers and supply.at. -/
import Derived.Test.YtnmolefblaahmaaGreatMS
import Derived.Test.YtnmolefblaahmaaGreatMT
set_option linter.unusedVariables false
set_option linter.unusedSimpArgs false
namespace Go.Proofs.YtnmolefblaahmaaGreat
open Go.RowKit
def S.inside (a b : Bx) : Bool := (decide (b.lo.y ≤ a.lo.y) && decide (a.hi.y ≤ b.hi.y)) && (decide (b.lo.z ≤ a.lo.z) && decide (a.hi.z ≤ b.hi.z))
structure SCh where
 A : Option Addr
 c : Nat
 l : List Int
 lo : Int
 hi : Int
 is : Bool
 area : Int
abbrev schC (r : SCh) : List Value := [.slice r.A r.l.length r.c, .int .i64 r.lo, .int .i64 r.hi, .bool r.is, .int .i64 r.area]
theorem schC_len (r : SCh) : (schC r).length = 5 := rfl
def S.atPl (p : Int) (r : SCh) : Bool := decide (r.lo ≤ p) && decide (p < r.hi)
def S.outside (r : Rod) (z : Bx) : Bool := if r.main < 0 then true else !S.inside (r.legs.getD r.main.toNat S.zbox) z
end Go.Proofs.YtnmolefblaahmaaGreat
