/- Points as plain data, and their cells. -/
import Derived.Test.YtnjflafaflalfaaRB
set_option linter.unusedVariables false
set_option linter.unusedSimpArgs false
namespace Go.Proofs.Ytnjflafaflalfaa
open Go.RowKit
structure Pt where
  x : Int
  y : Int
  z : Int
abbrev ptC (p : Pt) : List Value := [.int .i64 p.x, .int .i64 p.y, .int .i64 p.z]
theorem ptC_len (p : Pt) : (ptC p).length = 3 := rfl
end Go.Proofs.Ytnjflafaflalfaa
