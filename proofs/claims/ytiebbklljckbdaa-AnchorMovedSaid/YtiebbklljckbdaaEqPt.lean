/- Points held against one another in a walk. -/
import Derived.Test.YtiebbklljckbdaaRows
import Derived.Test.YtiebbklljckbdaaPt
import Derived.Test.YtiebbklljckbdaaFlat
set_option linter.unusedVariables false
set_option linter.unusedSimpArgs false
namespace Go.Proofs.Ytiebbklljckbdaa
open Go.RowKit
namespace S
def eqpt (p q : Pt) : Bool := decide (p.x = q.x) && decide (p.y = q.y) && decide (p.z = q.z)
end S
theorem run_neq_pt (p q : Pt) (W : World) : (binOp .neq 50 (.agg #[.int .i64 p.x, .int .i64 p.y, .int .i64 p.z]) (.agg #[.int .i64 q.x, .int .i64 q.y, .int .i64 q.z])).run Try.prog W = .ok (.bool (!S.eqpt p q)) W := by
  by_cases h1 : p.x = q.x
  · by_cases h2 : p.y = q.y
    · by_cases h3 : p.z = q.z
      · simp [go_sem, S.eqpt, h1, h2, h3]
      · simp [go_sem, S.eqpt, h1, h2, h3]
    · simp [go_sem, S.eqpt, h1, h2]
  · simp [go_sem, S.eqpt, h1]
theorem run_eq_pt (p q : Pt) (W : World) : (binOp .eql 50 (.agg #[.int .i64 p.x, .int .i64 p.y, .int .i64 p.z]) (.agg #[.int .i64 q.x, .int .i64 q.y, .int .i64 q.z])).run Try.prog W = .ok (.bool (S.eqpt p q)) W := by
  by_cases h1 : p.x = q.x
  · by_cases h2 : p.y = q.y
    · by_cases h3 : p.z = q.z
      · simp [go_sem, S.eqpt, h1, h2, h3]
      · simp [go_sem, S.eqpt, h1, h2, h3]
    · simp [go_sem, S.eqpt, h1, h2]
  · simp [go_sem, S.eqpt, h1]
end Go.Proofs.Ytiebbklljckbdaa
