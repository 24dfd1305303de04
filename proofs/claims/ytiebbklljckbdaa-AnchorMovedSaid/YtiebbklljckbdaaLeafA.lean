/- Contracts: integers rounded up. -/
import Derived.Test.YtiebbklljckbdaaRows
import Derived.Test.YtiebbklljckbdaaLeafI
import Derived.Test.YtiebbklljckbdaaSpec
set_option linter.unusedVariables false
set_option linter.unusedSimpArgs false
namespace Go.Proofs.Ytiebbklljckbdaa
open Go.RowKit

theorem up_any (n p q : Int) (w : World) (h2 : 1 ≤ q) (h3 : q ≤ 1000000) (hlo : 0 ≤ n * p) (hp : n * p ≤ 4611686018427387904) :
    Calls Try.prog 68 #[.int .i64 n, .int .i64 p, .int .i64 q] w fun e w' => e = .returned (.int .i64 (S.up n p q)) ∧ w = w' := by
  have hq : (q == 0) = false := by simp; omega
  go_enter Try.func68, Try.ntmps68
  go_wp2
  go_ret
  exact ⟨rfl, rfl⟩
theorem rup_any (n p q : Int) (w : World) (h2 : 1 ≤ q) (h3 : q ≤ 1000000) (hlo : 0 ≤ n * p) (hp : n * p ≤ 4611686018427387904) :
    Calls Try.prog 42 #[.int .i64 n, .int .i64 p, .int .i64 q] w fun e w' => e = .returned (.int .i64 (S.up n p q)) ∧ w = w' := by
  have hq : (q == 0) = false := by simp; omega
  go_enter Try.func42, Try.ntmps42
  go_wp2
  go_ret
  exact ⟨rfl, rfl⟩
end Go.Proofs.Ytiebbklljckbdaa
