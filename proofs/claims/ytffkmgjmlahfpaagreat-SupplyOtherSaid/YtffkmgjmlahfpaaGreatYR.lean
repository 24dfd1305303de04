/- Contracts of the reference for layer 9: Coord, IsLength, Valid. -/
import Derived.Test.YtffkmgjmlahfpaaGreatYD
set_option linter.unusedVariables false
set_option linter.unusedSimpArgs false
namespace Go.Proofs.YtffkmgjmlahfpaaGreat
open Go.RowKit
namespace S
def co (p : Pt) (k : Nat) : Int := if k = 0 then p.x else if k = 1 then p.y else p.z
end S
abbrev ptVal (p : Pt) : Value := .agg #[.int .i64 p.x, .int .i64 p.y, .int .i64 p.z]
theorem coord_any (p : Pt) (k : Nat) (hk : k < 3) (w : World) :
    Calls Tryz.prog 180 #[ptVal p, .int .i64 k] w fun e w' => e = .returned (.int .i64 (S.co p k)) ∧ Below w.heap.size w w' := by
  have : k = 0 ∨ k = 1 ∨ k = 2 := by omega
  unfold ptVal
  rcases this with rfl | rfl | rfl
  all_goals (
    go_enter Tryz.func180, Tryz.ntmps180
    go_wp2
    go_ret
    exact ⟨rfl, bel⟩)
end Go.Proofs.YtffkmgjmlahfpaaGreat
