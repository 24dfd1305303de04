/- Lemmas. -/
import Derived.Test.YtffkmgjmlahfpaaGreatYC
import Derived.Test.YtffkmgjmlahfpaaGreatYU
import Derived.Test.YtffkmgjmlahfpaaGreatYN
import Derived.Test.YtffkmgjmlahfpaaGreatYB
import Derived.Test.YtffkmgjmlahfpaaGreatYD
import Derived.Test.YtffkmgjmlahfpaaGreatYO
set_option linter.unusedVariables false
set_option linter.unusedSimpArgs false
namespace Go.Proofs.YtffkmgjmlahfpaaGreat
open Go.RowKit
theorem rnumber_any (n : Int) (w : World) : Calls Tryz.prog 118 #[.int .i64 n] w fun e w' => e = .returned (.bool (S.num n)) ∧ w = w' := by
  have H := Lib.hid (show S.num n = (decide (1 ≤ n) && decide (n ≤ 1000)) from rfl)
  go_enter Tryz.func118, Tryz.ntmps118
  go_wp2
  all_goals (go_ret; exact ⟨ret_b (by rw [H.out, Bool.eq_iff_iff]; simp; omega), rfl⟩)
set_option maxHeartbeats 1600000 in
theorem rvalid_any (r : Rule) (w : World) : Calls Tryz.prog 63 #[ruleV r] w fun e w' => e = .returned (.bool (S.rule r)) ∧ Below w.heap.size w w' := by
  have H := Lib.hid (show S.rule r = (S.num r.num && S.num r.den && S.num r.pnum && S.num r.pden && S.num r.bnum && S.num r.bden && S.num r.lnum && S.num r.lden &&
    decide (r.pden ≤ r.pnum) && decide (r.lden ≤ r.lnum) && decide (r.bnum ≤ r.bden) && decide (0 ≤ r.least) && decide (r.least ≤ 1000)) from rfl)
  unfold ruleV
  go_enter Tryz.func63, Tryz.ntmps63
  go_wp2_with (go_at_call 118; refine (rnumber_any _ _).mono ?_; rintro e w1 ⟨rfl, rfl⟩)
  all_goals (go_ret; exact ⟨ret_b (by rw [H.out]; (try simp only [*, Bool.and_true, Bool.true_and, Bool.and_false, Bool.false_and]); (try simp); (try omega)), by go_grown⟩)
end Go.Proofs.YtffkmgjmlahfpaaGreat
