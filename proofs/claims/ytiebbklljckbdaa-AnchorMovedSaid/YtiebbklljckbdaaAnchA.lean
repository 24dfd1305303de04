/- Contracts: anchor.Valid and its reference. -/
import Derived.Test.YtiebbklljckbdaaLeafB
set_option linter.unusedVariables false
set_option linter.unusedSimpArgs false
namespace Go.Proofs.Ytiebbklljckbdaa
open Go.RowKit

abbrev ruleV (r : Rule) : Value := .agg #[.int .i64 r.num, .int .i64 r.den, .int .i64 r.pnum, .int .i64 r.pden, .int .i64 r.bnum, .int .i64 r.bden, .int .i64 r.lnum, .int .i64 r.lden, .int .i64 r.least]
def eight (r : Rule) : List Int := [r.num, r.den, r.pnum, r.pden, r.bnum, r.bden, r.lnum, r.lden]
theorem rule_eq (r : Rule) : S.rule r = (!anyb (eight r) numNot && decide (r.pden ≤ r.pnum) && decide (r.lden ≤ r.lnum) && decide (r.bnum ≤ r.bden) && decide (0 ≤ r.least) && decide (r.least ≤ 1000)) := by
  simp [S.rule, anyb, eight, numNot, Bool.and_assoc]
theorem avalid_any (r : Rule) (w : World) : Calls Try.prog 13 #[ruleV r] w fun e w' => e = .returned (.bool (S.rule r)) ∧ Below w.heap.size w w' := by
  have H := Lib.hid (rule_eq r)
  have hs : Cells ((w.alloc (.cells #[.int .i64 r.num, .int .i64 r.den, .int .i64 r.pnum, .int .i64 r.pden, .int .i64 r.bnum, .int .i64 r.bden, .int .i64 r.lnum, .int .i64 r.lden, .int .i64 r.least] 23)).alloc (.cells #[.int .i64 r.num, .int .i64 r.den, .int .i64 r.pnum, .int .i64 r.pden, .int .i64 r.bnum, .int .i64 r.bden, .int .i64 r.lnum, .int .i64 r.lden] 3)) (w.heap.size + 1 + 1) (some ⟨w.heap.size + 1, 0, none⟩) (i64s (eight r)) := by
    have := Cells.new (w.alloc (.cells #[.int .i64 r.num, .int .i64 r.den, .int .i64 r.pnum, .int .i64 r.pden, .int .i64 r.bnum, .int .i64 r.bden, .int .i64 r.lnum, .int .i64 r.lden, .int .i64 r.least] 23)) #[.int .i64 r.num, .int .i64 r.den, .int .i64 r.pnum, .int .i64 r.pden, .int .i64 r.bnum, .int .i64 r.bden, .int .i64 r.lnum, .int .i64 r.lden] 3 (0, 0)
    simpa [eight] using this
  unfold ruleV
  cases ha : anyb (eight r) numNot
  · go_enter Try.func13, Try.ntmps13
    go_wp2_with (go_at_call 39; refine (within_any _ 8 _ (eight r) _ _ rfl (by omega) (by simp) hs).mono ?_; rintro e w1 ⟨rfl, hb1⟩; obtain ⟨hc, hf⟩ := bcell hb1)
    all_goals (go_ret; exact ⟨ret_b (by rw [H.out, ha, Bool.eq_iff_iff]; simp; omega), via hb1 (by go_grown) (Nat.le_refl _)⟩)
  · go_enter Try.func13, Try.ntmps13
    go_wp2_with (go_at_call 39; refine (within_any _ 8 _ (eight r) _ _ rfl (by omega) (by simp) hs).mono ?_; rintro e w1 ⟨rfl, hb1⟩; obtain ⟨hc, hf⟩ := bcell hb1)
    all_goals (go_ret; exact ⟨ret_b (by rw [H.out, ha]; simp), via hb1 (by go_grown) (Nat.le_refl _)⟩)
end Go.Proofs.Ytiebbklljckbdaa
