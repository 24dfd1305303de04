/- Contracts: anchor.Basic, anchor.Length, the reference's Sized, and the example of the chapter. -/
import Derived.Test.YtiebbklljckbdaaAnchB
import Derived.Test.YtiebbklljckbdaaAnchV
set_option linter.unusedVariables false
set_option linter.unusedSimpArgs false
namespace Go.Proofs.Ytiebbklljckbdaa
open Go.RowKit

theorem sized_no {r : Rule} {d : Int} (h : S.rule r = false) : S.sized r d = 1 := by simp [S.sized, h]
theorem sized_mid {r : Rule} {d : Int} (h : S.rule r = true) (h2 : S.size d = false) : S.sized r d = 2 := by simp [S.sized, h, h2]
theorem sized_yes {r : Rule} {d : Int} (h : S.rule r = true) (h2 : S.size d = true) : S.sized r d = 0 := by simp [S.sized, h, h2]
theorem sized_zero {r : Rule} {d : Int} (h : S.sized r d = 0) : S.rule r = true ∧ S.size d = true := by
  unfold S.sized at h
  split at h
  · split at h
    · exact ⟨by assumption, by assumption⟩
    · omega
  · omega
theorem given_any (r : Rule) (d : Int) (w : World) : Calls Try.prog 36 #[ruleV r, .int .i64 d] w fun e w' => e = .returned (.int .i64 (S.sized r d)) ∧ Below w.heap.size w w' := by
  cases hr : S.rule r
  · have H := Lib.hid (sized_no (d := d) hr)
    unfold ruleV
    go_enter Try.func36, Try.ntmps36
    go_wp2_with (go_at_call 13; refine (avalid_any r _).mono ?_; rintro e w1 ⟨rfl, hb1⟩)
    go_ret
    exact ⟨ret_i H.out.symm, (by repeat (first | exact Below.refl _ _ | assumption | refine ba_alloc ?_ _ | refine ba_drew ?_ | refine ba_drewN ?_ _ | refine ba_via (by assumption) ?_ | (refine ba_set ?_ ?_ _; rotate_left; (first | omega | (simp; omega) | simp))))⟩
  · cases hd : S.size d
    · have H := Lib.hid (sized_mid hr hd)
      unfold ruleV
      go_enter Try.func36, Try.ntmps36
      go_wp2_with (first
        | (go_at_call 13; refine (avalid_any r _).mono ?_; rintro e w1 ⟨rfl, hb1⟩)
        | (go_at_call 67; refine (ssize_any d _).mono ?_; rintro e w2 ⟨rfl, hb2⟩))
      go_ret
      exact ⟨ret_i H.out.symm, (by repeat (first | exact Below.refl _ _ | assumption | refine ba_alloc ?_ _ | refine ba_drew ?_ | refine ba_drewN ?_ _ | refine ba_via (by assumption) ?_ | (refine ba_set ?_ ?_ _; rotate_left; (first | omega | (simp; omega) | simp))))⟩
    · have H := Lib.hid (sized_yes hr hd)
      unfold ruleV
      go_enter Try.func36, Try.ntmps36
      go_wp2_with (first
        | (go_at_call 13; refine (avalid_any r _).mono ?_; rintro e w1 ⟨rfl, hb1⟩)
        | (go_at_call 67; refine (ssize_any d _).mono ?_; rintro e w2 ⟨rfl, hb2⟩))
      go_ret
      exact ⟨ret_i H.out.symm, (by repeat (first | exact Below.refl _ _ | assumption | refine ba_alloc ?_ _ | refine ba_drew ?_ | refine ba_drewN ?_ _ | refine ba_via (by assumption) ?_ | (refine ba_set ?_ ?_ _; rotate_left; (first | omega | (simp; omega) | simp))))⟩
theorem rsized_any (r : Rule) (d : Int) (w : World) : Calls Try.prog 15 #[ruleV r, .int .i64 d] w fun e w' => e = .returned (.int .i64 (S.sized r d)) ∧ Below w.heap.size w w' := by
  cases hr : S.rule r
  · have H := Lib.hid (sized_no (d := d) hr)
    unfold ruleV
    go_enter Try.func15, Try.ntmps15
    go_wp2_with (go_at_call 14; refine (rvalid_any r _).mono ?_; rintro e w1 ⟨rfl, hb1⟩)
    go_ret
    exact ⟨ret_i H.out.symm, (by repeat (first | exact Below.refl _ _ | assumption | refine ba_alloc ?_ _ | refine ba_drew ?_ | refine ba_drewN ?_ _ | refine ba_via (by assumption) ?_ | (refine ba_set ?_ ?_ _; rotate_left; (first | omega | (simp; omega) | simp))))⟩
  · cases hd : S.size d
    · have H := Lib.hid (sized_mid hr hd)
      unfold ruleV
      go_enter Try.func15, Try.ntmps15
      go_wp2_with (first
        | (go_at_call 14; refine (rvalid_any r _).mono ?_; rintro e w1 ⟨rfl, hb1⟩)
        | (go_at_call 41; refine (rsize_any d _).mono ?_; rintro e w2 ⟨rfl, hb2⟩))
      go_ret
      exact ⟨ret_i H.out.symm, (by repeat (first | exact Below.refl _ _ | assumption | refine ba_alloc ?_ _ | refine ba_drew ?_ | refine ba_drewN ?_ _ | refine ba_via (by assumption) ?_ | (refine ba_set ?_ ?_ _; rotate_left; (first | omega | (simp; omega) | simp))))⟩
    · have H := Lib.hid (sized_yes hr hd)
      unfold ruleV
      go_enter Try.func15, Try.ntmps15
      go_wp2_with (first
        | (go_at_call 14; refine (rvalid_any r _).mono ?_; rintro e w1 ⟨rfl, hb1⟩)
        | (go_at_call 41; refine (rsize_any d _).mono ?_; rintro e w2 ⟨rfl, hb2⟩))
      go_ret
      exact ⟨ret_i H.out.symm, (by repeat (first | exact Below.refl _ _ | assumption | refine ba_alloc ?_ _ | refine ba_drew ?_ | refine ba_drewN ?_ _ | refine ba_via (by assumption) ?_ | (refine ba_set ?_ ?_ _; rotate_left; (first | omega | (simp; omega) | simp))))⟩

def aBasic (r : Rule) (d : Int) : Int := if S.sized r d = 0 then S.basic r d else 0
def aLength (r : Rule) (d : Int) (p b : Bool) : Int := if S.sized r d = 0 then S.length r d p b else 0
theorem Basic_any (r : Rule) (d : Int) (w : World) : Calls Try.prog 11 #[ruleV r, .int .i64 d] w fun e w' => e = .returned (.tuple #[.int .i64 (aBasic r d), .int .i64 (S.sized r d)]) ∧ Below w.heap.size w w' := by
  by_cases h0 : S.sized r d = 0
  · obtain ⟨hr, hd⟩ := sized_zero h0
    have HR := Lib.hid (rule_ok hr)
    have hbd := size_bd hd
    have H := Lib.hid (show aBasic r d = S.basic r d by simp [aBasic, h0])
    have H0 := Lib.hid h0
    clear hr hd
    unfold ruleV
    go_enter Try.func11, Try.ntmps11
    go_wp2_with (first
      | (go_at_call 36; refine (given_any r d _).mono ?_; rintro e w1 ⟨rfl, hb1⟩; obtain ⟨hc, hf⟩ := bcell hb1)
      | (go_at_call 37; refine (abasic_any r d _ HR.out (by omega) (by omega)).mono ?_; rintro e w2 ⟨rfl, hb2⟩))
    go_ret2
    exact ⟨by rw [H.out, H0.out]; rfl, (by repeat (first | exact Below.refl _ _ | assumption | refine ba_alloc ?_ _ | refine ba_drew ?_ | refine ba_drewN ?_ _ | refine ba_via (by assumption) ?_ | (refine ba_set ?_ ?_ _; rotate_left; (first | omega | (simp; omega) | simp))))⟩
  · have hb : (S.sized r d == 0) = false := by simpa using h0
    have hb' : (S.sized r d != 0) = true := by simp [bne, hb]
    have H := Lib.hid (show aBasic r d = 0 by simp [aBasic, h0])
    clear h0
    unfold ruleV
    go_enter Try.func11, Try.ntmps11
    go_wp2_with (go_at_call 36; refine (given_any r d _).mono ?_; rintro e w1 ⟨rfl, hb1⟩; obtain ⟨hc, hf⟩ := bcell hb1)
    go_ret2
    exact ⟨by rw [H.out]; rfl, (by repeat (first | exact Below.refl _ _ | assumption | refine ba_alloc ?_ _ | refine ba_drew ?_ | refine ba_drewN ?_ _ | refine ba_via (by assumption) ?_ | (refine ba_set ?_ ?_ _; rotate_left; (first | omega | (simp; omega) | simp))))⟩
theorem Length_any (r : Rule) (d : Int) (poor bent : Bool) (w : World) : Calls Try.prog 12 #[ruleV r, .int .i64 d, .bool poor, .bool bent] w fun e w' => e = .returned (.tuple #[.int .i64 (aLength r d poor bent), .int .i64 (S.sized r d)]) ∧ Below w.heap.size w w' := by
  by_cases h0 : S.sized r d = 0
  · obtain ⟨hr, hd⟩ := sized_zero h0
    have HR := Lib.hid (rule_ok hr)
    have hbd := size_bd hd
    have H := Lib.hid (show aLength r d poor bent = S.length r d poor bent by simp [aLength, h0])
    have H0 := Lib.hid h0
    clear hr hd
    unfold ruleV
    go_enter Try.func12, Try.ntmps12
    go_wp2_with (first
      | (go_at_call 36; refine (given_any r d _).mono ?_; rintro e w1 ⟨rfl, hb1⟩; obtain ⟨hc, hf⟩ := bcell hb1)
      | (go_at_call 38; refine (alength_any r d poor bent _ HR.out (by omega) (by omega)).mono ?_; rintro e w2 ⟨rfl, hb2⟩))
    go_ret2
    exact ⟨by rw [H.out, H0.out]; rfl, (by repeat (first | exact Below.refl _ _ | assumption | refine ba_alloc ?_ _ | refine ba_drew ?_ | refine ba_drewN ?_ _ | refine ba_via (by assumption) ?_ | (refine ba_set ?_ ?_ _; rotate_left; (first | omega | (simp; omega) | simp))))⟩
  · have hb : (S.sized r d == 0) = false := by simpa using h0
    have hb' : (S.sized r d != 0) = true := by simp [bne, hb]
    have H := Lib.hid (show aLength r d poor bent = 0 by simp [aLength, h0])
    clear h0
    unfold ruleV
    go_enter Try.func12, Try.ntmps12
    go_wp2_with (go_at_call 36; refine (given_any r d _).mono ?_; rintro e w1 ⟨rfl, hb1⟩; obtain ⟨hc, hf⟩ := bcell hb1)
    go_ret2
    exact ⟨by rw [H.out]; rfl, (by repeat (first | exact Below.refl _ _ | assumption | refine ba_alloc ?_ _ | refine ba_drew ?_ | refine ba_drewN ?_ _ | refine ba_via (by assumption) ?_ | (refine ba_set ?_ ?_ _; rotate_left; (first | omega | (simp; omega) | simp))))⟩
def exRule : Rule := ⟨40, 1, 10, 7, 7, 10, 3, 2, 100⟩
theorem example_any (w : World) : Calls Try.prog 35 #[] w fun e w' => e = .returned (ruleV exRule) ∧ Below w.heap.size w w' := by
  go_enter Try.func35, Try.ntmps35
  go_wp2
  go_returns
  exact ⟨rfl, by go_grown⟩
theorem awake_any (w : World) : Calls Try.prog 10 #[] w fun e w' => e = .returned (.bool true) ∧ Below w.heap.size w w' := by
  have e0 : S.sized exRule 12 = 0 := by decide
  have e1 : aBasic exRule 12 = 480 := by decide
  have e2 : aLength exRule 12 true false = 686 := by decide
  have e3 : aLength exRule 12 false true = 336 := by decide
  have e4 : aLength exRule 12 true true = 481 := by decide
  go_enter Try.func10, Try.ntmps10
  go_wp2_with (first
    | (go_at_call 35; refine (example_any _).mono ?_; rintro e w1 ⟨rfl, hb1⟩)
    | (go_at_call 11; refine (Basic_any exRule 12 _).mono ?_; rintro e w2 ⟨rfl, hb2⟩)
    | (go_at_call 12; refine (Length_any exRule 12 _ _ _).mono ?_; rintro e w3 ⟨rfl, hb3⟩))
  go_ret
  exact ⟨rfl, (by repeat (first | exact Below.refl _ _ | assumption | refine ba_alloc ?_ _ | refine ba_drew ?_ | refine ba_drewN ?_ _ | refine ba_via (by assumption) ?_ | (refine ba_set ?_ ?_ _; rotate_left; (first | omega | (simp; omega) | simp))))⟩
end Go.Proofs.Ytiebbklljckbdaa
