/- AnchorLengths returns true for every rule, size, and pair of bools. No condition. -/
import Derived.Test.YtiebbklljckbdaaAnchC
import Derived.Test.YtiebbklljckbdaaOpenA
set_option linter.unusedVariables false
namespace Go.Proofs.Ytiebbklljckbdaa
open Go.RowKit

theorem lengths_walk (r : Rule) (d : Int) (poor bent : Bool) (w : World) :
    Calls Try.prog 3 #[ruleV r, .int .i64 d, .bool poor, .bool bent] w fun e w' => e = .returned (.bool true) ∧ Below w.heap.size w w' := by
  by_cases h0 : S.sized r d = 0
  · obtain ⟨hr, hd⟩ := sized_zero h0
    have HR := Lib.hid (rule_ok hr)
    have hbd := size_bd hd
    have e1 : aBasic r d = S.basic r d := by simp [aBasic, h0]
    have e2 : aLength r d poor bent = S.length r d poor bent := by simp [aLength, h0]
    clear hr hd
    unfold ruleV
    go_enter Try.func3, Try.ntmps3
    go_wp2_with (first
      | (go_at_call 10; refine (awake_any _).mono ?_; rintro e w1 ⟨rfl, hbw1⟩; obtain ⟨hcw1, hfw1⟩ := bcell hbw1; have hzw1_0 : w.heap.size < w1.heap.size := by (have := hbw1.size; (try simp at this); omega))
      | (go_at_call 11; refine (Basic_any r d _).mono ?_; rintro e w2 ⟨rfl, hbw2⟩; obtain ⟨hcw2, hfw2⟩ := bcell hbw2; have hzw2_0 : w.heap.size < w2.heap.size := by (have := hbw2.size; (try simp at this); omega))
      | (go_at_call 12; refine (Length_any r d poor bent _).mono ?_; rintro e w3 ⟨rfl, hbw3⟩; obtain ⟨hcw3, hfw3⟩ := bcell hbw3; have hzw3_0 : w.heap.size < w3.heap.size := by (have := hbw3.size; (try simp at this); omega)))
    refine wp_region_grow (by kernel_rfl) (by kernel_rfl) ?_
    repeat (go_big_quiet_step ((first | (go_at_call 13; exact grow_of (avalid_any r _)) | (go_at_call 14; exact grow_of (rvalid_any r _)))))
    all_goals (refine wpQuiet_nil ?_; intro wg hbwg; obtain ⟨hcwg, hfwg⟩ := bcell hbwg; have hzwg_0 : w.heap.size < wg.heap.size := by (have := hbwg.size; (try simp at this); omega))
    go_wp2_with (first
      | (go_at_call 15; refine (rsized_any r d _).mono ?_; rintro e w4 ⟨rfl, hbw4⟩; obtain ⟨hcw4, hfw4⟩ := bcell hbw4; have hzw4_0 : w.heap.size < w4.heap.size := by (have := hbw4.size; (try simp at this); omega))
      | (go_at_call 16; refine (rbasic_any r d _ HR.out (by omega) (by omega)).mono ?_; rintro e w5 ⟨rfl, hbw5⟩; obtain ⟨hcw5, hfw5⟩ := bcell hbw5; have hzw5_0 : w.heap.size < w5.heap.size := by (have := hbw5.size; (try simp at this); omega))
      | (go_at_call 17; refine (rlength_any r d poor bent _ HR.out (by omega) (by omega)).mono ?_; rintro e w6 ⟨rfl, hbw6⟩; obtain ⟨hcw6, hfw6⟩ := bcell hbw6; have hzw6_0 : w.heap.size < w6.heap.size := by (have := hbw6.size; (try simp at this); omega)))
    go_ret
    exact ⟨rfl, (by repeat (first | exact Below.refl _ _ | assumption | refine ba_alloc ?_ _ | refine ba_drew ?_ | refine ba_drewN ?_ _ | refine ba_via (by assumption) ?_ | (refine ba_set ?_ ?_ _; rotate_left; (first | omega | (simp; omega) | simp))))⟩
  · have hb : (S.sized r d == 0) = false := by simpa using h0
    have hb' : (S.sized r d != 0) = true := by simp [bne, hb]
    have e1 : aBasic r d = 0 := by simp [aBasic, h0]
    have e2 : aLength r d poor bent = 0 := by simp [aLength, h0]
    clear h0
    unfold ruleV
    go_enter Try.func3, Try.ntmps3
    go_wp2_with (first
      | (go_at_call 10; refine (awake_any _).mono ?_; rintro e w1 ⟨rfl, hbw1⟩; obtain ⟨hcw1, hfw1⟩ := bcell hbw1; have hzw1_0 : w.heap.size < w1.heap.size := by (have := hbw1.size; (try simp at this); omega))
      | (go_at_call 11; refine (Basic_any r d _).mono ?_; rintro e w2 ⟨rfl, hbw2⟩; obtain ⟨hcw2, hfw2⟩ := bcell hbw2; have hzw2_0 : w.heap.size < w2.heap.size := by (have := hbw2.size; (try simp at this); omega))
      | (go_at_call 12; refine (Length_any r d poor bent _).mono ?_; rintro e w3 ⟨rfl, hbw3⟩; obtain ⟨hcw3, hfw3⟩ := bcell hbw3; have hzw3_0 : w.heap.size < w3.heap.size := by (have := hbw3.size; (try simp at this); omega)))
    refine wp_region_grow (by kernel_rfl) (by kernel_rfl) ?_
    repeat (go_big_quiet_step ((first | (go_at_call 13; exact grow_of (avalid_any r _)) | (go_at_call 14; exact grow_of (rvalid_any r _)))))
    all_goals (refine wpQuiet_nil ?_; intro wg hbwg; obtain ⟨hcwg, hfwg⟩ := bcell hbwg; have hzwg_0 : w.heap.size < wg.heap.size := by (have := hbwg.size; (try simp at this); omega))
    go_wp2_with (first
      | (go_at_call 15; refine (rsized_any r d _).mono ?_; rintro e w4 ⟨rfl, hbw4⟩; obtain ⟨hcw4, hfw4⟩ := bcell hbw4; have hzw4_0 : w.heap.size < w4.heap.size := by (have := hbw4.size; (try simp at this); omega)))
    go_ret
    exact ⟨rfl, (by repeat (first | exact Below.refl _ _ | assumption | refine ba_alloc ?_ _ | refine ba_drew ?_ | refine ba_drewN ?_ _ | refine ba_via (by assumption) ?_ | (refine ba_set ?_ ?_ _; rotate_left; (first | omega | (simp; omega) | simp))))⟩
end Go.Proofs.Ytiebbklljckbdaa
