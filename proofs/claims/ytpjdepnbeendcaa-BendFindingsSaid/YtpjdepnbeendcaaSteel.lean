/- Contracts: steel.sized, Bend, Mass; the reference's Bend and Mass. -/
import Derived.Test.YtpjdepnbeendcaaSpecBend
set_option linter.unusedVariables false
set_option linter.unusedSimpArgs false
namespace Go.Proofs.Ytpjdepnbeendcaa
open Go.RowKit
/-- What a function value without arguments answers: v, and memory of its own at most. -/
def Tells (w : World) (F : Nat) (fst cap : Array Value) (v : Int) : Prop :=
  ∀ (w' : World), Below w.heap.size w w' → Calls Try.prog F (fst ++ cap) w' fun e w'' => e = .returned (.int .i64 v) ∧ Below w'.heap.size w' w''
theorem sized_no (F : Nat) (fst cap : Array Value) (d : Int) (w : World) (h : S.size d = false) :
    Calls Try.prog 71 #[.int .i64 d, .func (.func F) fst cap] w fun e w' => e = .returned (.tuple #[.int .i64 0, .int .i64 1]) ∧ Below w.heap.size w w' := by
  go_enter Try.func71, Try.ntmps71
  go_wp2_with (go_at_call 66; (with_reducible refine (ssize_any d _).mono ?_); rintro e w1 ⟨rfl, hbw1⟩; obtain ⟨hcw1, hfw1⟩ := bcell hbw1)
  go_ret2
  exact ⟨rfl, (by repeat (first | exact Below.refl _ _ | assumption | refine ba_alloc ?_ _ | refine ba_drew ?_ | refine ba_drewN ?_ _ | refine ba_via (by assumption) ?_ | (refine ba_set ?_ ?_ _; rotate_left; (first | omega | (simp; omega) | simp))))⟩
theorem sized_yes (F : Nat) (fst cap : Array Value) (d v : Int) (w : World) (h : S.size d = true) (hF : ∀ args w, Sem.run Try.prog (callFunc F args) w = .ok (.enter F args) w) (hf : Tells w F fst cap v) :
    Calls Try.prog 71 #[.int .i64 d, .func (.func F) fst cap] w fun e w' => e = .returned (.tuple #[.int .i64 v, .int .i64 0]) ∧ Below w.heap.size w w' := by
  go_enter Try.func71, Try.ntmps71
  go_wp2_with (first
    | (go_at_call 66; (with_reducible refine (ssize_any d _).mono ?_); rintro e w1 ⟨rfl, hbw1⟩; obtain ⟨hcw1, hfw1⟩ := bcell hbw1)
    | (refine (hf _ hbw1).mono ?_; rintro e w2 ⟨rfl, hbw2⟩))
  go_ret2
  exact ⟨rfl, (by repeat (first | exact Below.refl _ _ | assumption | refine ba_alloc ?_ _ | refine ba_drew ?_ | refine ba_drewN ?_ _ | refine ba_via (by assumption) ?_ | (refine ba_set ?_ ?_ _; rotate_left; (first | omega | (simp; omega) | simp))))⟩
theorem bend1_any (d : Int) (g : Nat) (w : World) (hc : w.cell? ⟨g, 0, none⟩ = some (.int .i64 d)) (h : S.size d = true) :
    Calls Try.prog 72 #[.pointer (some ⟨g, 0, none⟩)] w fun e w' => e = .returned (.int .i64 (S.radius d)) ∧ Below w.heap.size w w' := by
  rcases size_cases h with rfl | rfl | rfl | rfl | rfl | rfl | rfl | rfl | rfl
  all_goals (
    go_enter Try.func72, Try.ntmps72
    go_wp2
    go_ret
    exact ⟨rfl, Below.refl _ _⟩)
theorem sbend_no (d : Int) (w : World) (h : S.size d = false) :
    Calls Try.prog 40 #[.int .i64 d] w fun e w' => e = .returned (.tuple #[.int .i64 0, .int .i64 1]) ∧ Below w.heap.size w w' := by
  go_enter Try.func40, Try.ntmps40
  go_wp2_with (go_at_call 71; (with_reducible refine (sized_no _ _ _ d _ h).mono ?_); rintro e w1 ⟨rfl, hbw1⟩; obtain ⟨hcw1, hfw1⟩ := bcell hbw1; have hzw1_0 : w.heap.size < w1.heap.size := lt_via hbw1 (by first | omega | (simp; done) | (simp; omega)))
  go_ret2
  exact ⟨rfl, (by repeat (first | exact Below.refl _ _ | assumption | refine ba_alloc ?_ _ | refine ba_drew ?_ | refine ba_drewN ?_ _ | refine ba_via (by assumption) ?_ | (refine ba_set ?_ ?_ _; rotate_left; (first | omega | (simp; omega) | simp))))⟩
theorem sbend_yes (d : Int) (w : World) (h : S.size d = true) :
    Calls Try.prog 40 #[.int .i64 d] w fun e w' => e = .returned (.tuple #[.int .i64 (S.radius d), .int .i64 0]) ∧ Below w.heap.size w w' := by
  have hf : Tells (w.alloc (.cells #[.int .i64 d] 3)) 72 #[] #[.pointer (some ⟨w.heap.size, 0, none⟩)] (S.radius d) := fun w' hb =>
    bend1_any d w.heap.size w' ((hb.cell (p := ⟨w.heap.size, 0, none⟩) (by simp)).trans (by simp)) h
  go_enter Try.func40, Try.ntmps40
  go_wp2_with (go_at_call 71; (with_reducible refine (sized_yes _ _ _ d (S.radius d) _ h Try.call72 hf).mono ?_); rintro e w1 ⟨rfl, hbw1⟩; obtain ⟨hcw1, hfw1⟩ := bcell hbw1; have hzw1_0 : w.heap.size < w1.heap.size := lt_via hbw1 (by first | omega | (simp; done) | (simp; omega)))
  go_ret2
  exact ⟨rfl, (by repeat (first | exact Below.refl _ _ | assumption | refine ba_alloc ?_ _ | refine ba_drew ?_ | refine ba_drewN ?_ _ | refine ba_via (by assumption) ?_ | (refine ba_set ?_ ?_ _; rotate_left; (first | omega | (simp; omega) | simp))))⟩
end Go.Proofs.Ytpjdepnbeendcaa
