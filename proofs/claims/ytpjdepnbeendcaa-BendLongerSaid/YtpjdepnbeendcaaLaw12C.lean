/- The walk of ShapeCodes. -/
import Derived.Test.YtpjdepnbeendcaaRef12
set_option linter.unusedVariables false
set_option linter.unusedSimpArgs false
namespace Go.Proofs.Ytpjdepnbeendcaa
open Go.RowKit
theorem eqi_refl (l : List Int) : S.eqi l l = true := by simp [S.eqi]
theorem equal_same (A A' : Option Addr) (n c c' : Nat) (xs : List Int) (B : Nat) (w : World) (hB : B ≤ w.heap.size) (hn : xs.length = n) (hn' : n ≤ 9223372036854775807) (hx : Cells w B A (i64s xs)) (hy : Cells w B A' (i64s xs)) :
    Calls Try.prog 24 #[.slice A n c, .slice A' n c'] w fun e w' => e = .returned (.bool true) ∧ Below w.heap.size w w' := by
  have := equal_any A A' n n c c' xs xs B w hB hn hn hn' hn' hx hy
  rwa [eqi_refl] at this
theorem dimsErr_bad {c : Int} (h : S.dimsOf c = 0) : S.dimsErr c = 11 := by simp [S.dimsErr, h]
theorem dimsErr_good {c : Int} (h : S.dimsOf c ≠ 0) : S.dimsErr c = 0 := by simp [S.dimsErr, h]
set_option maxHeartbeats 1000000 in
theorem codes_walk (code : Int) (w : World) :
    Calls Try.prog 5 #[.int .i64 code] w fun e w' => e = .returned (.bool true) ∧ Below w.heap.size w w' := by
  by_cases hd : S.dimsOf code = 0
  · have he := dimsErr_bad hd
    go_enter Try.func5, Try.ntmps5
    go_wp2_with (first
      | (go_at_call 17; (with_reducible refine (awake12_any _).mono ?_); rintro e w1 ⟨rfl, hbw1⟩; obtain ⟨hcw1, hfw1⟩ := bcell hbw1)
      | (go_at_call 23; (with_reducible refine (dims_any code _).mono ?_); rintro e w2 ⟨rfl, hbw2⟩; obtain ⟨hcw2, hfw2⟩ := bcell hbw2)
      | (go_at_call 25; (with_reducible refine (codes_any _).mono ?_); rintro e w3 ⟨rfl, hl3, hs3, hbw3⟩)
      | (go_at_call 26; (with_reducible refine (rcodes_any _).mono ?_); rintro e w4 ⟨rfl, hl4, hs4, hbw4⟩; have hs3' := (hs3.mono (by omega)).below hbw4)
      | (go_at_call 24; (with_reducible refine (equal_same _ _ 8 8 8 S.codes _ _ (by omega) rfl (by decide) (hs3'.mono (by omega)) hs4).mono ?_); rintro e w5 ⟨rfl, hbw5⟩; obtain ⟨hcw5, hfw5⟩ := bcell hbw5)
      | (go_at_call 27; (with_reducible refine (rdims_any code _).mono ?_); rintro e w6 ⟨rfl, hbw6⟩; obtain ⟨hcw6, hfw6⟩ := bcell hbw6))
    go_ret
    exact ⟨rfl, (by repeat (first | exact Below.refl _ _ | assumption | refine ba_alloc ?_ _ | refine ba_drew ?_ | refine ba_drewN ?_ _ | refine ba_via (by assumption) ?_ | (refine ba_set ?_ ?_ _; rotate_left; (first | omega | (simp; omega) | simp))))⟩
  · have he := dimsErr_good hd
    have hd' : (S.dimsOf code == 0) = false := by simpa using hd
    clear hd
    go_enter Try.func5, Try.ntmps5
    go_wp2_with (first
      | (go_at_call 17; (with_reducible refine (awake12_any _).mono ?_); rintro e w1 ⟨rfl, hbw1⟩; obtain ⟨hcw1, hfw1⟩ := bcell hbw1)
      | (go_at_call 23; (with_reducible refine (dims_any code _).mono ?_); rintro e w2 ⟨rfl, hbw2⟩; obtain ⟨hcw2, hfw2⟩ := bcell hbw2)
      | (go_at_call 25; (with_reducible refine (codes_any _).mono ?_); rintro e w3 ⟨rfl, hl3, hs3, hbw3⟩)
      | (go_at_call 26; (with_reducible refine (rcodes_any _).mono ?_); rintro e w4 ⟨rfl, hl4, hs4, hbw4⟩; have hs3' := (hs3.mono (by omega)).below hbw4)
      | (go_at_call 24; (with_reducible refine (equal_same _ _ 8 8 8 S.codes _ _ (by omega) rfl (by decide) (hs3'.mono (by omega)) hs4).mono ?_); rintro e w5 ⟨rfl, hbw5⟩; obtain ⟨hcw5, hfw5⟩ := bcell hbw5)
      | (go_at_call 27; (with_reducible refine (rdims_any code _).mono ?_); rintro e w6 ⟨rfl, hbw6⟩; obtain ⟨hcw6, hfw6⟩ := bcell hbw6))
    go_ret
    exact ⟨rfl, (by repeat (first | exact Below.refl _ _ | assumption | refine ba_alloc ?_ _ | refine ba_drew ?_ | refine ba_drewN ?_ _ | refine ba_via (by assumption) ?_ | (refine ba_set ?_ ?_ _; rotate_left; (first | omega | (simp; omega) | simp))))⟩
end Go.Proofs.Ytpjdepnbeendcaa
