/- Contracts: the moves of the reference for layer 12, one for each code (printed by tools/gen_moves.py). -/
import Derived.Test.YtiebbklljckbdaaLens
import Derived.Test.YtiebbklljckbdaaTail
set_option linter.unusedVariables false
set_option linter.unusedSimpArgs false
namespace Go.Proofs.Ytiebbklljckbdaa
open Go.RowKit
/-- The legs of a bar as moves. -/
def S.moves (b : Bar) : List Pt := (S.legsOf b.code).map fun l => S.step ⟨0, 0, 0⟩ l.2 (b.dims.getD l.1 0)
theorem moves_len (b : Bar) : (S.moves b).length = (S.legsOf b.code).length := by simp [S.moves]
/-- A call hands back points of its own. -/
def GivesPts (l : List Pt) (w : World) (e : Ending) (w' : World) : Prop :=
  ∃ A, e = .returned (.slice A l.length l.length) ∧ Cells w' w'.heap.size A (l.flatMap ptC) ∧ Below w.heap.size w w' ∧ w.heap.size < w'.heap.size
set_option maxRecDepth 100000 in
set_option maxHeartbeats 2000000 in
theorem rmoves_0 (mk : ByteArray) (sz ct : Int) (d0 : Int) (A : Option Addr) (c : Nat) (B : Nat) (w : World) (hB : B ≤ w.heap.size) (hA : BarAt w B A 1 ⟨mk, sz, ct, 0, [d0]⟩) (hd : 1 ≤ d0 ∧ d0 ≤ 262144) :
    Calls Try.prog 90 #[barV ⟨mk, sz, ct, 0, [d0]⟩ A 1 c] w (GivesPts (S.moves ⟨mk, sz, ct, 0, [d0]⟩) w) := by
  have hmv : S.moves ⟨mk, sz, ct, 0, [d0]⟩ = [⟨d0, 0, 0⟩] := by simp [S.moves, S.legsOf, S.step]
  obtain ⟨bd, od, rfl, hbd, hcd⟩ := hA.cells.at_ (by simp)
  have g0 := hcd 0 (.int .i64 d0) rfl
  simp only [Nat.add_zero] at g0
  rw [hmv]
  clear hcd hA hmv
  have hn0 : bd < w.heap.size := by omega
  unfold barV
  go_enter Try.func90, Try.ntmps90
  go_wp2
  go_ret
  refine ⟨some ⟨w.heap.size + 1, 0, none⟩, rfl, ?_, (by repeat (first | exact Below.refl _ _ | assumption | refine ba_alloc ?_ _ | refine ba_drew ?_ | refine ba_drewN ?_ _ | refine ba_via (by assumption) ?_ | (refine ba_set ?_ ?_ _; rotate_left; (first | omega | (simp; omega) | simp)))), by simp; omega⟩
  simpa using Cells.newRow (w.alloc (.cells #[.string mk, .int .i64 sz, .int .i64 ct, .int .i64 0, .slice (some ⟨bd, od, none⟩) 1 c] 55)) #[.int .i64 (d0), .int .i64 (0), .int .i64 (0)] 50 (0, 0)
set_option maxRecDepth 100000 in
set_option maxHeartbeats 2000000 in
theorem rmoves_11 (mk : ByteArray) (sz ct : Int) (d0 d1 : Int) (A : Option Addr) (c : Nat) (B : Nat) (w : World) (hB : B ≤ w.heap.size) (hA : BarAt w B A 2 ⟨mk, sz, ct, 11, [d0, d1]⟩) (hd : 1 ≤ d0 ∧ d0 ≤ 262144 ∧ 1 ≤ d1 ∧ d1 ≤ 262144) :
    Calls Try.prog 90 #[barV ⟨mk, sz, ct, 11, [d0, d1]⟩ A 2 c] w (GivesPts (S.moves ⟨mk, sz, ct, 11, [d0, d1]⟩) w) := by
  have hmv : S.moves ⟨mk, sz, ct, 11, [d0, d1]⟩ = [⟨d0, 0, 0⟩, ⟨0, d1, 0⟩] := by simp [S.moves, S.legsOf, S.step]
  obtain ⟨bd, od, rfl, hbd, hcd⟩ := hA.cells.at_ (by simp)
  have g0 := hcd 0 (.int .i64 d0) rfl
  have g1 := hcd 1 (.int .i64 d1) rfl
  simp only [Nat.add_zero] at g0
  rw [hmv]
  clear hcd hA hmv
  have hn0 : bd < w.heap.size := by omega
  unfold barV
  go_enter Try.func90, Try.ntmps90
  go_wp2
  refine wp_region_grow_tail 8 (by kernel_rfl) (by kernel_rfl) ?_
  simp only [List.take_succ_cons, List.take_zero, List.drop_succ_cons, List.drop_zero]
  repeat (go_big_quiet_step (fail))
  all_goals (refine wpQuiet_nil ?_; intro wg hbwg; obtain ⟨hcwg, hfwg⟩ := bcell hbwg; have hzwg_0 : w.heap.size < wg.heap.size := lt_via hbwg (by first | omega | (simp; done) | (simp; omega)))
  go_wp2
  go_ret
  refine ⟨some ⟨wg.heap.size, 0, none⟩, rfl, ?_, (by repeat (first | exact Below.refl _ _ | assumption | refine ba_alloc ?_ _ | refine ba_drew ?_ | refine ba_drewN ?_ _ | refine ba_via (by assumption) ?_ | (refine ba_set ?_ ?_ _; rotate_left; (first | omega | (simp; omega) | simp)))), by simp; omega⟩
  simpa using Cells.newRow wg #[.int .i64 (d0), .int .i64 (0), .int .i64 (0), .int .i64 (0), .int .i64 (d1), .int .i64 (0)] 50 (0, 0)
set_option maxRecDepth 100000 in
set_option maxHeartbeats 2000000 in
theorem rmoves_21 (mk : ByteArray) (sz ct : Int) (d0 d1 d2 : Int) (A : Option Addr) (c : Nat) (B : Nat) (w : World) (hB : B ≤ w.heap.size) (hA : BarAt w B A 3 ⟨mk, sz, ct, 21, [d0, d1, d2]⟩) (hd : 1 ≤ d0 ∧ d0 ≤ 262144 ∧ 1 ≤ d1 ∧ d1 ≤ 262144 ∧ 1 ≤ d2 ∧ d2 ≤ 262144) :
    Calls Try.prog 90 #[barV ⟨mk, sz, ct, 21, [d0, d1, d2]⟩ A 3 c] w (GivesPts (S.moves ⟨mk, sz, ct, 21, [d0, d1, d2]⟩) w) := by
  have hmv : S.moves ⟨mk, sz, ct, 21, [d0, d1, d2]⟩ = [⟨0, -d0, 0⟩, ⟨d1, 0, 0⟩, ⟨0, d2, 0⟩] := by simp [S.moves, S.legsOf, S.step]
  obtain ⟨bd, od, rfl, hbd, hcd⟩ := hA.cells.at_ (by simp)
  have g0 := hcd 0 (.int .i64 d0) rfl
  have g1 := hcd 1 (.int .i64 d1) rfl
  have g2 := hcd 2 (.int .i64 d2) rfl
  simp only [Nat.add_zero] at g0
  rw [hmv]
  clear hcd hA hmv
  have hn0 : bd < w.heap.size := by omega
  have hw0 : IntKind.i64.wrap (-d0) = -d0 := IntWalk.i64_in _ (by omega)
  unfold barV
  go_enter Try.func90, Try.ntmps90
  go_wp2
  refine wp_region_grow_tail 13 (by kernel_rfl) (by kernel_rfl) ?_
  simp only [List.take_succ_cons, List.take_zero, List.drop_succ_cons, List.drop_zero]
  repeat (go_big_quiet_step (fail))
  all_goals (refine wpQuiet_nil ?_; intro wg hbwg; obtain ⟨hcwg, hfwg⟩ := bcell hbwg; have hzwg_0 : w.heap.size < wg.heap.size := lt_via hbwg (by first | omega | (simp; done) | (simp; omega)))
  go_wp2
  go_ret
  refine ⟨some ⟨wg.heap.size, 0, none⟩, rfl, ?_, (by repeat (first | exact Below.refl _ _ | assumption | refine ba_alloc ?_ _ | refine ba_drew ?_ | refine ba_drewN ?_ _ | refine ba_via (by assumption) ?_ | (refine ba_set ?_ ?_ _; rotate_left; (first | omega | (simp; omega) | simp)))), by simp; omega⟩
  simpa using Cells.newRow wg #[.int .i64 (0), .int .i64 (-d0), .int .i64 (0), .int .i64 (d1), .int .i64 (0), .int .i64 (0), .int .i64 (0), .int .i64 (d2), .int .i64 (0)] 50 (0, 0)
set_option maxRecDepth 100000 in
set_option maxHeartbeats 2000000 in
theorem rmoves_26 (mk : ByteArray) (sz ct : Int) (d0 d1 d2 : Int) (A : Option Addr) (c : Nat) (B : Nat) (w : World) (hB : B ≤ w.heap.size) (hA : BarAt w B A 3 ⟨mk, sz, ct, 26, [d0, d1, d2]⟩) (hd : 1 ≤ d0 ∧ d0 ≤ 262144 ∧ 1 ≤ d1 ∧ d1 ≤ 262144 ∧ 1 ≤ d2 ∧ d2 ≤ 262144) :
    Calls Try.prog 90 #[barV ⟨mk, sz, ct, 26, [d0, d1, d2]⟩ A 3 c] w (GivesPts (S.moves ⟨mk, sz, ct, 26, [d0, d1, d2]⟩) w) := by
  have hmv : S.moves ⟨mk, sz, ct, 26, [d0, d1, d2]⟩ = [⟨d0, 0, 0⟩, ⟨0, d1, 0⟩, ⟨d2, 0, 0⟩] := by simp [S.moves, S.legsOf, S.step]
  obtain ⟨bd, od, rfl, hbd, hcd⟩ := hA.cells.at_ (by simp)
  have g0 := hcd 0 (.int .i64 d0) rfl
  have g1 := hcd 1 (.int .i64 d1) rfl
  have g2 := hcd 2 (.int .i64 d2) rfl
  simp only [Nat.add_zero] at g0
  rw [hmv]
  clear hcd hA hmv
  have hn0 : bd < w.heap.size := by omega
  unfold barV
  go_enter Try.func90, Try.ntmps90
  go_wp2
  refine wp_region_grow_tail 12 (by kernel_rfl) (by kernel_rfl) ?_
  simp only [List.take_succ_cons, List.take_zero, List.drop_succ_cons, List.drop_zero]
  repeat (go_big_quiet_step (fail))
  all_goals (refine wpQuiet_nil ?_; intro wg hbwg; obtain ⟨hcwg, hfwg⟩ := bcell hbwg; have hzwg_0 : w.heap.size < wg.heap.size := lt_via hbwg (by first | omega | (simp; done) | (simp; omega)))
  go_wp2
  go_ret
  refine ⟨some ⟨wg.heap.size, 0, none⟩, rfl, ?_, (by repeat (first | exact Below.refl _ _ | assumption | refine ba_alloc ?_ _ | refine ba_drew ?_ | refine ba_drewN ?_ _ | refine ba_via (by assumption) ?_ | (refine ba_set ?_ ?_ _; rotate_left; (first | omega | (simp; omega) | simp)))), by simp; omega⟩
  simpa using Cells.newRow wg #[.int .i64 (d0), .int .i64 (0), .int .i64 (0), .int .i64 (0), .int .i64 (d1), .int .i64 (0), .int .i64 (d2), .int .i64 (0), .int .i64 (0)] 50 (0, 0)
set_option maxRecDepth 100000 in
set_option maxHeartbeats 2000000 in
theorem rmoves_31 (mk : ByteArray) (sz ct : Int) (d0 d1 d2 : Int) (A : Option Addr) (c : Nat) (B : Nat) (w : World) (hB : B ≤ w.heap.size) (hA : BarAt w B A 3 ⟨mk, sz, ct, 31, [d0, d1, d2]⟩) (hd : 1 ≤ d0 ∧ d0 ≤ 262144 ∧ 1 ≤ d1 ∧ d1 ≤ 262144 ∧ 1 ≤ d2 ∧ d2 ≤ 262144) :
    Calls Try.prog 90 #[barV ⟨mk, sz, ct, 31, [d0, d1, d2]⟩ A 3 c] w (GivesPts (S.moves ⟨mk, sz, ct, 31, [d0, d1, d2]⟩) w) := by
  have hmv : S.moves ⟨mk, sz, ct, 31, [d0, d1, d2]⟩ = [⟨d0, 0, 0⟩, ⟨0, d1, 0⟩, ⟨0, 0, d2⟩] := by simp [S.moves, S.legsOf, S.step]
  obtain ⟨bd, od, rfl, hbd, hcd⟩ := hA.cells.at_ (by simp)
  have g0 := hcd 0 (.int .i64 d0) rfl
  have g1 := hcd 1 (.int .i64 d1) rfl
  have g2 := hcd 2 (.int .i64 d2) rfl
  simp only [Nat.add_zero] at g0
  rw [hmv]
  clear hcd hA hmv
  have hn0 : bd < w.heap.size := by omega
  unfold barV
  go_enter Try.func90, Try.ntmps90
  go_wp2
  refine wp_region_grow_tail 12 (by kernel_rfl) (by kernel_rfl) ?_
  simp only [List.take_succ_cons, List.take_zero, List.drop_succ_cons, List.drop_zero]
  repeat (go_big_quiet_step (fail))
  all_goals (refine wpQuiet_nil ?_; intro wg hbwg; obtain ⟨hcwg, hfwg⟩ := bcell hbwg; have hzwg_0 : w.heap.size < wg.heap.size := lt_via hbwg (by first | omega | (simp; done) | (simp; omega)))
  go_wp2
  go_ret
  refine ⟨some ⟨wg.heap.size, 0, none⟩, rfl, ?_, (by repeat (first | exact Below.refl _ _ | assumption | refine ba_alloc ?_ _ | refine ba_drew ?_ | refine ba_drewN ?_ _ | refine ba_via (by assumption) ?_ | (refine ba_set ?_ ?_ _; rotate_left; (first | omega | (simp; omega) | simp)))), by simp; omega⟩
  simpa using Cells.newRow wg #[.int .i64 (d0), .int .i64 (0), .int .i64 (0), .int .i64 (0), .int .i64 (d1), .int .i64 (0), .int .i64 (0), .int .i64 (0), .int .i64 (d2)] 50 (0, 0)
set_option maxRecDepth 100000 in
set_option maxHeartbeats 2000000 in
theorem rmoves_41 (mk : ByteArray) (sz ct : Int) (d0 d1 d2 d3 d4 : Int) (A : Option Addr) (c : Nat) (B : Nat) (w : World) (hB : B ≤ w.heap.size) (hA : BarAt w B A 5 ⟨mk, sz, ct, 41, [d0, d1, d2, d3, d4]⟩) (hd : 1 ≤ d0 ∧ d0 ≤ 262144 ∧ 1 ≤ d1 ∧ d1 ≤ 262144 ∧ 1 ≤ d2 ∧ d2 ≤ 262144 ∧ 1 ≤ d3 ∧ d3 ≤ 262144 ∧ 1 ≤ d4 ∧ d4 ≤ 262144) :
    Calls Try.prog 90 #[barV ⟨mk, sz, ct, 41, [d0, d1, d2, d3, d4]⟩ A 5 c] w (GivesPts (S.moves ⟨mk, sz, ct, 41, [d0, d1, d2, d3, d4]⟩) w) := by
  have hmv : S.moves ⟨mk, sz, ct, 41, [d0, d1, d2, d3, d4]⟩ = [⟨d0, 0, 0⟩, ⟨0, d1, 0⟩, ⟨d2, 0, 0⟩, ⟨0, -d3, 0⟩, ⟨d4, 0, 0⟩] := by simp [S.moves, S.legsOf, S.step]
  obtain ⟨bd, od, rfl, hbd, hcd⟩ := hA.cells.at_ (by simp)
  have g0 := hcd 0 (.int .i64 d0) rfl
  have g1 := hcd 1 (.int .i64 d1) rfl
  have g2 := hcd 2 (.int .i64 d2) rfl
  have g3 := hcd 3 (.int .i64 d3) rfl
  have g4 := hcd 4 (.int .i64 d4) rfl
  simp only [Nat.add_zero] at g0
  rw [hmv]
  clear hcd hA hmv
  have hn0 : bd < w.heap.size := by omega
  have hw0 : IntKind.i64.wrap (-d3) = -d3 := IntWalk.i64_in _ (by omega)
  unfold barV
  go_enter Try.func90, Try.ntmps90
  go_wp2
  refine wp_region_grow_tail 21 (by kernel_rfl) (by kernel_rfl) ?_
  simp only [List.take_succ_cons, List.take_zero, List.drop_succ_cons, List.drop_zero]
  repeat (go_big_quiet_step (fail))
  all_goals (refine wpQuiet_nil ?_; intro wg hbwg; obtain ⟨hcwg, hfwg⟩ := bcell hbwg; have hzwg_0 : w.heap.size < wg.heap.size := lt_via hbwg (by first | omega | (simp; done) | (simp; omega)))
  go_wp2
  go_ret
  refine ⟨some ⟨wg.heap.size, 0, none⟩, rfl, ?_, (by repeat (first | exact Below.refl _ _ | assumption | refine ba_alloc ?_ _ | refine ba_drew ?_ | refine ba_drewN ?_ _ | refine ba_via (by assumption) ?_ | (refine ba_set ?_ ?_ _; rotate_left; (first | omega | (simp; omega) | simp)))), by simp; omega⟩
  simpa using Cells.newRow wg #[.int .i64 (d0), .int .i64 (0), .int .i64 (0), .int .i64 (0), .int .i64 (d1), .int .i64 (0), .int .i64 (d2), .int .i64 (0), .int .i64 (0), .int .i64 (0), .int .i64 (-d3), .int .i64 (0), .int .i64 (d4), .int .i64 (0), .int .i64 (0)] 50 (0, 0)
set_option maxRecDepth 100000 in
set_option maxHeartbeats 2000000 in
theorem rmoves_51 (mk : ByteArray) (sz ct : Int) (d0 d1 d2 : Int) (A : Option Addr) (c : Nat) (B : Nat) (w : World) (hB : B ≤ w.heap.size) (hA : BarAt w B A 3 ⟨mk, sz, ct, 51, [d0, d1, d2]⟩) (hd : 1 ≤ d0 ∧ d0 ≤ 262144 ∧ 1 ≤ d1 ∧ d1 ≤ 262144 ∧ 1 ≤ d2 ∧ d2 ≤ 262144) :
    Calls Try.prog 90 #[barV ⟨mk, sz, ct, 51, [d0, d1, d2]⟩ A 3 c] w (GivesPts (S.moves ⟨mk, sz, ct, 51, [d0, d1, d2]⟩) w) := by
  have hmv : S.moves ⟨mk, sz, ct, 51, [d0, d1, d2]⟩ = [⟨0, -d2, 0⟩, ⟨d0, 0, 0⟩, ⟨0, d1, 0⟩, ⟨-d0, 0, 0⟩, ⟨0, -d1, 0⟩, ⟨d2, 0, 0⟩] := by simp [S.moves, S.legsOf, S.step]
  obtain ⟨bd, od, rfl, hbd, hcd⟩ := hA.cells.at_ (by simp)
  have g0 := hcd 0 (.int .i64 d0) rfl
  have g1 := hcd 1 (.int .i64 d1) rfl
  have g2 := hcd 2 (.int .i64 d2) rfl
  simp only [Nat.add_zero] at g0
  rw [hmv]
  clear hcd hA hmv
  have hn0 : bd < w.heap.size := by omega
  have hw0 : IntKind.i64.wrap (-d2) = -d2 := IntWalk.i64_in _ (by omega)
  have hw1 : IntKind.i64.wrap (-d0) = -d0 := IntWalk.i64_in _ (by omega)
  have hw2 : IntKind.i64.wrap (-d1) = -d1 := IntWalk.i64_in _ (by omega)
  unfold barV
  go_enter Try.func90, Try.ntmps90
  go_wp2
  refine wp_region_grow_tail 27 (by kernel_rfl) (by kernel_rfl) ?_
  simp only [List.take_succ_cons, List.take_zero, List.drop_succ_cons, List.drop_zero]
  repeat (go_big_quiet_step (fail))
  all_goals (refine wpQuiet_nil ?_; intro wg hbwg; obtain ⟨hcwg, hfwg⟩ := bcell hbwg; have hzwg_0 : w.heap.size < wg.heap.size := lt_via hbwg (by first | omega | (simp; done) | (simp; omega)))
  go_wp2
  go_ret
  refine ⟨some ⟨wg.heap.size, 0, none⟩, rfl, ?_, (by repeat (first | exact Below.refl _ _ | assumption | refine ba_alloc ?_ _ | refine ba_drew ?_ | refine ba_drewN ?_ _ | refine ba_via (by assumption) ?_ | (refine ba_set ?_ ?_ _; rotate_left; (first | omega | (simp; omega) | simp)))), by simp; omega⟩
  simpa using Cells.newRow wg #[.int .i64 (0), .int .i64 (-d2), .int .i64 (0), .int .i64 (d0), .int .i64 (0), .int .i64 (0), .int .i64 (0), .int .i64 (d1), .int .i64 (0), .int .i64 (-d0), .int .i64 (0), .int .i64 (0), .int .i64 (0), .int .i64 (-d1), .int .i64 (0), .int .i64 (d2), .int .i64 (0), .int .i64 (0)] 50 (0, 0)
set_option maxRecDepth 100000 in
set_option maxHeartbeats 2000000 in
theorem rmoves_98 (mk : ByteArray) (sz ct : Int) (d0 d1 d2 : Int) (A : Option Addr) (c : Nat) (B : Nat) (w : World) (hB : B ≤ w.heap.size) (hA : BarAt w B A 3 ⟨mk, sz, ct, 98, [d0, d1, d2]⟩) (hd : 1 ≤ d0 ∧ d0 ≤ 262144 ∧ 1 ≤ d1 ∧ d1 ≤ 262144 ∧ 1 ≤ d2 ∧ d2 ≤ 262144) :
    Calls Try.prog 90 #[barV ⟨mk, sz, ct, 98, [d0, d1, d2]⟩ A 3 c] w (GivesPts (S.moves ⟨mk, sz, ct, 98, [d0, d1, d2]⟩) w) := by
  have hmv : S.moves ⟨mk, sz, ct, 98, [d0, d1, d2]⟩ = [⟨0, 0, d0⟩, ⟨0, -d1, 0⟩, ⟨d2, 0, 0⟩, ⟨0, d1, 0⟩, ⟨0, 0, d0⟩] := by simp [S.moves, S.legsOf, S.step]
  obtain ⟨bd, od, rfl, hbd, hcd⟩ := hA.cells.at_ (by simp)
  have g0 := hcd 0 (.int .i64 d0) rfl
  have g1 := hcd 1 (.int .i64 d1) rfl
  have g2 := hcd 2 (.int .i64 d2) rfl
  simp only [Nat.add_zero] at g0
  rw [hmv]
  clear hcd hA hmv
  have hn0 : bd < w.heap.size := by omega
  have hw0 : IntKind.i64.wrap (-d1) = -d1 := IntWalk.i64_in _ (by omega)
  unfold barV
  go_enter Try.func90, Try.ntmps90
  go_wp2
  refine wp_region_grow_tail 21 (by kernel_rfl) (by kernel_rfl) ?_
  simp only [List.take_succ_cons, List.take_zero, List.drop_succ_cons, List.drop_zero]
  repeat (go_big_quiet_step (fail))
  all_goals (refine wpQuiet_nil ?_; intro wg hbwg; obtain ⟨hcwg, hfwg⟩ := bcell hbwg; have hzwg_0 : w.heap.size < wg.heap.size := lt_via hbwg (by first | omega | (simp; done) | (simp; omega)))
  go_wp2
  go_ret
  refine ⟨some ⟨wg.heap.size, 0, none⟩, rfl, ?_, (by repeat (first | exact Below.refl _ _ | assumption | refine ba_alloc ?_ _ | refine ba_drew ?_ | refine ba_drewN ?_ _ | refine ba_via (by assumption) ?_ | (refine ba_set ?_ ?_ _; rotate_left; (first | omega | (simp; omega) | simp)))), by simp; omega⟩
  simpa using Cells.newRow wg #[.int .i64 (0), .int .i64 (0), .int .i64 (d0), .int .i64 (0), .int .i64 (-d1), .int .i64 (0), .int .i64 (d2), .int .i64 (0), .int .i64 (0), .int .i64 (0), .int .i64 (d1), .int .i64 (0), .int .i64 (0), .int .i64 (0), .int .i64 (d0)] 50 (0, 0)
theorem rmoves_any (b : Bar) (A : Option Addr) (n c : Nat) (B : Nat) (w : World) (hB : B ≤ w.heap.size) (hA : BarAt w B A n b) (h : S.bar b = true) :
    Calls Try.prog 90 #[barV b A n c] w (GivesPts (S.moves b) w) := by
  obtain rfl := hA.len
  obtain ⟨mk, sz, ct, cd, ds⟩ := b
  rcases bar_codes h with ⟨hc, a, e, h1, h2⟩ | ⟨hc, a, a2, e, h1, h2, h3⟩ | ⟨hc, a, a2, a3, e, h1, h2, h3, h4⟩ | ⟨hc, a, a2, a3, a4, a5, e, h1, h2, h3, h4, h5, h6⟩
  · simp only [] at hc e
    subst hc e
    exact rmoves_0 mk sz ct a A c B w hB hA (by omega)
  · simp only [] at hc e
    subst hc e
    exact rmoves_11 mk sz ct a a2 A c B w hB hA (by omega)
  · simp only [] at hc e
    rcases hc with hc | hc | hc | hc | hc <;> subst hc e
    · exact rmoves_21 mk sz ct a a2 a3 A c B w hB hA (by omega)
    · exact rmoves_26 mk sz ct a a2 a3 A c B w hB hA (by omega)
    · exact rmoves_31 mk sz ct a a2 a3 A c B w hB hA (by omega)
    · exact rmoves_51 mk sz ct a a2 a3 A c B w hB hA (by omega)
    · exact rmoves_98 mk sz ct a a2 a3 A c B w hB hA (by omega)
  · simp only [] at hc e
    subst hc e
    exact rmoves_41 mk sz ct a a2 a3 a4 a5 A c B w hB hA (by omega)
def S.abs (n : Int) : Int := if n < 0 then 0 - n else n
theorem rsize12_any (x : Int) (w : World) (hx : -9000000 ≤ x ∧ x ≤ 9000000) :
    Calls Try.prog 91 #[.int .i64 x] w fun e w' => e = .returned (.int .i64 (S.abs x)) ∧ w = w' := by
  have H := Lib.hid (show S.abs x = if x < 0 then 0 - x else x from rfl)
  have e1 : IntKind.i64.wrap (0 - x) = 0 - x := IntWalk.i64_in _ (by omega)
  have e2 : IntKind.i64.wrap (-x) = -x := IntWalk.i64_in _ (by omega)
  go_enter Try.func91, Try.ntmps91
  go_wp2
  all_goals (go_ret; exact ⟨ret_i (by rw [H.out]; split <;> omega), rfl⟩)
end Go.Proofs.Ytiebbklljckbdaa
