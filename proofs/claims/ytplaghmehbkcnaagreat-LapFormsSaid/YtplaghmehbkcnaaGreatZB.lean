/- Contracts: the moves of the reference for layer 12, one for each code (printed by tools/gen_moves.py). Contract: Path of the reference for layer 12. A region that draws its order: its first operation yields the same in every world and may come late; the next ones only read or call for plain values; the last ones write, in a forced order. Contract: points of the reference for layer 16. Contracts of the reference for layers 14 and 16: Valid (14), run where it says no. A region that draws its order, whose operations yield values that only have a property (addresses of memory just made): in whatever order they come. A region that draws its order, some of whose operations only read, and the others make memory or call, one behind the other: walked in the order of the text. Contracts of the reference for layer 16: run, Valid. -/
import Derived.Test.YtplaghmehbkcnaaGreatZA
import Derived.Test.YtplaghmehbkcnaaGreatTail
import Derived.Test.YtplaghmehbkcnaaGreatMainA
import Derived.Test.YtplaghmehbkcnaaGreatBoxB
import Derived.Test.YtplaghmehbkcnaaGreatRow
import Derived.Deep.MidRow
set_option linter.unusedVariables false
set_option linter.unusedSimpArgs false
namespace Go.Proofs.YtplaghmehbkcnaaGreat
open Go.RowKit
/-- The legs of a bar as moves. -/
def S.moves (b : Bar) : List Pt := (S.legsOf b.code).map fun l => S.step ⟨0, 0, 0⟩ l.2 (b.dims.getD l.1 0)
theorem moves_len (b : Bar) : (S.moves b).length = (S.legsOf b.code).length := by simp [S.moves]
/-- A call hands back points of its own. -/
def GivesPts (l : List Pt) (w : World) (e : Ending) (w' : World) : Prop :=
  ∃ A, e = .returned (.slice A l.length l.length) ∧ Cells w' w'.heap.size A (l.flatMap ptC) ∧ Below w.heap.size w w' ∧ w.heap.size < w'.heap.size
set_option maxRecDepth 100000 in
set_option maxHeartbeats 2000000 in
theorem rmoves_0 (mk : ByteArray) (sz ct : Int) (d0 : Int) (A : Option Addr) (c : Nat) (B : Nat) (w : World) (hB : B ≤ w.heap.size) (hA : BarAt w B A 1 ⟨mk, sz, ct, 0, [d0]⟩) (hd : 1 ≤ d0 ∧ d0 ≤ 262144) :
    Calls Tryz.prog 174 #[barV ⟨mk, sz, ct, 0, [d0]⟩ A 1 c] w (GivesPts (S.moves ⟨mk, sz, ct, 0, [d0]⟩) w) := by
  have hmv : S.moves ⟨mk, sz, ct, 0, [d0]⟩ = [⟨d0, 0, 0⟩] := by simp [S.moves, S.legsOf, S.step]
  obtain ⟨bd, od, rfl, hbd, hcd⟩ := hA.cells.at_ (by simp)
  have g0 := hcd 0 (.int .i64 d0) rfl
  simp only [Nat.add_zero] at g0
  rw [hmv]
  clear hcd hA hmv
  have hn0 : bd < w.heap.size := by omega
  unfold barV
  go_enter Tryz.func174, Tryz.ntmps174
  go_wp2
  go_ret
  refine ⟨some ⟨w.heap.size + 1, 0, none⟩, rfl, ?_, (by repeat (first | exact Below.refl _ _ | assumption | refine ba_alloc ?_ _ | refine ba_drew ?_ | refine ba_drewN ?_ _ | refine ba_via (by assumption) ?_ | (refine ba_set ?_ ?_ _; rotate_left; (first | omega | (simp; omega) | simp)))), by simp; omega⟩
  simpa using Cells.newRow (w.alloc (.cells #[.string mk, .int .i64 sz, .int .i64 ct, .int .i64 0, .slice (some ⟨bd, od, none⟩) 1 c] 119)) #[.int .i64 (d0), .int .i64 (0), .int .i64 (0)] 96 (0, 0)
set_option maxRecDepth 100000 in
set_option maxHeartbeats 2000000 in
theorem rmoves_11 (mk : ByteArray) (sz ct : Int) (d0 d1 : Int) (A : Option Addr) (c : Nat) (B : Nat) (w : World) (hB : B ≤ w.heap.size) (hA : BarAt w B A 2 ⟨mk, sz, ct, 11, [d0, d1]⟩) (hd : 1 ≤ d0 ∧ d0 ≤ 262144 ∧ 1 ≤ d1 ∧ d1 ≤ 262144) :
    Calls Tryz.prog 174 #[barV ⟨mk, sz, ct, 11, [d0, d1]⟩ A 2 c] w (GivesPts (S.moves ⟨mk, sz, ct, 11, [d0, d1]⟩) w) := by
  have hmv : S.moves ⟨mk, sz, ct, 11, [d0, d1]⟩ = [⟨d0, 0, 0⟩, ⟨0, d1, 0⟩] := by simp [S.moves, S.legsOf, S.step]
  obtain ⟨bd, od, rfl, hbd, hcd⟩ := hA.cells.at_ (by simp)
  have g0 := hcd 0 (.int .i64 d0) rfl
  have g1 := hcd 1 (.int .i64 d1) rfl
  simp only [Nat.add_zero] at g0
  rw [hmv]
  clear hcd hA hmv
  have hn0 : bd < w.heap.size := by omega
  unfold barV
  go_enter Tryz.func174, Tryz.ntmps174
  go_wp2
  refine wp_region_grow_tail 8 (by kernel_rfl) (by kernel_rfl) ?_
  simp only [List.take_succ_cons, List.take_zero, List.drop_succ_cons, List.drop_zero]
  repeat (go_big_quiet_step (fail))
  all_goals (refine wpQuiet_nil ?_; intro wg hbwg; obtain ⟨hcwg, hfwg⟩ := bcell hbwg; have hzwg_0 : w.heap.size < wg.heap.size := lt_via hbwg (by first | omega | (simp; done) | (simp; omega)))
  go_wp2
  go_ret
  refine ⟨some ⟨wg.heap.size, 0, none⟩, rfl, ?_, (by repeat (first | exact Below.refl _ _ | assumption | refine ba_alloc ?_ _ | refine ba_drew ?_ | refine ba_drewN ?_ _ | refine ba_via (by assumption) ?_ | (refine ba_set ?_ ?_ _; rotate_left; (first | omega | (simp; omega) | simp)))), by simp; omega⟩
  simpa using Cells.newRow wg #[.int .i64 (d0), .int .i64 (0), .int .i64 (0), .int .i64 (0), .int .i64 (d1), .int .i64 (0)] 96 (0, 0)
set_option maxRecDepth 100000 in
set_option maxHeartbeats 2000000 in
theorem rmoves_21 (mk : ByteArray) (sz ct : Int) (d0 d1 d2 : Int) (A : Option Addr) (c : Nat) (B : Nat) (w : World) (hB : B ≤ w.heap.size) (hA : BarAt w B A 3 ⟨mk, sz, ct, 21, [d0, d1, d2]⟩) (hd : 1 ≤ d0 ∧ d0 ≤ 262144 ∧ 1 ≤ d1 ∧ d1 ≤ 262144 ∧ 1 ≤ d2 ∧ d2 ≤ 262144) :
    Calls Tryz.prog 174 #[barV ⟨mk, sz, ct, 21, [d0, d1, d2]⟩ A 3 c] w (GivesPts (S.moves ⟨mk, sz, ct, 21, [d0, d1, d2]⟩) w) := by
  have hmv : S.moves ⟨mk, sz, ct, 21, [d0, d1, d2]⟩ = [⟨0, -d0, 0⟩, ⟨d1, 0, 0⟩, ⟨0, d2, 0⟩] := by simp [S.moves, S.legsOf, S.step]
  obtain ⟨bd, od, rfl, hbd, hcd⟩ := hA.cells.at_ (by simp)
  have g0 := hcd 0 (.int .i64 d0) rfl
  have g1 := hcd 1 (.int .i64 d1) rfl
  have g2 := hcd 2 (.int .i64 d2) rfl
  simp only [Nat.add_zero] at g0
  rw [hmv]
  clear hcd hA hmv
  have hn0 : bd < w.heap.size := by omega
  have hw0 : IntKind.i64.wrap (-d0) = -d0 := IntWalk.i64_in _ (by omega)
  unfold barV
  go_enter Tryz.func174, Tryz.ntmps174
  go_wp2
  refine wp_region_grow_tail 13 (by kernel_rfl) (by kernel_rfl) ?_
  simp only [List.take_succ_cons, List.take_zero, List.drop_succ_cons, List.drop_zero]
  repeat (go_big_quiet_step (fail))
  all_goals (refine wpQuiet_nil ?_; intro wg hbwg; obtain ⟨hcwg, hfwg⟩ := bcell hbwg; have hzwg_0 : w.heap.size < wg.heap.size := lt_via hbwg (by first | omega | (simp; done) | (simp; omega)))
  go_wp2
  go_ret
  refine ⟨some ⟨wg.heap.size, 0, none⟩, rfl, ?_, (by repeat (first | exact Below.refl _ _ | assumption | refine ba_alloc ?_ _ | refine ba_drew ?_ | refine ba_drewN ?_ _ | refine ba_via (by assumption) ?_ | (refine ba_set ?_ ?_ _; rotate_left; (first | omega | (simp; omega) | simp)))), by simp; omega⟩
  simpa using Cells.newRow wg #[.int .i64 (0), .int .i64 (-d0), .int .i64 (0), .int .i64 (d1), .int .i64 (0), .int .i64 (0), .int .i64 (0), .int .i64 (d2), .int .i64 (0)] 96 (0, 0)
set_option maxRecDepth 100000 in
set_option maxHeartbeats 2000000 in
theorem rmoves_26 (mk : ByteArray) (sz ct : Int) (d0 d1 d2 : Int) (A : Option Addr) (c : Nat) (B : Nat) (w : World) (hB : B ≤ w.heap.size) (hA : BarAt w B A 3 ⟨mk, sz, ct, 26, [d0, d1, d2]⟩) (hd : 1 ≤ d0 ∧ d0 ≤ 262144 ∧ 1 ≤ d1 ∧ d1 ≤ 262144 ∧ 1 ≤ d2 ∧ d2 ≤ 262144) :
    Calls Tryz.prog 174 #[barV ⟨mk, sz, ct, 26, [d0, d1, d2]⟩ A 3 c] w (GivesPts (S.moves ⟨mk, sz, ct, 26, [d0, d1, d2]⟩) w) := by
  have hmv : S.moves ⟨mk, sz, ct, 26, [d0, d1, d2]⟩ = [⟨d0, 0, 0⟩, ⟨0, d1, 0⟩, ⟨d2, 0, 0⟩] := by simp [S.moves, S.legsOf, S.step]
  obtain ⟨bd, od, rfl, hbd, hcd⟩ := hA.cells.at_ (by simp)
  have g0 := hcd 0 (.int .i64 d0) rfl
  have g1 := hcd 1 (.int .i64 d1) rfl
  have g2 := hcd 2 (.int .i64 d2) rfl
  simp only [Nat.add_zero] at g0
  rw [hmv]
  clear hcd hA hmv
  have hn0 : bd < w.heap.size := by omega
  unfold barV
  go_enter Tryz.func174, Tryz.ntmps174
  go_wp2
  refine wp_region_grow_tail 12 (by kernel_rfl) (by kernel_rfl) ?_
  simp only [List.take_succ_cons, List.take_zero, List.drop_succ_cons, List.drop_zero]
  repeat (go_big_quiet_step (fail))
  all_goals (refine wpQuiet_nil ?_; intro wg hbwg; obtain ⟨hcwg, hfwg⟩ := bcell hbwg; have hzwg_0 : w.heap.size < wg.heap.size := lt_via hbwg (by first | omega | (simp; done) | (simp; omega)))
  go_wp2
  go_ret
  refine ⟨some ⟨wg.heap.size, 0, none⟩, rfl, ?_, (by repeat (first | exact Below.refl _ _ | assumption | refine ba_alloc ?_ _ | refine ba_drew ?_ | refine ba_drewN ?_ _ | refine ba_via (by assumption) ?_ | (refine ba_set ?_ ?_ _; rotate_left; (first | omega | (simp; omega) | simp)))), by simp; omega⟩
  simpa using Cells.newRow wg #[.int .i64 (d0), .int .i64 (0), .int .i64 (0), .int .i64 (0), .int .i64 (d1), .int .i64 (0), .int .i64 (d2), .int .i64 (0), .int .i64 (0)] 96 (0, 0)
set_option maxRecDepth 100000 in
set_option maxHeartbeats 2000000 in
theorem rmoves_31 (mk : ByteArray) (sz ct : Int) (d0 d1 d2 : Int) (A : Option Addr) (c : Nat) (B : Nat) (w : World) (hB : B ≤ w.heap.size) (hA : BarAt w B A 3 ⟨mk, sz, ct, 31, [d0, d1, d2]⟩) (hd : 1 ≤ d0 ∧ d0 ≤ 262144 ∧ 1 ≤ d1 ∧ d1 ≤ 262144 ∧ 1 ≤ d2 ∧ d2 ≤ 262144) :
    Calls Tryz.prog 174 #[barV ⟨mk, sz, ct, 31, [d0, d1, d2]⟩ A 3 c] w (GivesPts (S.moves ⟨mk, sz, ct, 31, [d0, d1, d2]⟩) w) := by
  have hmv : S.moves ⟨mk, sz, ct, 31, [d0, d1, d2]⟩ = [⟨d0, 0, 0⟩, ⟨0, d1, 0⟩, ⟨0, 0, d2⟩] := by simp [S.moves, S.legsOf, S.step]
  obtain ⟨bd, od, rfl, hbd, hcd⟩ := hA.cells.at_ (by simp)
  have g0 := hcd 0 (.int .i64 d0) rfl
  have g1 := hcd 1 (.int .i64 d1) rfl
  have g2 := hcd 2 (.int .i64 d2) rfl
  simp only [Nat.add_zero] at g0
  rw [hmv]
  clear hcd hA hmv
  have hn0 : bd < w.heap.size := by omega
  unfold barV
  go_enter Tryz.func174, Tryz.ntmps174
  go_wp2
  refine wp_region_grow_tail 12 (by kernel_rfl) (by kernel_rfl) ?_
  simp only [List.take_succ_cons, List.take_zero, List.drop_succ_cons, List.drop_zero]
  repeat (go_big_quiet_step (fail))
  all_goals (refine wpQuiet_nil ?_; intro wg hbwg; obtain ⟨hcwg, hfwg⟩ := bcell hbwg; have hzwg_0 : w.heap.size < wg.heap.size := lt_via hbwg (by first | omega | (simp; done) | (simp; omega)))
  go_wp2
  go_ret
  refine ⟨some ⟨wg.heap.size, 0, none⟩, rfl, ?_, (by repeat (first | exact Below.refl _ _ | assumption | refine ba_alloc ?_ _ | refine ba_drew ?_ | refine ba_drewN ?_ _ | refine ba_via (by assumption) ?_ | (refine ba_set ?_ ?_ _; rotate_left; (first | omega | (simp; omega) | simp)))), by simp; omega⟩
  simpa using Cells.newRow wg #[.int .i64 (d0), .int .i64 (0), .int .i64 (0), .int .i64 (0), .int .i64 (d1), .int .i64 (0), .int .i64 (0), .int .i64 (0), .int .i64 (d2)] 96 (0, 0)
set_option maxRecDepth 100000 in
set_option maxHeartbeats 2000000 in
theorem rmoves_41 (mk : ByteArray) (sz ct : Int) (d0 d1 d2 d3 d4 : Int) (A : Option Addr) (c : Nat) (B : Nat) (w : World) (hB : B ≤ w.heap.size) (hA : BarAt w B A 5 ⟨mk, sz, ct, 41, [d0, d1, d2, d3, d4]⟩) (hd : 1 ≤ d0 ∧ d0 ≤ 262144 ∧ 1 ≤ d1 ∧ d1 ≤ 262144 ∧ 1 ≤ d2 ∧ d2 ≤ 262144 ∧ 1 ≤ d3 ∧ d3 ≤ 262144 ∧ 1 ≤ d4 ∧ d4 ≤ 262144) :
    Calls Tryz.prog 174 #[barV ⟨mk, sz, ct, 41, [d0, d1, d2, d3, d4]⟩ A 5 c] w (GivesPts (S.moves ⟨mk, sz, ct, 41, [d0, d1, d2, d3, d4]⟩) w) := by
  have hmv : S.moves ⟨mk, sz, ct, 41, [d0, d1, d2, d3, d4]⟩ = [⟨d0, 0, 0⟩, ⟨0, d1, 0⟩, ⟨d2, 0, 0⟩, ⟨0, -d3, 0⟩, ⟨d4, 0, 0⟩] := by simp [S.moves, S.legsOf, S.step]
  obtain ⟨bd, od, rfl, hbd, hcd⟩ := hA.cells.at_ (by simp)
  have g0 := hcd 0 (.int .i64 d0) rfl
  have g1 := hcd 1 (.int .i64 d1) rfl
  have g2 := hcd 2 (.int .i64 d2) rfl
  have g3 := hcd 3 (.int .i64 d3) rfl
  have g4 := hcd 4 (.int .i64 d4) rfl
  simp only [Nat.add_zero] at g0
  rw [hmv]
  clear hcd hA hmv
  have hn0 : bd < w.heap.size := by omega
  have hw0 : IntKind.i64.wrap (-d3) = -d3 := IntWalk.i64_in _ (by omega)
  unfold barV
  go_enter Tryz.func174, Tryz.ntmps174
  go_wp2
  refine wp_region_grow_tail 21 (by kernel_rfl) (by kernel_rfl) ?_
  simp only [List.take_succ_cons, List.take_zero, List.drop_succ_cons, List.drop_zero]
  repeat (go_big_quiet_step (fail))
  all_goals (refine wpQuiet_nil ?_; intro wg hbwg; obtain ⟨hcwg, hfwg⟩ := bcell hbwg; have hzwg_0 : w.heap.size < wg.heap.size := lt_via hbwg (by first | omega | (simp; done) | (simp; omega)))
  go_wp2
  go_ret
  refine ⟨some ⟨wg.heap.size, 0, none⟩, rfl, ?_, (by repeat (first | exact Below.refl _ _ | assumption | refine ba_alloc ?_ _ | refine ba_drew ?_ | refine ba_drewN ?_ _ | refine ba_via (by assumption) ?_ | (refine ba_set ?_ ?_ _; rotate_left; (first | omega | (simp; omega) | simp)))), by simp; omega⟩
  simpa using Cells.newRow wg #[.int .i64 (d0), .int .i64 (0), .int .i64 (0), .int .i64 (0), .int .i64 (d1), .int .i64 (0), .int .i64 (d2), .int .i64 (0), .int .i64 (0), .int .i64 (0), .int .i64 (-d3), .int .i64 (0), .int .i64 (d4), .int .i64 (0), .int .i64 (0)] 96 (0, 0)
set_option maxRecDepth 100000 in
set_option maxHeartbeats 2000000 in
theorem rmoves_51 (mk : ByteArray) (sz ct : Int) (d0 d1 d2 : Int) (A : Option Addr) (c : Nat) (B : Nat) (w : World) (hB : B ≤ w.heap.size) (hA : BarAt w B A 3 ⟨mk, sz, ct, 51, [d0, d1, d2]⟩) (hd : 1 ≤ d0 ∧ d0 ≤ 262144 ∧ 1 ≤ d1 ∧ d1 ≤ 262144 ∧ 1 ≤ d2 ∧ d2 ≤ 262144) :
    Calls Tryz.prog 174 #[barV ⟨mk, sz, ct, 51, [d0, d1, d2]⟩ A 3 c] w (GivesPts (S.moves ⟨mk, sz, ct, 51, [d0, d1, d2]⟩) w) := by
  have hmv : S.moves ⟨mk, sz, ct, 51, [d0, d1, d2]⟩ = [⟨0, -d2, 0⟩, ⟨d0, 0, 0⟩, ⟨0, d1, 0⟩, ⟨-d0, 0, 0⟩, ⟨0, -d1, 0⟩, ⟨d2, 0, 0⟩] := by simp [S.moves, S.legsOf, S.step]
  obtain ⟨bd, od, rfl, hbd, hcd⟩ := hA.cells.at_ (by simp)
  have g0 := hcd 0 (.int .i64 d0) rfl
  have g1 := hcd 1 (.int .i64 d1) rfl
  have g2 := hcd 2 (.int .i64 d2) rfl
  simp only [Nat.add_zero] at g0
  rw [hmv]
  clear hcd hA hmv
  have hn0 : bd < w.heap.size := by omega
  have hw0 : IntKind.i64.wrap (-d2) = -d2 := IntWalk.i64_in _ (by omega)
  have hw1 : IntKind.i64.wrap (-d0) = -d0 := IntWalk.i64_in _ (by omega)
  have hw2 : IntKind.i64.wrap (-d1) = -d1 := IntWalk.i64_in _ (by omega)
  unfold barV
  go_enter Tryz.func174, Tryz.ntmps174
  go_wp2
  refine wp_region_grow_tail 27 (by kernel_rfl) (by kernel_rfl) ?_
  simp only [List.take_succ_cons, List.take_zero, List.drop_succ_cons, List.drop_zero]
  repeat (go_big_quiet_step (fail))
  all_goals (refine wpQuiet_nil ?_; intro wg hbwg; obtain ⟨hcwg, hfwg⟩ := bcell hbwg; have hzwg_0 : w.heap.size < wg.heap.size := lt_via hbwg (by first | omega | (simp; done) | (simp; omega)))
  go_wp2
  go_ret
  refine ⟨some ⟨wg.heap.size, 0, none⟩, rfl, ?_, (by repeat (first | exact Below.refl _ _ | assumption | refine ba_alloc ?_ _ | refine ba_drew ?_ | refine ba_drewN ?_ _ | refine ba_via (by assumption) ?_ | (refine ba_set ?_ ?_ _; rotate_left; (first | omega | (simp; omega) | simp)))), by simp; omega⟩
  simpa using Cells.newRow wg #[.int .i64 (0), .int .i64 (-d2), .int .i64 (0), .int .i64 (d0), .int .i64 (0), .int .i64 (0), .int .i64 (0), .int .i64 (d1), .int .i64 (0), .int .i64 (-d0), .int .i64 (0), .int .i64 (0), .int .i64 (0), .int .i64 (-d1), .int .i64 (0), .int .i64 (d2), .int .i64 (0), .int .i64 (0)] 96 (0, 0)
set_option maxRecDepth 100000 in
set_option maxHeartbeats 2000000 in
theorem rmoves_98 (mk : ByteArray) (sz ct : Int) (d0 d1 d2 : Int) (A : Option Addr) (c : Nat) (B : Nat) (w : World) (hB : B ≤ w.heap.size) (hA : BarAt w B A 3 ⟨mk, sz, ct, 98, [d0, d1, d2]⟩) (hd : 1 ≤ d0 ∧ d0 ≤ 262144 ∧ 1 ≤ d1 ∧ d1 ≤ 262144 ∧ 1 ≤ d2 ∧ d2 ≤ 262144) :
    Calls Tryz.prog 174 #[barV ⟨mk, sz, ct, 98, [d0, d1, d2]⟩ A 3 c] w (GivesPts (S.moves ⟨mk, sz, ct, 98, [d0, d1, d2]⟩) w) := by
  have hmv : S.moves ⟨mk, sz, ct, 98, [d0, d1, d2]⟩ = [⟨0, 0, d0⟩, ⟨0, -d1, 0⟩, ⟨d2, 0, 0⟩, ⟨0, d1, 0⟩, ⟨0, 0, d0⟩] := by simp [S.moves, S.legsOf, S.step]
  obtain ⟨bd, od, rfl, hbd, hcd⟩ := hA.cells.at_ (by simp)
  have g0 := hcd 0 (.int .i64 d0) rfl
  have g1 := hcd 1 (.int .i64 d1) rfl
  have g2 := hcd 2 (.int .i64 d2) rfl
  simp only [Nat.add_zero] at g0
  rw [hmv]
  clear hcd hA hmv
  have hn0 : bd < w.heap.size := by omega
  have hw0 : IntKind.i64.wrap (-d1) = -d1 := IntWalk.i64_in _ (by omega)
  unfold barV
  go_enter Tryz.func174, Tryz.ntmps174
  go_wp2
  refine wp_region_grow_tail 21 (by kernel_rfl) (by kernel_rfl) ?_
  simp only [List.take_succ_cons, List.take_zero, List.drop_succ_cons, List.drop_zero]
  repeat (go_big_quiet_step (fail))
  all_goals (refine wpQuiet_nil ?_; intro wg hbwg; obtain ⟨hcwg, hfwg⟩ := bcell hbwg; have hzwg_0 : w.heap.size < wg.heap.size := lt_via hbwg (by first | omega | (simp; done) | (simp; omega)))
  go_wp2
  go_ret
  refine ⟨some ⟨wg.heap.size, 0, none⟩, rfl, ?_, (by repeat (first | exact Below.refl _ _ | assumption | refine ba_alloc ?_ _ | refine ba_drew ?_ | refine ba_drewN ?_ _ | refine ba_via (by assumption) ?_ | (refine ba_set ?_ ?_ _; rotate_left; (first | omega | (simp; omega) | simp)))), by simp; omega⟩
  simpa using Cells.newRow wg #[.int .i64 (0), .int .i64 (0), .int .i64 (d0), .int .i64 (0), .int .i64 (-d1), .int .i64 (0), .int .i64 (d2), .int .i64 (0), .int .i64 (0), .int .i64 (0), .int .i64 (d1), .int .i64 (0), .int .i64 (0), .int .i64 (0), .int .i64 (d0)] 96 (0, 0)
theorem rmoves_any (b : Bar) (A : Option Addr) (n c : Nat) (B : Nat) (w : World) (hB : B ≤ w.heap.size) (hA : BarAt w B A n b) (h : S.bar b = true) :
    Calls Tryz.prog 174 #[barV b A n c] w (GivesPts (S.moves b) w) := by
  obtain rfl := hA.len
  obtain ⟨mk, sz, ct, cd, ds⟩ := b
  rcases bar_codes h with ⟨hc, a, e, h1, h2⟩ | ⟨hc, a, a2, e, h1, h2, h3⟩ | ⟨hc, a, a2, a3, e, h1, h2, h3, h4⟩ | ⟨hc, a, a2, a3, a4, a5, e, h1, h2, h3, h4, h5, h6⟩
  · simp only [] at hc e
    subst hc e
    exact rmoves_0 mk sz ct a A c B w hB hA (by omega)
  · simp only [] at hc e
    subst hc e
    exact rmoves_11 mk sz ct a a2 A c B w hB hA (by omega)
  · simp only [] at hc e
    rcases hc with hc | hc | hc | hc | hc <;> subst hc e
    · exact rmoves_21 mk sz ct a a2 a3 A c B w hB hA (by omega)
    · exact rmoves_26 mk sz ct a a2 a3 A c B w hB hA (by omega)
    · exact rmoves_31 mk sz ct a a2 a3 A c B w hB hA (by omega)
    · exact rmoves_51 mk sz ct a a2 a3 A c B w hB hA (by omega)
    · exact rmoves_98 mk sz ct a a2 a3 A c B w hB hA (by omega)
  · simp only [] at hc e
    subst hc e
    exact rmoves_41 mk sz ct a a2 a3 a4 a5 A c B w hB hA (by omega)
def S.abs (n : Int) : Int := if n < 0 then 0 - n else n
end Go.Proofs.YtplaghmehbkcnaaGreat
set_option linter.unusedVariables false
set_option linter.unusedSimpArgs false
namespace Go.Proofs.YtplaghmehbkcnaaGreat
open Go.RowKit
theorem move_at (b : Bar) (h : S.bar b = true) {k : Nat} (hk : k < (S.legsOf b.code).length) : ∃ P n, (S.moves b)[k]? = some P ∧ (S.legLens b)[k]? = some n ∧ 1 ≤ n ∧ n ≤ 262144 ∧ Within P 262144 ∧
    S.abs P.x + S.abs P.y + S.abs P.z = n ∧ 0 ≤ S.abs P.x ∧ 0 ≤ S.abs P.y ∧ 0 ≤ S.abs P.z ∧ S.ptAt b (k + 1) = ⟨(S.ptAt b k).x + P.x, (S.ptAt b k).y + P.y, (S.ptAt b k).z + P.z⟩ := by
  obtain ⟨n, _, g2, g3, g4, g5⟩ := lens_get b h hk
  refine ⟨S.step ⟨0, 0, 0⟩ (S.legsOf b.code)[k].2 n, n, ?_, g2, g3, g4, ?_⟩
  · unfold S.legLens at g2
    rw [List.getElem?_map, List.getElem?_eq_getElem hk] at g2
    unfold S.moves
    rw [List.getElem?_map, List.getElem?_eq_getElem hk]
    simp only [Option.map_some, Option.some.injEq] at g2 ⊢
    rw [g2]
  · rw [g5]
    rcases legs_way b.code hk with hw | hw | hw | hw | hw
    all_goals (
      rw [hw]
      refine ⟨?_, ?_, ?_, ?_, ?_, ?_⟩
      · simp [Within, S.step]; omega
      · simp [S.abs, S.step]; try (first | omega | (intro _; omega) | (split <;> omega))
      · simp [S.abs, S.step]; try (first | omega | (intro _; omega) | (split <;> omega))
      · simp [S.abs, S.step]; try (first | omega | (intro _; omega) | (split <;> omega))
      · simp [S.abs, S.step]; try (first | omega | (intro _; omega) | (split <;> omega))
      · simp [S.step]; try omega)
theorem ptAt_in (b : Bar) (h : S.bar b = true) (k : Nat) (hk : k ≤ (S.legsOf b.code).length) : Within (S.ptAt b k) 524288 := by
  have hD := bar_head h
  have hd : ∀ k (hk : k < (S.legsOf b.code).length), (S.legsOf b.code)[k].1 < b.dims.length := fun k hk => by have := legs_dim b.code hk; omega
  have h1 := ptAt_sum h hd k
  have h2 := sum_take_le (lens_pos h) k
  have h3 := (legs_sum h).1
  unfold Within at h1 ⊢
  omega
set_option maxRecDepth 100000 in
set_option maxHeartbeats 2000000 in
theorem rpath_yes (b : Bar) (A : Option Addr) (n c : Nat) (B : Nat) (w : World) (hB : B ≤ w.heap.size) (hA : BarAt w B A n b) (h : S.bar b = true) (L : Nat) (hL : (S.legsOf b.code).length = L) :
    Calls Tryz.prog 156 #[barV b A n c] w fun e w' => ∃ A' c', e = .returned (.slice A' (L + 1) c') ∧ w'.ownsRow w.heap.size 96 3 (.slice A' (L + 1) c') (L + 1) ((S.path b).flatMap ptC) ∧ Below w.heap.size w w' := by
  have HA := Lib.hid hA
  have hl6 := legs_len b.code
  have HM := Lib.hid (show ∀ k, k < (S.legsOf b.code).length → _ from fun k hk => move_at b h hk)
  have HPI := Lib.hid (fun k hk => ptAt_in b h k hk)
  have HML := Lib.hid (moves_len b)
  have HSN := Lib.hid (fun m => pathTo_snoc b m)
  have HPA := Lib.hid (show S.path b = S.pathTo b ((S.legsOf b.code).length + 1) from rfl)
  have HL := Lib.hid hL
  rw [hL] at hl6
  clear hA hL
  unfold barV
  go_enter Tryz.func156, Tryz.ntmps156
  go_wp2_with (go_at_call 174; (with_reducible refine (rmoves_any b A n c B _ (by simp; omega) (BarAt.at_ HA.out hB (by repeat (first | exact Below.refl _ _ | assumption | refine ba_alloc ?_ _ | refine ba_drew ?_ | refine ba_drewN ?_ _ | refine ba_via (by assumption) ?_ | (refine ba_set ?_ ?_ _; rotate_left; (first | omega | (simp; omega) | simp))))) h).mono ?_); rintro e w2 ⟨A2, rfl, hs, hb2, hz2'⟩; obtain ⟨hcw2, hfw2⟩ := bcell hb2; have hz2 : w.heap.size < w2.heap.size := lt_via hb2 (by simp); have hlen : (S.moves b).length = L := HML.out.trans HL.out; simp only [hlen])
  have hbw2 : Below w.heap.size w w2 := (by repeat (first | exact Below.refl _ _ | assumption | refine ba_alloc ?_ _ | refine ba_drew ?_ | refine ba_drewN ?_ _ | refine ba_via (by assumption) ?_ | (refine ba_set ?_ ?_ _; rotate_left; (first | omega | (simp; omega) | simp))))
  have hbw : Below w.heap.size w ((w2.alloc (.cells #[.int .i64 0, .int .i64 0, .int .i64 0] 96)).alloc (.cells #[.int .i64 0, .int .i64 0, .int .i64 0] 96)) := (by repeat (first | exact Below.refl _ _ | assumption | refine ba_alloc ?_ _ | refine ba_drew ?_ | refine ba_drewN ?_ _ | refine ba_via (by assumption) ?_ | (refine ba_set ?_ ?_ _; rotate_left; (first | omega | (simp; omega) | simp))))
  have hK0 : Blk ((w2.alloc (.cells #[.int .i64 0, .int .i64 0, .int .i64 0] 96)).alloc (.cells #[.int .i64 0, .int .i64 0, .int .i64 0] 96)) w2.heap.size 96 #[.int .i64 0, .int .i64 0, .int .i64 0] := (Blk.new _ _ _).alloc _
  have hsM := (hs.alloc (Nat.le_refl _) (.cells #[.int .i64 0, .int .i64 0, .int .i64 0] 96)).alloc (by simp) (.cells #[.int .i64 0, .int .i64 0, .int .i64 0] 96)
  have hrow : Row ((w2.alloc (.cells #[.int .i64 0, .int .i64 0, .int .i64 0] 96)).alloc (.cells #[.int .i64 0, .int .i64 0, .int .i64 0] 96)) ((w2.alloc (.cells #[.int .i64 0, .int .i64 0, .int .i64 0] 96)).alloc (.cells #[.int .i64 0, .int .i64 0, .int .i64 0] 96)) (some (w2.heap.size + 1)) w.heap.size 96 3 (.slice (some ⟨w2.heap.size + 1, 0, none⟩) 1 1) 1 ((S.pathTo b 1).flatMap ptC) := by
    refine ⟨?_, fun k hk => .inl (by simpa [Value.ownBlock] using hk.symm)⟩
    have h1 := World.ownsRow_lit (base := w.heap.size) (e := 96) (size := 3) (w2.alloc (.cells #[.int .i64 0, .int .i64 0, .int .i64 0] 96)) #[.int .i64 0, .int .i64 0, .int .i64 0] 1 (by simp; omega) (by unfold maxLen; omega) rfl
    simpa [S.pathTo, S.ptAt, List.range_succ] using h1
  have hzW : ((w2.alloc (.cells #[.int .i64 0, .int .i64 0, .int .i64 0] 96)).alloc (.cells #[.int .i64 0, .int .i64 0, .int .i64 0] 96)).heap.size = w2.heap.size + 2 := by simp
  clear hcw2 hfw2 hb2
  generalize (w2.alloc (.cells #[.int .i64 0, .int .i64 0, .int .i64 0] 96)).alloc (.cells #[.int .i64 0, .int .i64 0, .int .i64 0] 96) = W0 at *
  go_loopw [5, 6] (fun v i wr => ∃ (k : Nat) (A3 : Option Addr) (c3 : Nat), k ≤ L ∧ i = .int .i64 k ∧ v = .slice A3 (k + 1) c3 ∧ Row W0 wr (some (w2.heap.size + 1)) w.heap.size 96 3 (.slice A3 (k + 1) c3) (k + 1) ((S.pathTo b (k + 1)).flatMap ptC) ∧ Exc [w2.heap.size, w2.heap.size + 1] W0 wr ∧ Blk wr w2.heap.size 96 #[.int .i64 (S.ptAt b k).x, .int .i64 (S.ptAt b k).y, .int .i64 (S.ptAt b k).z]) (fun _ i _ => L - (intOf i).toNat)
  case atStart => exact ⟨0, _, 1, Nat.zero_le _, rfl, rfl, hrow, Exc.refl _ _, hK0⟩
  case round =>
    obtain ⟨k, A3, c3, hk, rfl, rfl, hR, hX, hK⟩ := hrel
    clear hrow hK0
    have hsz := hX.size
    by_cases hlt : k < L
    · have hs' := hsM.below (hX.below (B := w2.heap.size) (by omega) (by intro j hj; simp at hj; omega))
      obtain ⟨b4, o4, rfl, hbl, _⟩ := hs'.at_ (by rw [flat_len ptC 3 ptC_len]; omega)
      obtain ⟨P, q, g1, g2, g3, g4, gw, _, _, _, _, gp⟩ := HM.out k (by have := HL.out; omega)
      obtain ⟨c1, c2, c3'⟩ := hs'.pts g1
      have hin := HPI.out k (by have := HL.out; omega)
      unfold Within at gw hin
      have k0 := hK.cell 0
      have k1 := hK.cell 1
      have k2 := hK.cell 2
      have kf0 := hK.frozen 0
      have kf1 := hK.frozen 1
      have kf2 := hK.frozen 2
      simp only [List.getElem?_toArray, List.getElem?_cons_zero, List.getElem?_cons_succ] at k0 k1 k2
      have hown : ∀ j, Value.ownBlock (.slice A3 (k + 1) c3) = some j → j ≠ w2.heap.size := fun j hj' => by
        rcases hR.place j hj' with h1 | h1
        · injection h1 with h1; omega
        · omega
      have HOWN := Lib.hid hown
      have HST := Lib.hid gp
      have HS1 := Lib.hid (HSN.out (k + 1))
      have hkl : (k : Int) < (L : Int) := by omega
      have hb4r : b4 < wr.heap.size := by omega
      have hg2 : w2.heap.size < wr.heap.size := hK.lt
      clear gp hown g1 g2
      generalize S.ptAt b k = p at *
      have e1 : IntKind.i64.wrap (p.x + P.x) = p.x + P.x := IntWalk.i64_in _ (by omega)
      have e2 : IntKind.i64.wrap (p.y + P.y) = p.y + P.y := IntWalk.i64_in _ (by omega)
      have e3 : IntKind.i64.wrap (p.z + P.z) = p.z + P.z := IntWalk.i64_in _ (by omega)
      go_wp2
      refine wp_region_grow_tail 25 (by kernel_rfl) (by kernel_rfl) ?_
      simp only [List.take_succ_cons, List.take_zero, List.drop_succ_cons, List.drop_zero]
      repeat (go_big_quiet_step (fail))
      all_goals (refine wpQuiet_nil ?_; intro wg hbwg; obtain ⟨hcwg, hfwg⟩ := bcell hbwg)
      have hK2 : Blk ((((wg.setCell ⟨w2.heap.size, 0, none⟩ (.int .i64 (p.x + P.x))).setCell ⟨w2.heap.size, 1, none⟩ (.int .i64 (p.y + P.y))).setCell ⟨w2.heap.size, 2, none⟩ (.int .i64 (p.z + P.z))).alloc (.cells #[.int .i64 (p.x + P.x), .int .i64 (p.y + P.y), .int .i64 (p.z + P.z)] 96)) w2.heap.size 96 #[.int .i64 (p.x + P.x), .int .i64 (p.y + P.y), .int .i64 (p.z + P.z)] := by
        have h6 := (((((hK.via hbwg).set 0 (.int .i64 (p.x + P.x))).set 1 (.int .i64 (p.y + P.y))).set 2 (.int .i64 (p.z + P.z))).alloc (.cells #[.int .i64 (p.x + P.x), .int .i64 (p.y + P.y), .int .i64 (p.z + P.z)] 96))
        simp only [List.setIfInBounds_toArray, List.set_cons_zero, List.set_cons_succ] at h6
        exact h6
      have hg3 : w2.heap.size < wg.heap.size := lt_via hbwg hg2
      go_wp2_with (at_builtin; refine wpList_push rfl (.tmp 43) (.tmp 45) _ rfl elemPt (((((hR.via hbwg).set (p := ⟨w2.heap.size, 0, none⟩) HOWN.out _).set (p := ⟨w2.heap.size, 1, none⟩) HOWN.out _).set (p := ⟨w2.heap.size, 2, none⟩) HOWN.out _).alloc _) (((((Exc.via hbwg hX).set (p := ⟨w2.heap.size, 0, none⟩) (.inl (by simp)) _).set (p := ⟨w2.heap.size, 1, none⟩) (.inl (by simp)) _).set (p := ⟨w2.heap.size, 2, none⟩) (.inl (by simp)) _).alloc _) (by simp) hbw.size rfl wg.heap.size 1 1 [.int .i64 (p.x + P.x), .int .i64 (p.y + P.y), .int .i64 (p.z + P.z)] rfl rfl ?_ (by simp [Value.oneCell']) (by unfold maxLen; omega) (by omega) ?_; (· intro j u hu; have := (Cells.newRow (((wg.setCell ⟨w2.heap.size, 0, none⟩ (.int .i64 (p.x + P.x))).setCell ⟨w2.heap.size, 1, none⟩ (.int .i64 (p.y + P.y))).setCell ⟨w2.heap.size, 2, none⟩ (.int .i64 (p.z + P.z))) #[.int .i64 (p.x + P.x), .int .i64 (p.y + P.y), .int .i64 (p.z + P.z)] 96 (0, 0)).get (k := j) (v := u) hu; simpa using this); intro v' w' hR' hX' hO')
      obtain ⟨A5, c5, rfl, _, _, _⟩ := own_form hR'.own
      go_roundw
      case rel => exact ⟨k + 1, A5, c5, by omega, by go_num, rfl, by rw [HS1.out, HST.out, List.flatMap_append]; exact hR', hX', by rw [HST.out]; exact (hO' _ hK2.lt (fun h => HOWN.out _ h rfl)).trans hK2⟩
      case measure => simp [intOf]; omega
    · have he : k = L := by omega
      have HE := Lib.hid he
      clear he
      go_wp2
      go_ret
      refine ⟨A3, c3, by rw [HE.out]; rfl, ?_, ?_⟩
      · have := hR.own
        rw [HPA.out, HL.out]
        rwa [HE.out] at this
      · exact hbw.trans (hX.below (by have := hbw2.size; omega) (by intro j hj; simp at hj; have := hbw2.size; omega))
end Go.Proofs.YtplaghmehbkcnaaGreat
set_option linter.unusedVariables false
set_option linter.unusedSimpArgs false
namespace Go.Proofs.YtplaghmehbkcnaaGreat
open Go.RowKit
section
variable {P : Program} {ops : Array Oper} {md : Region.Mode} {C : World → Prop} {n : Nat}
def sink1B (md : Region.Mode) (ops : Array Oper) (n : Nat) : Bool :=
  (List.range n).all fun i => decide (i < 1) || (List.range (n + 1)).any fun j => decide (i < j) && Region.waitsFor md ops j i
theorem tail_waits1 {listed : Array Bool} (hs : sink1B md ops n = true) (hc : Region.chainB md ops n = true) (hn : n < ops.size) (inv : HeadInv md ops n listed) :
    ∀ (d i : Nat), n - i = d → 1 ≤ i → i < n → listed.getD i true = false → ∀ t, n ≤ t → t ∉ Region.ready md ops listed := by
  intro d
  induction d using Nat.strongRecOn with
  | _ d ih =>
    intro i hd h1i hi hun t ht hr
    obtain ⟨_, ot, hot, hall⟩ := mem_ready.1 hr
    have htlt : t < ops.size := (Array.getElem?_eq_some_iff.1 hot).1
    by_cases htn : t = n
    · subst htn
      have h1 := List.all_eq_true.1 hs i (List.mem_range.2 hi)
      simp only [Bool.or_eq_true, decide_eq_true_eq] at h1
      replace h1 := h1.resolve_left (by omega)
      obtain ⟨j, hj, hj2⟩ := List.any_eq_true.1 h1
      simp only [Bool.and_eq_true, decide_eq_true_eq] at hj2
      obtain ⟨oj, hoj, e, he, hb, hon⟩ := Region.waitsFor_spec hj2.2
      have hjle : j ≤ t := by have := List.mem_range.1 hj; omega
      by_cases hjt : j = t
      · subst hjt
        have : oj = ot := Option.some.inj (hoj.symm.trans hot)
        subst this
        have h2 := hall e he hb
        rw [hon, getD_both hun] at h2
        cases h2
      · cases hl : listed.getD j false with
        | true =>
          have h2 := inv.closed j oj hoj hl e he hb
          rw [hon, getD_both hun] at h2
          cases h2
        | false =>
          have hjs : j < listed.size := by rw [inv.size]; omega
          exact ih (t - j) (by omega) j rfl (by omega) (by omega) (getD_in hjs hl) t (Nat.le_refl _) hr
    · have h1 := List.all_eq_true.1 hc t (List.mem_range.2 htlt)
      simp only [Bool.or_eq_true, decide_eq_true_eq] at h1
      rcases h1 with h1 | h1
      · omega
      · obtain ⟨o', ho', e, he, hb, hon⟩ := Region.waitsFor_spec h1
        have : o' = ot := Option.some.inj (ho'.symm.trans hot)
        subst this
        have h2 := hall e he hb
        rw [hon, getD_both (inv.tail (t - 1) (by omega) (by omega))] at h2
        cases h2
theorem headQ_first1 {i : Nat} {oi : Oper} {v : Value} {L : Array Bool → Act → Prop} (hi : ops[i]? = some oi) (hsel : ∀ (j : Nat) (o : Oper) cs b, ops[j]? = some o → o.op ≠ .select cs b)
    (hs : sink1B md ops n = true) (hc : Region.chainB md ops n = true) (hn : n < ops.size) (h1i : 1 ≤ i) (hin : i < n) (hdone : ∀ listed a, L listed a → ∀ j, j ∈ Region.ready md ops listed → n ≤ j) :
    ∀ (f : Nat) (listed : Array Bool) (a : Act), HeadInv md ops n listed →
      (∀ j oj, ops[j]? = some oj → j ≠ i → listed.getD j true = false → (∀ e ∈ oj.after, Region.binds md e = true → e.on ≠ i) → oi.apart ops oj = true) →
      i ∈ Region.ready md ops listed → YieldsIn P ops C oi v a → headQ P md ops C n L f (listed.setIfInBounds i true) (a.put oi.dst v) → headQ P md ops C n L (f + 1) listed a := by
  intro f
  induction f with
  | zero =>
    intro listed a inv _ hr hy H
    refine ⟨fun h => by rw [h] at hr; exact absurd hr (by simp), fun j hj => ?_⟩
    have hjn : j < n := Nat.lt_of_not_le fun h => tail_waits1 hs hc hn inv _ i rfl h1i hin (mem_ready.1 hr).1 j h hj
    refine ⟨hjn, ?_⟩
    by_cases hji : j = i
    · subst hji
      exact hy.qOp hi H
    · exact absurd (hdone _ _ H j (ready_mono hj hji)) (by omega)
  | succ f ih =>
    intro listed a inv hfree hr hy H
    refine ⟨fun h => by rw [h] at hr; exact absurd hr (by simp), fun j hj => ?_⟩
    have hjn : j < n := Nat.lt_of_not_le fun h => tail_waits1 hs hc hn inv _ i rfl h1i hin (mem_ready.1 hr).1 j h hj
    refine ⟨hjn, ?_⟩
    by_cases hji : j = i
    · subst hji
      exact hy.qOp hi H
    · obtain ⟨hjun, oj, hoj, hall⟩ := mem_ready.1 hj
      have hnot : ∀ e ∈ oj.after, Region.binds md e = true → e.on ≠ i := fun e he hb heq => by
        have h1 := hall e he hb
        rw [heq, getD_both (mem_ready.1 hr).1] at h1
        exact absurd h1 (by simp)
      have h2 := qOp_put hoj (hfree j oj hoj hji hjun hnot) (fun cs b => hsel i oi cs b hi) (fun cs b => hsel j oj cs b hoj) hy (H.2 j (ready_mono hj hji)).2
      refine qOp_mono (fun a' h3 => ih (listed.setIfInBounds j true) a' (inv.set hj hjn) (fun k ok hk hki hun hno => ?_) (ready_mono hr (Ne.symm hji)) h3.1 ?_) h2
      · refine hfree k ok hk hki ?_ hno
        by_cases hjk : j = k
        · subst hjk
          exact hjun
        · rwa [getD_set_ne true hjk] at hun
      · rw [Array.setIfInBounds_comm _ _ hji]
        exact h3.2
theorem headQ_lex1 {g : Nat} {Lq : Act → Prop} (hsel : Region.noSelect ops = true) (hs : sink1B md ops n = true) (hc : Region.chainB md ops n = true) (hn : n < ops.size) :
    ∀ (l : List Oper) (k : Nat) (listed : Array Bool) (a : Act), 1 ≤ k → (∀ j, j < l.length → l[j]? = ops[k + j]?) → k + l.length = n → HeadInv md ops n listed →
    Region.lexHead md ops g l.length k listed = true → wpQuiet P ops C Lq l a →
    headQ P md ops C n (fun listed' a' => Region.seqB md ops g n listed' = true ∧ Lq a') l.length listed a := by
  intro l
  induction l with
  | nil =>
    intro k listed a _ _ hk _ hB h
    obtain rfl : k = n := by simpa using hk
    exact ⟨by simpa [Region.lexHead] using hB, h⟩
  | cons o l ih =>
    intro k listed a hk1 hl hk inv hB h
    have h0 : ops[k]? = some o := by simpa using (hl 0 (by simp)).symm
    simp only [List.length_cons, Region.lexHead, Bool.and_eq_true] at hB
    simp only [List.length_cons] at hk
    have hr' : k ∈ Region.ready md ops listed := by simpa using hB.1.1
    have hst : qOp P ops C k (wpQuiet P ops C Lq l) a := by
      unfold qOp
      simp only [h0]
      exact h
    obtain ⟨v, hy, hK⟩ := yieldsIn_of_qOp h0 hst
    refine headQ_first1 h0 (Region.noSelect_spec hsel) hs hc hn hk1 (by omega) (fun listed' a' hL => seqB_ready hL.1) l.length listed a inv (Region.free_spec h0 hB.1.2) hr' hy ?_
    refine ih (k + 1) _ _ (by omega) (fun j hj => ?_) (by omega) (inv.set hr' (by omega)) hB.2 hK
    have := hl (j + 1) (by simp; omega)
    simpa [Nat.add_assoc, Nat.add_comm 1 j] using this
end
def lexTail1B (md : Region.Mode) (ops : Array Oper) (n : Nat) : Bool :=
  Region.noSelect ops && decide (1 ≤ n) && decide (n < ops.size) && sink1B md ops n && Region.chainB md ops n && Region.free md ops (Array.replicate ops.size false) 0 && (Region.ready md ops (Array.replicate ops.size false)).contains 0 &&
    Region.lexHead md ops (ops.size - n) (n - 1) 1 ((Array.replicate ops.size false).setIfInBounds 0 true)
/-- The first operation yields v in every world; the next ones up to m read or call for plain values; the rest write, in the order of the text. -/
theorem wp_region_grow_tail1 {P : Program} {id : Nat} {Q : Exit → Act → World → Prop} {a : Act} {w : World} {o : Oper} {l : List Oper} {v : Value} (m : Nat) (hm : P.follows .mixedOrders = true) (hB : lexTail1B .any (o :: l).toArray m = true)
    (hQ : ∀ c a w, Q (.panic c) (a.put o.dst v) w → Q (.panic c) a w) (hy : Yields P (o :: l).toArray o v a)
    (h : wpQuiet P (o :: l).toArray (fun w' => ∃ g, w' = grow w g) (fun a' => ∀ w', Below w.heap.size w w' → wpList P (o :: l).toArray Q ((o :: l).drop m) a' w') (((o :: l).take m).drop 1) (a.put o.dst v)) : (Code.region id (o :: l).toArray true).wp P Q a w := by
  simp only [lexTail1B, Bool.and_eq_true, decide_eq_true_eq] at hB
  obtain ⟨⟨⟨⟨⟨⟨⟨hsel, h1⟩, hn⟩, hs⟩, hc⟩, hfr⟩, hrd⟩, hlex⟩ := hB
  have hn' : m < l.length + 1 := by simpa using hn
  have htl : (((o :: l).take m).drop 1).length = m - 1 := by simp; omega
  have hdl : ((o :: l).drop m).length = (o :: l).toArray.size - m := by simp
  have h00 : (o :: l).toArray[0]? = some o := by simp
  have inv0 : HeadInv .any (o :: l).toArray m (Array.replicate (o :: l).toArray.size false) :=
    ⟨by simp, fun j oj _ hl => by rw [getD_replicate_false] at hl; exact absurd hl (by simp), fun t _ ht => getD_in (by simpa using ht) (getD_replicate_false _ _)⟩
  have inv1 := inv0.set (i := 0) (by simpa using hrd) (by omega)
  have H := headQ_lex1 (C := fun w' => ∃ g, w' = grow w g) (md := .any) (g := (o :: l).toArray.size - m) hsel hs hc hn (((o :: l).take m).drop 1) 1 _ (a.put o.dst v) (Nat.le_refl _) (fun j hj => by
    have hj' : j < m - 1 := by rw [htl] at hj; exact hj
    rw [List.getElem?_drop, List.getElem?_take_of_lt (by omega)]; simp) (by rw [htl]; omega) inv1 (by rw [htl]; exact hlex) h
  refine wp_region_any hm ?_
  have h3 := headQ_any (Q' := Q) (g := (o :: l).toArray.size - m) (fun listed a' w' hw' hL => by
    obtain ⟨g, rfl⟩ := hw'
    have := wpAny_of_seq (md := .any) (Q' := Q) ((o :: l).drop m) m listed a' (grow w g) (fun j => by simp [List.getElem?_drop]) (by rw [hdl]; exact hL.1) (hL.2 _ (grow_below w g))
    rwa [hdl] at this) _ _ _ w.drew ⟨w.drew, (grow_eq (Below.drew (Below.refl _ _))).symm⟩ H
  have h4 := wpAny_take (Q := Q) h00 hsel hfr hrd hQ hy h3
  rw [htl, show m - 1 + ((o :: l).toArray.size - m) + 1 = (o :: l).toArray.size by omega] at h4
  exact h4
end Go.Proofs.YtplaghmehbkcnaaGreat
set_option linter.unusedVariables false
set_option linter.unusedSimpArgs false
namespace Go.Proofs.YtplaghmehbkcnaaGreat
open Go.RowKit
theorem path_in {b : Bar} (h : S.bar b = true) {i : Nat} {p : Pt} (hp : (S.path b)[i]? = some p) : S.near1 p 1048576 = true := by
  obtain ⟨hi, rfl⟩ := List.getElem?_eq_some_iff.1 hp
  exact near_in (path_near h) hi
theorem laidPath_len (b : Bar) (r : Rn) (k : Nat) : (S.laidPath b r k).length = (S.legsOf b.code).length + 1 := by
  unfold S.laidPath; rw [List.length_map, path_len]
theorem plus_times (a s : Pt) (k : Int) : S.padd a (S.times k s) = S.plus a s k := rfl
theorem placed_padd (x y : Int) (a p : Pt) : S.padd a (S.image x y p) = S.placed x y a p := rfl
theorem times_lim {n : Int} {p : Pt} (hn : 0 ≤ n ∧ n ≤ 1000) (hp : S.near1 p 2097152 = true) : S.near1 (S.times n p) 2097152000 = true := by
  obtain ⟨hx, hy, hz⟩ := near1_out hp
  have hm : ∀ q : Int, -2097152 ≤ q ∧ q ≤ 2097152 → -2097152000 ≤ n * q ∧ n * q ≤ 2097152000 := fun q hq => by
    have h1 : n * q ≤ n * 2097152 := Int.mul_le_mul_of_nonneg_left hq.2 hn.1
    have h2 : n * (-2097152) ≤ n * q := Int.mul_le_mul_of_nonneg_left hq.1 hn.1
    omega
  have a1 := hm _ hx
  have a2 := hm _ hy
  have a3 := hm _ hz
  rw [show S.times n p = ⟨n * p.x, n * p.y, n * p.z⟩ from rfl]
  simp only [S.near1, Bool.and_eq_true, decide_eq_true_eq]
  generalize n * p.x = u1 at *
  generalize n * p.y = u2 at *
  generalize n * p.z = u3 at *
  omega
theorem Exc.of_below1 {M : List Nat} {W w : World} (h : Below W.heap.size W w) : Exc M W w := ⟨h.os, h.tape, h.output, h.size, fun k hk _ => h.block k hk⟩
set_option maxRecDepth 20000 in
set_option maxHeartbeats 4000000 in
theorem rpoints_any (b : Bar) (r : Rn) (k0 : Nat) (A : Option Addr) (n c : Nat) (B : Nat) (w : World) (hB : B ≤ w.heap.size) (hA : BarAt w B A n b) (h : S.bar b = true) (ht : S.turn r.tx r.ty = true) (ha : S.near1 r.at_ 1048576 = true)
    (hk0 : k0 ≤ 1000) (hst : 0 < k0 → S.near1 r.step 2097152 = true) (L : Nat) (hL : (S.legsOf b.code).length = L) :
    Calls Tryz.prog 116 #[barV b A n c, rnV r, .int .i64 k0] w (GivesOne 96 3 (L + 1) ((S.laidPath b r k0).flatMap ptC) w) := by
  have HP := Lib.hid (fun (W : World) (hw : B ≤ W.heap.size) (hh : BarAt W B A n b) => rpath_yes b A n c B W hw hh h L hL)
  have HA := Lib.hid hA
  have hl6 := legs_len b.code
  rw [hL] at hl6
  have HLP := Lib.hid (show (S.path b).length = L + 1 by rw [path_len, hL])
  have HPI := Lib.hid (fun (i : Nat) (p : Pt) (hp : (S.path b)[i]? = some p) => path_in h hp)
  have HIM := Lib.hid (fun (p : Pt) (hp : S.near1 p 1048576 = true) (w : World) => rimage_any r.tx r.ty ht p hp w)
  have hAT : S.near1 (S.plus r.at_ r.step k0) 2098200576 = true := by
    by_cases hk : 0 < k0
    · have := padd_near ha (times_lim (n := k0) (by omega) (hst hk))
      exact near1_mono0 this (by omega)
    · have : k0 = 0 := by omega
      subst this
      have e : S.plus r.at_ r.step ((0 : Nat) : Int) = r.at_ := by simp [S.plus]
      rw [e]
      exact near1_mono0 ha (by omega)
  have HPL := Lib.hid (fun (p : Pt) (hp : S.near1 p 1048576 = true) (w : World) => rplus_any (S.plus r.at_ r.step k0) (S.image r.tx r.ty p) (near1_mono0 (padd_near hAT (image_near ht hp)) (by omega)) w)
  have HLD := Lib.hid (show S.laidPath b r k0 = (S.path b).map (fun p => S.padd (S.plus r.at_ r.step k0) (S.image r.tx r.ty p)) from rfl)
  have HTM := Lib.hid (fun (hk : 0 < k0) (w : World) => rtimes16_any r.step k0 (near1_mono0 (times_lim (n := k0) (by omega) (hst hk)) (by omega)) w)
  have HAD := Lib.hid (fun (hk : 0 < k0) (w : World) => rplus_any r.at_ (S.times k0 r.step) (near1_mono0 (padd_near ha (times_lim (n := k0) (by omega) (hst hk))) (by omega)) w)
  have HZ := Lib.hid (fun (hk : ¬ 0 < k0) => show S.plus r.at_ r.step k0 = r.at_ by
    have : k0 = 0 := by omega
    subst this
    simp [S.plus])
  clear hA h ht ha hst hL hAT
  rw [HLD.out]
  unfold ptV at HIM HPL HTM HAD
  unfold turnV at HIM
  unfold barV at HP
  unfold barV rnV
  go_enter Tryz.func116, Tryz.ntmps116
  go_upto_region 3 with (first
    | (go_at_call 156; (with_reducible refine (HP.out _ (size_via hB (by repeat (first | exact Below.refl _ _ | assumption | refine ba_alloc ?_ _ | refine ba_drew ?_ | refine ba_drewN ?_ _ | refine ba_via (by assumption) ?_ | (refine ba_set ?_ ?_ _; rotate_left; (first | omega | (simp; omega) | simp))))) (HA.out.at_ hB (by repeat (first | exact Below.refl _ _ | assumption | refine ba_alloc ?_ _ | refine ba_drew ?_ | refine ba_drewN ?_ _ | refine ba_via (by assumption) ?_ | (refine ba_set ?_ ?_ _; rotate_left; (first | omega | (simp; omega) | simp)))))).mono ?_); rintro e w1 ⟨Aw1, cw1, rfl, how1, hbw1⟩; obtain ⟨hcw1, hfw1⟩ := bcell hbw1; have hzw1_0 : w.heap.size < w1.heap.size := lt_via hbw1 (by first | omega | (simp; done) | (simp; omega)); have hzw1_1 : w.heap.size + 1 < w1.heap.size := lt_via hbw1 (by first | omega | (simp; done) | (simp; omega))))
  have hbel1 : Below w.heap.size w w1 := (by repeat (first | exact Below.refl _ _ | assumption | refine ba_alloc ?_ _ | refine ba_drew ?_ | refine ba_drewN ?_ _ | refine ba_via (by assumption) ?_ | (refine ba_set ?_ ?_ _; rotate_left; (first | omega | (simp; omega) | simp))))
  have hK1 : Blk (w1.alloc (.cells #[.int .i64 r.at_.x, .int .i64 r.at_.y, .int .i64 r.at_.z] 96)) w1.heap.size 96 #[.int .i64 r.at_.x, .int .i64 r.at_.y, .int .i64 r.at_.z] := Blk.new _ _ _
  have hRB1 : Blk (w1.alloc (.cells #[.int .i64 r.at_.x, .int .i64 r.at_.y, .int .i64 r.at_.z] 96)) (w.heap.size + 1) 123 #[.string r.mark, .int .i64 r.tx, .int .i64 r.ty, .int .i64 r.at_.x, .int .i64 r.at_.y, .int .i64 r.at_.z, .int .i64 r.step.x, .int .i64 r.step.y, .int .i64 r.step.z, .int .i64 r.count] :=
    (Blk.via (by simpa using Blk.new (w.alloc (.cells #[.string b.mark, .int .i64 b.size, .int .i64 b.count, .int .i64 b.code, .slice A n c] 119)) 123 #[.string r.mark, .int .i64 r.tx, .int .i64 r.ty, .int .i64 r.at_.x, .int .i64 r.at_.y, .int .i64 r.at_.z, .int .i64 r.step.x, .int .i64 r.step.y, .int .i64 r.step.z, .int .i64 r.count]) hbw1).alloc _
  have hsP := ((own_cells how1 (by unfold maxLen; omega)).1).alloc (Nat.le_refl _) (.cells #[.int .i64 r.at_.x, .int .i64 r.at_.y, .int .i64 r.at_.z] 96)
  have hbel : Below w.heap.size w (w1.alloc (.cells #[.int .i64 r.at_.x, .int .i64 r.at_.y, .int .i64 r.at_.z] 96)) := ba_alloc hbel1 _
  have hz11 : w1.heap.size < (w1.alloc (.cells #[.int .i64 r.at_.x, .int .i64 r.at_.y, .int .i64 r.at_.z] 96)).heap.size := by simp
  clear hcw1 hfw1 how1 hbw1 HP HA
  generalize (w1.alloc (.cells #[.int .i64 r.at_.x, .int .i64 r.at_.y, .int .i64 r.at_.z] 96)) = W1 at *
  have hrl := hRB1.lt
  by_cases hk : 0 < k0
  case' pos =>
    have hki : (0 : Int) < (k0 : Int) := by omega
    have HTMk := Lib.hid (HTM.out hk)
    have HADk := Lib.hid (HAD.out hk)
    have r6 := hRB1.cell 6
    have r7 := hRB1.cell 7
    have r8 := hRB1.cell 8
    have q0 := hK1.cell 0
    have q1 := hK1.cell 1
    have q2 := hK1.cell 2
    simp only [List.getElem?_toArray, List.getElem?_cons_zero, List.getElem?_cons_succ] at r6 r7 r8 q0 q1 q2
    have f0 := hK1.frozen 0
    have f1 := hK1.frozen 1
    have f2 := hK1.frozen 2
    rw [plus_times] at HADk
    generalize S.times k0 r.step = T at *
    generalize hQ : S.plus r.at_ r.step k0 = Q at *
    have HQ := Lib.hid hQ
    clear hQ
    go_wp2
    refine wp_region_grow_tail 6 (by kernel_rfl) (by kernel_rfl) ?_
    simp only [List.take_succ_cons, List.take_zero, List.drop_succ_cons, List.drop_zero]
    repeat (go_big_quiet_step ((first
      | (go_at_call 158; with_reducible exact grow_of (HTMk.out _))
      | (go_at_call 157; with_reducible exact grow_of (HADk.out _)))))
    all_goals (refine wpQuiet_nil ?_; intro wg hbwg; obtain ⟨hcwg, hfwg⟩ := bcell hbwg)
    go_upto_region 5 with fail
    have hK2 : Blk (((wg.setCell ⟨w1.heap.size, 0, none⟩ (.int .i64 Q.x)).setCell ⟨w1.heap.size, 1, none⟩ (.int .i64 Q.y)).setCell ⟨w1.heap.size, 2, none⟩ (.int .i64 Q.z)) w1.heap.size 96 #[.int .i64 Q.x, .int .i64 Q.y, .int .i64 Q.z] := by
      have h6 := (((hK1.via hbwg).set 0 (.int .i64 Q.x)).set 1 (.int .i64 Q.y)).set 2 (.int .i64 Q.z)
      simp only [List.setIfInBounds_toArray, List.set_cons_zero, List.set_cons_succ] at h6
      exact h6
    have hne : w.heap.size + 1 ≠ w1.heap.size := by omega
    have hRB2 : Blk (((wg.setCell ⟨w1.heap.size, 0, none⟩ (.int .i64 Q.x)).setCell ⟨w1.heap.size, 1, none⟩ (.int .i64 Q.y)).setCell ⟨w1.heap.size, 2, none⟩ (.int .i64 Q.z)) (w.heap.size + 1) 123 #[.string r.mark, .int .i64 r.tx, .int .i64 r.ty, .int .i64 r.at_.x, .int .i64 r.at_.y, .int .i64 r.at_.z, .int .i64 r.step.x, .int .i64 r.step.y, .int .i64 r.step.z, .int .i64 r.count] := (((hRB1.via hbwg).far hne _).far hne _).far hne _
    have hX2 : Exc [w1.heap.size] W1 (((wg.setCell ⟨w1.heap.size, 0, none⟩ (.int .i64 Q.x)).setCell ⟨w1.heap.size, 1, none⟩ (.int .i64 Q.y)).setCell ⟨w1.heap.size, 2, none⟩ (.int .i64 Q.z)) := (((Exc.of_below1 hbwg).set (.inl (by simp)) _).set (.inl (by simp)) _).set (.inl (by simp)) _
    have hb2 : Below w.heap.size w (((wg.setCell ⟨w1.heap.size, 0, none⟩ (.int .i64 Q.x)).setCell ⟨w1.heap.size, 1, none⟩ (.int .i64 Q.y)).setCell ⟨w1.heap.size, 2, none⟩ (.int .i64 Q.z)) := hbel.trans (hX2.below hbel.size (by intro g hg; simp at hg; have := hbel1.size; omega))
    have hs2 := hsP.below (hX2.below (B := w1.heap.size) (by omega) (by intro g hg; simp at hg; omega))
    have hz2 : w1.heap.size < (((wg.setCell ⟨w1.heap.size, 0, none⟩ (.int .i64 Q.x)).setCell ⟨w1.heap.size, 1, none⟩ (.int .i64 Q.y)).setCell ⟨w1.heap.size, 2, none⟩ (.int .i64 Q.z)).heap.size := hK2.lt
    clear hcwg hfwg r6 r7 r8 q0 q1 q2 f0 f1 f2 HTMk HADk hK1 hRB1 hX2
    clear hbwg hsP
    generalize (((wg.setCell ⟨w1.heap.size, 0, none⟩ (.int .i64 Q.x)).setCell ⟨w1.heap.size, 1, none⟩ (.int .i64 Q.y)).setCell ⟨w1.heap.size, 2, none⟩ (.int .i64 Q.z)) = W2 at *
  case' neg =>
    have hb2 := hbel
    have hz2 := hz11
    have hK2 := hK1
    have hRB2 := hRB1
    have hs2 := hsP
    rw [← HZ.out hk] at hK2
    clear hK1 hRB1 hbel hsP
    generalize hQ : S.plus r.at_ r.step k0 = Q at *
    have HQ := Lib.hid hQ
    clear hQ
    generalize W1 = W2 at *
    have hki : ¬ (0 : Int) < (k0 : Int) := by omega
  all_goals (
    have hHL := Lib.hid (show ∀ i (p : Pt), (S.path b)[i]? = some p → (((S.path b).take (i + 1)).map (fun p => S.padd Q (S.image r.tx r.ty p))).flatMap ptC = (((S.path b).take i).map (fun p => S.padd Q (S.image r.tx r.ty p))).flatMap ptC ++ ptC (S.padd Q (S.image r.tx r.ty p)) from fun i p hp => by
      obtain ⟨hi, rfl⟩ := List.getElem?_eq_some_iff.1 hp
      rw [List.take_succ_eq_append_getElem hi, List.map_append, List.flatMap_append]
      simp)
    have hL6 := hl6
    have hrl2 := hRB2.lt
    go_wp2
    go_loopw [9, 10] (fun v i wr => ∃ (k : Nat) (A3 : Option Addr) (c3 : Nat), k ≤ L + 1 ∧ i = .int .i64 k ∧ v = .slice A3 k c3 ∧ Row W2 wr none w.heap.size 96 3 (.slice A3 k c3) k ((((S.path b).take k).map (fun p => S.padd Q (S.image r.tx r.ty p))).flatMap ptC) ∧ Exc [] W2 wr) (fun _ i _ => L + 1 - (intOf i).toNat)
    case atStart => exact ⟨0, none, 0, Nat.zero_le _, rfl, rfl, by simpa using Row.none_ _ _ _ _, Exc.refl _ _⟩
    case round =>
      obtain ⟨k, A3, c3, hk, rfl, rfl, hR, hX⟩ := hrel
      have hbx : Below W2.heap.size W2 wr := hX.below (Nat.le_refl _) (by simp)
      by_cases hlt : k < L + 1
      · have hkx : k < (S.path b).length := by have := HLP.out; omega
        have hs' := hs2.below (hbx.mono (Nat.le_of_lt hz2))
        obtain ⟨b4, o4, rfl, hbl, _⟩ := hs'.at_ (by rw [flat_len ptC 3 ptC_len]; omega)
        obtain ⟨c0, c1, c2⟩ := hs'.pts (List.getElem?_eq_getElem hkx)
        have HT := Lib.hid (hHL.out k _ (List.getElem?_eq_getElem hkx))
        have hpi := HPI.out k _ (List.getElem?_eq_getElem hkx)
        have HIMk := Lib.hid (HIM.out _ hpi)
        have HPLk := Lib.hid (HPL.out _ hpi)
        clear hs' hpi
        generalize (S.path b)[k] = p at *
        generalize S.image r.tx r.ty p = I at *
        generalize S.padd Q I = R at *
        have hsz := hbx.size
        have q0 := (hK2.via hbx).cell 0
        have q1 := (hK2.via hbx).cell 1
        have q2 := (hK2.via hbx).cell 2
        have r1 := (hRB2.via hbx).cell 1
        have r2 := (hRB2.via hbx).cell 2
        simp only [List.getElem?_toArray, List.getElem?_cons_zero, List.getElem?_cons_succ] at q0 q1 q2 r1 r2
        have hl1 : b4 < wr.heap.size := by omega
        have hl2 : w1.heap.size < wr.heap.size := by omega
        have hl3 : w.heap.size + 1 < wr.heap.size := by omega
        have hki : (k : Int) < ((L + 1 : Nat) : Int) := by omega
        have hk8 : k ≤ 8 := by omega
        go_wp2
        refine wp_region_grow_tail1 10 (by kernel_rfl) (by kernel_rfl) (fun _ _ _ h => h) (Or.inl ⟨by rfl, fun _ => by rfl⟩) ?_
        simp only [List.take_succ_cons, List.take_zero, List.drop_succ_cons, List.drop_zero, go_sem, List.setIfInBounds_toArray, List.set_cons_succ, List.set_cons_zero, Array.getD_eq_getD_getElem?, List.getElem?_toArray, List.getElem?_cons_succ, List.getElem?_cons_zero, Option.getD_some]
        repeat (go_big_quiet_step ((first
          | (go_at_call 159; with_reducible exact grow_of (HIMk.out _))
          | (go_at_call 157; with_reducible exact grow_of (HPLk.out _)))))
        all_goals (refine wpQuiet_nil ?_; intro wg hbwg; obtain ⟨hcwg, hfwg⟩ := bcell hbwg)
        go_wp2_with (at_builtin; refine wpList_push rfl (.tmp 29) (.tmp 39) _ rfl elemPt ((hR.via hbwg).alloc _) ((Exc.via hbwg hX).alloc _) (by simp) hb2.size rfl (wg.heap.size) 1 1 [.int .i64 R.x, .int .i64 R.y, .int .i64 R.z] rfl rfl ?_ (by simp [Value.oneCell']) (by unfold maxLen; omega) (by omega) ?_; (· intro j u hu; exact by have := (Cells.newRow wg #[.int .i64 R.x, .int .i64 R.y, .int .i64 R.z] 96 (0, 0)).get (k := j) (v := u) hu; rwa [Nat.zero_add] at this); intro v' w' hR' hX' hO'; clear hcwg hfwg)
        obtain ⟨A5, c5, rfl, _, _, _⟩ := own_form hR'.own
        go_roundw
        case rel => exact ⟨k + 1, A5, c5, by omega, by go_num, rfl, by rw [HT.out]; exact hR', hX'⟩
        case measure => simp [intOf]; omega
      · have he : k = L + 1 := by omega
        have HT := Lib.hid (show (S.path b).take k = S.path b from List.take_of_length_le (by have := HLP.out; omega))
        subst he
        go_wp2
        go_ret
        refine ⟨A3, c3, rfl, ?_, ba_via hbx hb2⟩
        have := hR.own
        rw [HT.out, ← HQ.out] at this
        exact this)
end Go.Proofs.YtplaghmehbkcnaaGreat
set_option linter.unusedVariables false
set_option linter.unusedSimpArgs false
namespace Go.Proofs.YtplaghmehbkcnaaGreat
open Go.RowKit
set_option maxHeartbeats 1000000 in
theorem rsched_any (l : List BarR) (A : Option Addr) (n c : Nat) (B : Nat) (w : World) (hB : B ≤ w.heap.size) (hA : BarsAt w B A n l) :
    Calls Tryz.prog 73 #[.slice A n c] w fun e w' => e = .returned (.bool (S.sched (bars l))) ∧ Below w.heap.size w w' := by
  have HA := Lib.hid hA
  have hL : (bars l).length = n := by simpa using hA.len
  have HL := Lib.hid hL
  clear hA
  by_cases h60 : 60 < n
  · have HS := Lib.hid (show S.sched (bars l) = false from by unfold S.sched; rw [hL]; simp; omega)
    clear hL
    go_enter Tryz.func73, Tryz.ntmps73
    go_wp2
    go_ret
    exact ⟨ret_b HS.out.symm, (by repeat (first | exact Below.refl _ _ | assumption | refine ba_alloc ?_ _ | refine ba_drew ?_ | refine ba_drewN ?_ _ | refine ba_via (by assumption) ?_ | (refine ba_set ?_ ?_ _; rotate_left; (first | omega | (simp; omega) | simp))))⟩
  clear hL
  go_enter Tryz.func73, Tryz.ntmps73
  go_wp2
  go_loopw [3] (fun i wr => ∃ k : Nat, k ≤ n ∧ i = .int .i64 k ∧ (∀ j, j < k → S.schedAt (bars l) j = true) ∧ Below w.heap.size w wr) (fun i _ => n - (intOf i).toNat)
  case atStart => exact ⟨0, Nat.zero_le _, rfl, fun j hj => absurd hj (by omega), Below.refl _ _⟩
  case round =>
    obtain ⟨k, hk, rfl, hno, hbr⟩ := hrel
    have HNO := Lib.hid hno
    clear hno
    by_cases hlt : k < n
    · have hkx : k < l.length := by have := HA.out.len; omega
      have hkb : k < (bars l).length := by have := HL.out; omega
      have hwr : B ≤ wr.heap.size := by have := hbr.size; omega
      have hA' := HA.out.at_ hB hbr
      have HA' := Lib.hid hA'
      have hs' := hA'.cells
      have HE := Lib.hid (hA'.each l[k] (List.getElem_mem hkx))
      obtain ⟨b, o, hAe, hbB, _⟩ := hs'.at_ (by rw [flat_len barC 5 barC_len]; omega)
      have hbl : b < wr.heap.size := by omega
      subst hAe
      have c0 := hs'.row0 barC_len hkx rfl
      have c1 := hs'.rowj barC_len hkx 1 rfl
      have c2 := hs'.rowj barC_len hkx 2 rfl
      have c3 := hs'.rowj barC_len hkx 3 rfl
      have c4 := hs'.rowj barC_len hkx 4 rfl
      have HAT := Lib.hid (schedAt_eq (l := bars l) (k := k) (b := l[k].b) (by simp [hkx]))
      have HNS := Lib.hid (fun h => sched_no (l := bars l) hkb h)
      have HIX := Lib.hid (fun (W : World) (hw : B ≤ W.heap.size) (hh : BarsAt W B (some ⟨b, o, none⟩) n l) => rfind14_any l l[k].b.mark (some ⟨b, o, none⟩) n c B W hw hh)
      have HVX := Lib.hid (fun (W : World) (hw : B ≤ W.heap.size) (hh : BarAt W B l[k].A l[k].n l[k].b) => rvalid12_any l[k].b l[k].A l[k].n l[k].c B W hw hh)
      have hb2 := index_bd (bars l) l[k].b.mark
      clear hA' hs'
      unfold barV at HVX
      generalize S.index (bars l) l[k].b.mark = j at *
      generalize S.bar l[k].b = t at *
      generalize l[k] = r at *
      cases t
      · go_wp2_with (first
          | (go_at_call 110; (with_reducible refine (HVX.out _ hwr HE.out).mono ?_); rintro e w1 ⟨rfl, hbw1⟩; obtain ⟨hcw1, hfw1⟩ := bcell hbw1))
        go_ret
        exact ⟨ret_b (HNS.out (by rw [HAT.out]; simp)).symm, (by repeat (first | exact Below.refl _ _ | assumption | refine ba_alloc ?_ _ | refine ba_drew ?_ | refine ba_drewN ?_ _ | refine ba_via (by assumption) ?_ | (refine ba_set ?_ ?_ _; rotate_left; (first | omega | (simp; omega) | simp))))⟩
      · by_cases hj : j = (k : Int)
        · go_wp2_with (first
            | (go_at_call 110; (with_reducible refine (HVX.out _ hwr HE.out).mono ?_); rintro e w1 ⟨rfl, hbw1⟩; obtain ⟨hcw1, hfw1⟩ := bcell hbw1)
            | (go_at_call 111; (with_reducible refine (HIX.out _ (by have := hbw1.size; omega) (HA'.out.at_ hwr hbw1)).mono ?_); rintro e w2 ⟨rfl, hbw2⟩; obtain ⟨hcw2, hfw2⟩ := bcell hbw2))
          go_roundw
          case rel =>
            refine ⟨k + 1, by omega, by go_num, fun j' hj' => ?_, (by repeat (first | exact Below.refl _ _ | assumption | refine ba_alloc ?_ _ | refine ba_drew ?_ | refine ba_drewN ?_ _ | refine ba_via (by assumption) ?_ | (refine ba_set ?_ ?_ _; rotate_left; (first | omega | (simp; omega) | simp))))⟩
            by_cases hjk : j' = k
            · subst hjk; rw [HAT.out]; simp [hj]
            · exact HNO.out j' (by omega)
          case measure => simp [intOf]; omega
        · go_wp2_with (first
            | (go_at_call 110; (with_reducible refine (HVX.out _ hwr HE.out).mono ?_); rintro e w1 ⟨rfl, hbw1⟩; obtain ⟨hcw1, hfw1⟩ := bcell hbw1)
            | (go_at_call 111; (with_reducible refine (HIX.out _ (by have := hbw1.size; omega) (HA'.out.at_ hwr hbw1)).mono ?_); rintro e w2 ⟨rfl, hbw2⟩; obtain ⟨hcw2, hfw2⟩ := bcell hbw2))
          go_ret
          exact ⟨ret_b (HNS.out (by rw [HAT.out]; simp [hj])).symm, (by repeat (first | exact Below.refl _ _ | assumption | refine ba_alloc ?_ _ | refine ba_drew ?_ | refine ba_drewN ?_ _ | refine ba_via (by assumption) ?_ | (refine ba_set ?_ ?_ _; rotate_left; (first | omega | (simp; omega) | simp))))⟩
    · go_wp2
      go_ret
      exact ⟨ret_b (sched_yes (by have := HL.out; omega) (fun j hj => HNO.out j (by have := HL.out; omega))).symm, hbr⟩
theorem rrun_no0 (l : List BarR) (r : Rn) (A : Option Addr) (n c : Nat) (B : Nat) (w : World) (hB : B ≤ w.heap.size) (hA : BarsAt w B A n l) (h : S.rightHead (bars l) r = false) :
    Calls Tryz.prog 74 #[.slice A n c, rnV r] w fun e w' => e = .returned (.bool false) ∧ Below w.heap.size w w' := by
  have HA := Lib.hid hA
  have HI := Lib.hid (fun (W : World) (hw : B ≤ W.heap.size) (hh : BarsAt W B A n l) => rfind14_any l r.mark A n c B W hw hh)
  have HV := Lib.hid (fun w => rturn_any r.tx r.ty w)
  have HP := Lib.hid (fun w => rnear1_any r.at_ w)
  unfold S.rightHead at h
  generalize S.index (bars l) r.mark = j at *
  generalize S.turn r.tx r.ty = t1 at *
  generalize S.near1 r.at_ 1048576 = t2 at *
  have hcs : j < 0 ∨ (¬ j < 0 ∧ t1 = false) ∨ (¬ j < 0 ∧ t1 = true ∧ r.count < 1) ∨ (¬ j < 0 ∧ t1 = true ∧ ¬ r.count < 1 ∧ 1000 < r.count) ∨ (¬ j < 0 ∧ t1 = true ∧ ¬ r.count < 1 ∧ ¬ 1000 < r.count ∧ t2 = false) := by
    by_cases h0 : j < 0
    · exact .inl h0
    · cases t1
      · exact .inr (.inl ⟨h0, rfl⟩)
      · by_cases h1 : r.count < 1
        · exact .inr (.inr (.inl ⟨h0, rfl, h1⟩))
        · by_cases h2 : 1000 < r.count
          · exact .inr (.inr (.inr (.inl ⟨h0, rfl, h1, h2⟩)))
          · cases t2
            · exact .inr (.inr (.inr (.inr ⟨h0, rfl, h1, h2, rfl⟩)))
            · exfalso
              have h3 : 1 ≤ r.count := by omega
              have h4 : r.count ≤ 1000 := by omega
              simp [h0, h3, h4] at h
  clear hA h
  unfold turnV at HV
  unfold ptV at HP
  unfold rnV
  rcases hcs with h0 | ⟨h0, rfl⟩ | ⟨h0, rfl, h1⟩ | ⟨h0, rfl, h1, h2⟩ | ⟨h0, rfl, h1, h2, rfl⟩
  all_goals (
    go_enter Tryz.func74, Tryz.ntmps74
    go_wp2_with (first
      | (go_at_call 111; (with_reducible refine (HI.out _ (by simp; omega) (HA.out.at_ hB (by repeat (first | exact Below.refl _ _ | assumption | refine ba_alloc ?_ _ | refine ba_drew ?_ | refine ba_drewN ?_ _ | refine ba_via (by assumption) ?_ | (refine ba_set ?_ ?_ _; rotate_left; (first | omega | (simp; omega) | simp)))))).mono ?_); rintro e w1 ⟨rfl, hbw1⟩; obtain ⟨hcw1, hfw1⟩ := bcell hbw1; have hzw1_0 : w.heap.size < w1.heap.size := lt_via hbw1 (by first | omega | (simp; done) | (simp; omega)))
      | (go_at_call 112; (with_reducible refine (HV.out _).mono ?_); rintro e w2 ⟨rfl, hbw2⟩; obtain ⟨hcw2, hfw2⟩ := bcell hbw2; have hzw2_0 : w.heap.size < w2.heap.size := lt_via hbw2 (by first | omega | (simp; done) | (simp; omega)))
      | (go_at_call 113; (with_reducible refine (HP.out _).mono ?_); rintro e w3 ⟨rfl, hbw3⟩; obtain ⟨hcw3, hfw3⟩ := bcell hbw3; have hzw3_0 : w.heap.size < w3.heap.size := lt_via hbw3 (by first | omega | (simp; done) | (simp; omega))))
    go_ret
    exact ⟨rfl, (by repeat (first | exact Below.refl _ _ | assumption | refine ba_alloc ?_ _ | refine ba_drew ?_ | refine ba_drewN ?_ _ | refine ba_via (by assumption) ?_ | (refine ba_set ?_ ?_ _; rotate_left; (first | omega | (simp; omega) | simp))))⟩)
theorem rrun_no1 (l : List BarR) (r : Rn) (A : Option Addr) (n c : Nat) (B : Nat) (w : World) (hB : B ≤ w.heap.size) (hA : BarsAt w B A n l) (h : S.rightHead (bars l) r = true) (h' : S.rightStep r = false) :
    Calls Tryz.prog 74 #[.slice A n c, rnV r] w fun e w' => e = .returned (.bool false) ∧ Below w.heap.size w w' := by
  have HA := Lib.hid hA
  obtain ⟨⟨h0, h1, h2⟩, h3, h4⟩ := rightHead_out h
  have HI := Lib.hid (fun (W : World) (hw : B ≤ W.heap.size) (hh : BarsAt W B A n l) => rfind14_any l r.mark A n c B W hw hh)
  have HV := Lib.hid (fun w => h1 ▸ rturn_any r.tx r.ty w)
  have HP := Lib.hid (fun w => h2 ▸ rnear1_any r.at_ w)
  have HS := Lib.hid (fun w => rtwice_any r.step w)
  have hz : ∀ W, (binOp .eql 96 (.agg #[.int .i64 r.step.x, .int .i64 r.step.y, .int .i64 r.step.z]) (.agg #[.int .i64 0, .int .i64 0, .int .i64 0])).run Tryz.prog W = .ok (.bool (S.pt0 r.step)) W := fun W => run_eq0 r.step W
  have z91 : ∀ W, (Instr.build 96 #[]).run Tryz.prog W = .ok (.agg #[.int .i64 0, .int .i64 0, .int .i64 0]) W := fun _ => by kernel_rfl
  unfold S.rightStep at h'
  clear hA h
  generalize S.index (bars l) r.mark = j at *
  generalize S.near1 r.step 2097152 = t2 at *
  generalize S.pt0 r.step = t1 at *
  have hj : ¬ j < 0 := by omega
  have hcs : (1 < r.count ∧ t1 = true) ∨ (1 < r.count ∧ t1 = false ∧ t2 = false) := by
    by_cases h5 : 1 < r.count
    · cases t1
      · cases t2
        · exact .inr ⟨h5, rfl, rfl⟩
        · simp [h5] at h'
      · exact .inl ⟨h5, rfl⟩
    · simp [h5] at h'
  clear h0 h1 h2 h'
  unfold turnV at HV
  unfold ptV at HP HS
  unfold rnV
  rcases hcs with ⟨h5, rfl⟩ | ⟨h5, rfl, rfl⟩
  all_goals (
    go_enter Tryz.func74, Tryz.ntmps74
    go_wp2_with (first
      | (go_at_call 111; (with_reducible refine (HI.out _ (by simp; omega) (HA.out.at_ hB (by repeat (first | exact Below.refl _ _ | assumption | refine ba_alloc ?_ _ | refine ba_drew ?_ | refine ba_drewN ?_ _ | refine ba_via (by assumption) ?_ | (refine ba_set ?_ ?_ _; rotate_left; (first | omega | (simp; omega) | simp)))))).mono ?_); rintro e w1 ⟨rfl, hbw1⟩; obtain ⟨hcw1, hfw1⟩ := bcell hbw1; have hzw1_0 : w.heap.size < w1.heap.size := lt_via hbw1 (by first | omega | (simp; done) | (simp; omega)))
      | (go_at_call 112; (with_reducible refine (HV.out _).mono ?_); rintro e w2 ⟨rfl, hbw2⟩; obtain ⟨hcw2, hfw2⟩ := bcell hbw2; have hzw2_0 : w.heap.size < w2.heap.size := lt_via hbw2 (by first | omega | (simp; done) | (simp; omega)))
      | (go_at_call 113; (with_reducible refine (HP.out _).mono ?_); rintro e w3 ⟨rfl, hbw3⟩; obtain ⟨hcw3, hfw3⟩ := bcell hbw3; have hzw3_0 : w.heap.size < w3.heap.size := lt_via hbw3 (by first | omega | (simp; done) | (simp; omega)))
      | (go_at_call 114; (with_reducible refine (HS.out _).mono ?_); rintro e w4 ⟨rfl, hbw4⟩; obtain ⟨hcw4, hfw4⟩ := bcell hbw4; have hzw4_0 : w.heap.size < w4.heap.size := lt_via hbw4 (by first | omega | (simp; done) | (simp; omega))))
    go_ret
    exact ⟨rfl, (by repeat (first | exact Below.refl _ _ | assumption | refine ba_alloc ?_ _ | refine ba_drew ?_ | refine ba_drewN ?_ _ | refine ba_via (by assumption) ?_ | (refine ba_set ?_ ?_ _; rotate_left; (first | omega | (simp; omega) | simp))))⟩)
end Go.Proofs.YtplaghmehbkcnaaGreat
set_option linter.unusedVariables false
set_option linter.unusedSimpArgs false
namespace Go.Proofs.YtplaghmehbkcnaaGreat
open Go.RowKit
/-- What an operation has left in its slot. -/
def slotV (a : Act) (o : Oper) : Value := match o.dst with | some s => a.tmps.getD s undef | none => undef
theorem cnt_set : ∀ (l : List Bool) (i : Nat), l[i]? = some false → (l.set i true).count false + 1 = l.count false := by
  intro l
  induction l with
  | nil => intro i h; simp at h
  | cons b l ih =>
    intro i h
    cases i with
    | zero =>
      simp only [List.getElem?_cons_zero, Option.some.injEq] at h
      subst h
      simp
    | succ i =>
      simp only [List.getElem?_cons_succ] at h
      have := ih i h
      cases b <;> simp <;> omega
section
variable {P : Program} {l : List Oper} {V : Nat → Value → World → Prop} {S : Act → World → Prop} {G : World → World → Prop} {Q : Exit → Act → World → Prop}
theorem slot_put {a : Act} {oi oj : Oper} {v : Value} (h : oi.dst.isSome = true → oi.dst ≠ oj.dst) : slotV (a.put oj.dst v) oi = slotV a oi := by
  unfold slotV Act.put
  cases hi : oi.dst with
  | none => rfl
  | some s =>
    cases hj : oj.dst with
    | none => rfl
    | some d =>
      have hne : s ≠ d := by
        have := h (by simp [hi])
        rw [hi, hj] at this
        simpa using this
      simp only [Array.getD_eq_getD_getElem?]
      rw [Array.getElem?_setIfInBounds_ne (fun e => hne e.symm)]
theorem slot_same {a : Act} {oj : Oper} {v : Value} (hb : ∀ s, oj.dst = some s → s < a.tmps.size) (hn : oj.dst = none → v = undef) : slotV (a.put oj.dst v) oj = v := by
  unfold slotV Act.put
  cases hj : oj.dst with
  | none => simpa using (hn hj).symm
  | some d =>
    have := hb d hj
    simp [Array.getD_eq_getD_getElem?, this]
theorem wpAny_rel {md : Region.Mode}
    (hV : ∀ i v w w', V i v w → G w w' → V i v w')
    (hearly : ∀ (j : Nat) (oj : Oper), l[j]? = some oj → ∀ e ∈ oj.after, Region.binds md e = true → e.on < j)
    (hdst : ∀ (i j : Nat) (oi oj : Oper), l[i]? = some oi → l[j]? = some oj → i ≠ j → oi.dst.isSome = true → oi.dst ≠ oj.dst)
    (hsz : ∀ (j : Nat) (oj : Oper) (s : Nat) (a : Act) (w : World), l[j]? = some oj → oj.dst = some s → S a w → s < a.tmps.size)
    (hstep : ∀ (j : Nat) (oj : Oper) (a : Act) (w : World), l[j]? = some oj → S a w → (∀ e ∈ oj.after, Region.binds md e = true → ∀ oe, l[e.on]? = some oe → V e.on (slotV a oe) w) →
      wpOp P l.toArray Q j (fun a' w' => ∃ v, a' = a.put oj.dst v ∧ (oj.dst = none → v = undef) ∧ V j v w' ∧ G w w' ∧ S a' w') a w)
    (hend : ∀ (a : Act) (w : World), S a w → (∀ j oj, l[j]? = some oj → V j (slotV a oj) w) → Q .normal a w) :
    ∀ (f : Nat) (listed : Array Bool) (a : Act) (w : World), listed.size = l.length → listed.toList.count false ≤ f → S a w → (∀ j oj, l[j]? = some oj → listed.getD j false = true → V j (slotV a oj) w) →
      wpAny P md l.toArray Q f listed a w := by
  have hlow : ∀ (listed : Array Bool), listed.size = l.length → Region.ready md l.toArray listed = [] → ∀ n, n ≤ l.length → ∀ j, j < n → listed.getD j false = true := by
    intro listed hls hr n
    induction n with
    | zero => intro _ j hj; omega
    | succ n ih =>
      intro hn j hj
      by_cases hjn : j < n
      · exact ih (by omega) j hjn
      · obtain rfl : j = n := by omega
        by_cases hlj : listed.getD j false = true
        · exact hlj
        · exfalso
          have hjl : j < l.length := by omega
          have hm : j ∈ Region.ready md l.toArray listed := by
            rw [mem_ready]
            refine ⟨?_, l[j], by simp [hjl], fun e he hb => ?_⟩
            · have h1 : j < listed.size := by omega
              simp [Array.getD_eq_getD_getElem?, h1] at hlj ⊢
              exact hlj
            · exact ih (by omega) e.on (hearly j l[j] (by simp [hjl]) e he hb)
          rw [hr] at hm
          cases hm
  have hfin : ∀ (listed : Array Bool) (a : Act) (w : World), listed.size = l.length → Region.ready md l.toArray listed = [] → S a w → (∀ j oj, l[j]? = some oj → listed.getD j false = true → V j (slotV a oj) w) → Q .normal a w := by
    intro listed a w hls hr hS hI
    refine hend a w hS (fun j oj hj => hI j oj hj ?_)
    exact hlow listed hls hr l.length (Nat.le_refl _) j (List.getElem?_eq_some_iff.1 hj).1
  intro f
  induction f with
  | zero =>
    intro listed a w hls hc hS hI
    have hr : Region.ready md l.toArray listed = [] := by
      rcases hrr : Region.ready md l.toArray listed with _ | ⟨j, t⟩
      · rfl
      · exfalso
        have hm : j ∈ Region.ready md l.toArray listed := by rw [hrr]; simp
        rw [mem_ready] at hm
        obtain ⟨h1, o, ho, _⟩ := hm
        have hjl : j < l.length := by
          have := (Array.getElem?_eq_some_iff.1 ho).1
          simpa using this
        have h2 : j < listed.size := by omega
        have h3 : listed[j] = false := by simpa [Array.getD_eq_getD_getElem?, h2] using h1
        have : false ∈ listed.toList := by
          rw [← h3]
          simp
        have := List.count_pos_iff.2 this
        omega
    exact ⟨hr, hfin listed a w hls hr hS hI⟩
  | succ f ih =>
    intro listed a w hls hc hS hI
    refine ⟨fun hr => hfin listed a w hls hr hS hI, fun j hj => ?_⟩
    rw [mem_ready] at hj
    obtain ⟨h1, oj, hoj, hdep⟩ := hj
    have hoj' : l[j]? = some oj := by simpa using hoj
    have hjl : j < l.length := (List.getElem?_eq_some_iff.1 hoj').1
    have h2 : j < listed.size := by omega
    have h3 : listed[j] = false := by simpa [Array.getD_eq_getD_getElem?, h2] using h1
    refine wpOp_mono ?_ (hstep j oj a w hoj' hS (fun e he hb oe hoe => hI e.on oe hoe (hdep e he hb)))
    rintro a' w' ⟨v, rfl, hvn, hvj, hg, hS'⟩
    refine ih _ _ _ (by simpa using hls) ?_ hS' (fun i oi hoi hli => ?_)
    · have hcs := cnt_set listed.toList j (by simp [h2, h3])
      rw [Array.toList_setIfInBounds]
      omega
    · by_cases hij : i = j
      · subst hij
        rw [hoj'] at hoi
        injection hoi with hoi
        subst hoi
        rw [slot_same (fun s hs => hsz i oj s a w hoj' hs hS) hvn]
        exact hvj
      · rw [slot_put (fun hs => hdst i j oi oj hoi hoj' hij hs)]
        refine hV _ _ _ _ (hI i oi hoi ?_) hg
        have hil : i < listed.size := by have := (List.getElem?_eq_some_iff.1 hoi).1; omega
        rw [Array.getD_eq_getD_getElem?, Array.getElem?_setIfInBounds_ne (fun e => hij e.symm)] at hli
        rw [Array.getD_eq_getD_getElem?]
        exact hli
/-- The region. -/
theorem wp_region_rel {id : Nat} {a : Act} {w : World} (hm : P.follows .mixedOrders = true)
    (hV : ∀ i v w w', V i v w → G w w' → V i v w')
    (hearly : ∀ (j : Nat) (oj : Oper), l[j]? = some oj → ∀ e ∈ oj.after, Region.binds .any e = true → e.on < j)
    (hdst : ∀ (i j : Nat) (oi oj : Oper), l[i]? = some oi → l[j]? = some oj → i ≠ j → oi.dst.isSome = true → oi.dst ≠ oj.dst)
    (hsz : ∀ (j : Nat) (oj : Oper) (s : Nat) (a : Act) (w : World), l[j]? = some oj → oj.dst = some s → S a w → s < a.tmps.size)
    (h0 : S a w.drew)
    (hstep : ∀ (j : Nat) (oj : Oper) (a : Act) (w : World), l[j]? = some oj → S a w → (∀ e ∈ oj.after, Region.binds .any e = true → ∀ oe, l[e.on]? = some oe → V e.on (slotV a oe) w) →
      wpOp P l.toArray Q j (fun a' w' => ∃ v, a' = a.put oj.dst v ∧ (oj.dst = none → v = undef) ∧ V j v w' ∧ G w w' ∧ S a' w') a w)
    (hend : ∀ (a : Act) (w : World), S a w → (∀ j oj, l[j]? = some oj → V j (slotV a oj) w) → Q .normal a w) : (Code.region id l.toArray true).wp P Q a w := by
  refine wp_region_any hm ?_
  refine wpAny_rel hV hearly hdst hsz hstep hend _ _ a w.drew (by simp) ?_ h0 (fun j oj hj hl => ?_)
  · simp
  · rw [Array.getD_eq_getD_getElem?] at hl
    have hjl : j < l.length := (List.getElem?_eq_some_iff.1 hj).1
    simp [hjl] at hl
end
theorem op_val {P : Program} {ops : Array Oper} {Q : Exit → Act → World → Prop} {j : Nat} {K : Act → World → Prop} {a : Act} {w w' : World} {o : Oper} {v : Value} (ho : ops[j]? = some o) (hg : o.guard = none)
    (hr : (execOp a.eval o).run P w = .ok (.value v) w') (hK : K (a.put o.dst v) w') : wpOp P ops Q j K a w := by
  unfold wpOp
  rw [ho]
  simp only []
  rw [if_pos (by simp [Region.wanted, hg])]
  left
  unfold Oper.wp
  rw [hr]
  exact hK
theorem op_skip {P : Program} {ops : Array Oper} {Q : Exit → Act → World → Prop} {j : Nat} {K : Act → World → Prop} {a : Act} {w w' : World} {o : Oper} (ho : ops[j]? = some o) (hg : o.guard = none)
    (hr : (execOp a.eval o).run P w = .ok .skip w') (hK : K (a.put o.dst undef) w') : wpOp P ops Q j K a w := by
  unfold wpOp
  rw [ho]
  simp only []
  rw [if_pos (by simp [Region.wanted, hg])]
  left
  unfold Oper.wp
  rw [hr]
  exact hK
theorem op_call {P : Program} {ops : Array Oper} {Q : Exit → Act → World → Prop} {j : Nat} {K : Act → World → Prop} {a : Act} {w : World} {o : Oper} {f : FuncId} {args : Array Value} (ho : ops[j]? = some o) (hg : o.guard = none)
    (hr : (execOp a.eval o).run P w = .ok (.enter f args) w) {R : Ending → World → Prop} (hc : Calls P f args w R) (hK : ∀ e w', R e w' → ∃ v, e = .returned v ∧ K (a.put o.dst v) w') : wpOp P ops Q j K a w := by
  unfold wpOp
  rw [ho]
  simp only []
  rw [if_pos (by simp [Region.wanted, hg])]
  left
  unfold Oper.wp
  rw [hr]
  exact hc.mono (fun e w' h => by obtain ⟨v, rfl, hk⟩ := hK e w' h; exact hk)
def earlyB (md : Region.Mode) (l : List Oper) : Bool := (List.range l.length).all fun j => match l[j]? with | some o => o.after.all (fun e => !Region.binds md e || decide (e.on < j)) | none => true
def distB (l : List Oper) : Bool := (List.range l.length).all fun i => (List.range l.length).all fun j => i == j || (match l[i]?, l[j]? with | some oi, some oj => !oi.dst.isSome || (oi.dst != oj.dst) | _, _ => true)
def slotsB (N : Nat) (l : List Oper) : Bool := l.all fun o => match o.dst with | some s => decide (s < N) | none => true
theorem earlyB_out {md : Region.Mode} {l : List Oper} (h : earlyB md l = true) : ∀ (j : Nat) (oj : Oper), l[j]? = some oj → ∀ e ∈ oj.after, Region.binds md e = true → e.on < j := by
  intro j oj hj e he hb
  unfold earlyB at h
  rw [List.all_eq_true] at h
  have := h j (by simpa using (List.getElem?_eq_some_iff.1 hj).1)
  rw [hj] at this
  simp only [Array.all_eq_true_iff_forall_mem] at this
  have := this e he
  simp only [hb, Bool.not_true, Bool.false_or, decide_eq_true_eq] at this
  exact this
theorem distB_out {l : List Oper} (h : distB l = true) : ∀ (i j : Nat) (oi oj : Oper), l[i]? = some oi → l[j]? = some oj → i ≠ j → oi.dst.isSome = true → oi.dst ≠ oj.dst := by
  intro i j oi oj hi hj hij hs
  unfold distB at h
  rw [List.all_eq_true] at h
  have := h i (by simpa using (List.getElem?_eq_some_iff.1 hi).1)
  rw [List.all_eq_true] at this
  have := this j (by simpa using (List.getElem?_eq_some_iff.1 hj).1)
  rw [hi, hj] at this
  simpa [hij, hs] using this
theorem slotsB_out {N : Nat} {l : List Oper} (h : slotsB N l = true) {j : Nat} {oj : Oper} {s : Nat} (hj : l[j]? = some oj) (hs : oj.dst = some s) : s < N := by
  unfold slotsB at h
  rw [List.all_eq_true] at h
  have := h oj (List.mem_of_getElem? hj)
  rw [hs] at this
  simpa using this
theorem exc_setCells (b : Nat) : ∀ (vs : List Value) (o : Nat) (w : World), Exc [b] w (w.setCells b o vs) := by
  intro vs
  induction vs with
  | nil => intro o w; exact Exc.refl _ _
  | cons v r ih =>
    intro o w
    have h1 : Exc [b] w (w.setCell ⟨b, o, none⟩ v) := (Exc.refl _ _).set (.inl (by simp)) v
    have h2 := ih (o + 1) (w.setCell ⟨b, o, none⟩ v)
    exact ⟨h2.os.trans h1.os, h2.tape.trans h1.tape, h2.output.trans h1.output, Nat.le_trans h1.size h2.size, fun k hk hm => (h2.block k (Nat.lt_of_lt_of_le hk h1.size) hm).trans (h1.block k hk hm)⟩
end Go.Proofs.YtplaghmehbkcnaaGreat
set_option linter.unusedVariables false
set_option linter.unusedSimpArgs false
namespace Go.Proofs.YtplaghmehbkcnaaGreat
open Go.RowKit
section
variable {P : Program} {ops : Array Oper} {md : Region.Mode} {C : World → Prop}
/-- Kinds of operations that hand back a value, and call no function. -/
def calmB (o : Oper) : Bool := match o.op with
  | .move _ | .assign _ | .pick _ _ _ | .build _ _ | .load _ _ | .binOp _ _ _ _ _ | .unOp _ _ _ | .convert _ _ _ | .slice _ _ _ _ _ | .fieldAddr _ _ _ | .field _ _ _ | .indexAddr _ _ _ | .index _ _ _ | .extract _ _ | .lookup _ _ _ _ => true
  | .call c => (match c.callee with | .builtin .len => true | .builtin .cap => true | .builtin .max => true | .builtin .min => true | _ => false)
  | _ => false
theorem v_value {s : Sem Value} {n : Next} {w w' : World} (h : (do pure (Next.value (← s)) : Sem Next).run P w = .ok n w') : ∃ v, n = .value v := by
  rw [Sem.run_bind] at h
  cases hs : s.run P w with
  | ok u w1 =>
    rw [hs] at h
    simp only [Result.andThen_ok, Sem.run_pure] at h
    injection h with h1 h2
    exact ⟨u, h1.symm⟩
  | halt x w1 =>
    rw [hs] at h
    cases h
theorem p_value {s : Sem Bool} {a b : Value} {n : Next} {w w' : World} (h : (do pure (Next.value (if ← s then a else b)) : Sem Next).run P w = .ok n w') : ∃ v, n = .value v := by
  rw [Sem.run_bind] at h
  cases hs : s.run P w with
  | ok u w1 =>
    rw [hs] at h
    simp only [Result.andThen_ok, Sem.run_pure] at h
    injection h with h1 h2
    exact ⟨_, h1.symm⟩
  | halt x w1 =>
    rw [hs] at h
    cases h
theorem call_value {ρ : Operand → Value} {c : Call} {t : TypeId} {b : Builtin} (hb : b = .len ∨ b = .cap ∨ b = .max ∨ b = .min) (hc : c.callee = .builtin b) {n : Next} {w w' : World}
    (h : (do let d ← resolve ρ c t; invoke d.target d.args : Sem Next).run P w = .ok n w') : ∃ v, n = .value v := by
  rw [Sem.run_bind] at h
  unfold resolve at h
  simp only [hc, Sem.run_pure, Result.andThen_ok, invoke] at h
  rcases hb with rfl | rfl | rfl | rfl
  all_goals (simp only [builtin] at h; exact v_value h)
theorem calm_value {o : Oper} (hc : calmB o = true) {ρ : Operand → Value} {n : Next} {w w' : World} (h : (execOp ρ o).run P w = .ok n w') : ∃ v, n = .value v := by
  unfold calmB at hc
  unfold execOp at h
  split at hc
  all_goals (rename_i ho; try (rw [ho] at h))
  all_goals (first | exact v_value h | (simp only [Sem.run_pure] at h; injection h with h1 h2; exact ⟨_, h1.symm⟩) | exact p_value h | skip)
  · split at hc
    · rename_i hb; exact call_value (.inl rfl) hb h
    · rename_i hb; exact call_value (.inr (.inl rfl)) hb h
    · rename_i hb; exact call_value (.inr (.inr (.inl rfl))) hb h
    · rename_i hb; exact call_value (.inr (.inr (.inr rfl))) hb h
    · cases hc
  · cases hc
def stopPost : Exit → Act → World → Prop := fun _ _ _ => False
/-- Behind an operation that is not the last one. -/
def segPost (C : World → Prop) (next : Act → World → Prop) : Exit → Act → World → Prop
  | .normal, a, w => C w ∧ next a w
  | _, _, _ => False
theorem calm_at {o : Oper} {a : Act} {w : World} {v : Value} (hc : calmB o = true) (h : o.quietAt P a C w v) : (execOp a.eval o).run P w = .ok (.value v) w := by
  unfold Oper.quietAt at h
  generalize hr : (execOp a.eval o).run P w = r at h
  cases r with
  | ok n w' =>
    obtain ⟨u, rfl⟩ := calm_value hc hr
    obtain ⟨rfl, rfl⟩ := h
    rfl
  | halt x w' => exact (show False from h).elim
theorem yields_one {o : Oper} {a : Act} {w : World} {v v' : Value} (hc : calmB o = true) (hw : C w) (h : YieldsIn P ops C o v a) (h' : YieldsIn P ops C o v' a) : v = v' := by
  rcases h with ⟨h1, h2⟩ | ⟨h1, rfl⟩ <;> rcases h' with ⟨g1, g2⟩ | ⟨g1, rfl⟩
  · have e1 := calm_at hc (h2 w hw)
    rw [calm_at hc (g2 w hw)] at e1
    injection e1 with e1 _
    injection e1 with e1
    exact e1.symm
  · rw [h1] at g1; cases g1
  · rw [h1] at g1; cases g1
  · rfl
theorem lets_stop (h : LetsOut stopPost) : False := by
  obtain ⟨_, _, h⟩ := h
  exact h
theorem wpOp_putC {j : Nat} {oi oj : Oper} {v : Value} (hj : ops[j]? = some oj) (hap : oi.apart ops oj = true) (hsi : ∀ cs b, oi.op ≠ .select cs b) (hsj : ∀ cs b, oj.op ≠ .select cs b) {K : Act → World → Prop} {a : Act} {w : World}
    (hy : YieldsIn P ops C oi v a) (h : wpOp P ops stopPost j K (a.put oi.dst v) w) : wpOp P ops stopPost j (fun a' w' => YieldsIn P ops C oi v a' ∧ K (a'.put oi.dst v) w') a w := by
  obtain ⟨h1, h2, h3⟩ := Oper.apart_spec hap
  have keep : ∀ (a : Act), YieldsIn P ops C oi v a → ∀ u, YieldsIn P ops C oi v (a.put oj.dst u) := fun a hy u =>
    hy.of_same (execOp_put oi hsi a oj.dst u h3) (wanted_put oi a oj.dst u h3)
  have keepD : ∀ d, YieldsIn P ops C oi v { a with defers := d :: a.defers } := fun d => hy.of_same rfl rfl
  unfold wpOp at *
  simp only [hj] at *
  rw [wanted_put oj a oi.dst v h1] at h
  split
  · rename_i hw
    simp only [hw, if_true] at h
    rcases h with h | ⟨hasks, hlets⟩
    case inr => exact (lets_stop hlets).elim
    refine .inl ?_
    unfold Oper.wp at *
    rw [execOp_put oj hsj a oi.dst v h1] at h
    generalize (execOp a.eval oj).run P w = r at *
    cases r with
    | ok n w' =>
      cases n <;> simp only [Oper.upon] at h ⊢
      case value u => exact ⟨keep a hy u, by rw [← Act.put_comm a v u h2]; exact h⟩
      case skip => exact ⟨keep a hy _, by rw [← Act.put_comm a v undef h2]; exact h⟩
      case defer d =>
        refine ⟨keep _ (keepD d) _, ?_⟩
        rw [← Act.put_comm _ v undef h2, ← Act.put_defers]
        exact h
      case enter f args =>
        refine Calls.mono h fun e w'' he => ?_
        cases e with
        | returned u => exact ⟨keep a hy u, by rw [← Act.put_comm a v u h2]; exact he⟩
        | panicked c => exact he
        | outgrown => exact he
      case row row args => exact Rows.mono h fun u w'' he => ⟨keep a hy u, by rw [← Act.put_comm a v u h2]; exact he⟩
    | halt x w' =>
      cases x <;> simp only [Oper.upon] at h ⊢
      case panic u => exact h
  · rename_i hw
    simp only [hw] at h
    exact ⟨keep a hy _, by rw [← Act.put_comm a v undef h2]; exact h⟩
theorem wpOp_back {i : Nat} {oi oj : Oper} {v : Value} (hi : ops[i]? = some oi) (hap : oi.apart ops oj = true) (hsi : ∀ cs b, oi.op ≠ .select cs b) (hsj : ∀ cs b, oj.op ≠ .select cs b) {K K' : Act → World → Prop} {a : Act} {w : World}
    (hy : YieldsIn P ops C oj v a) (hK : ∀ a' w', YieldsIn P ops C oj v a' → K a' w' → K' (a'.put oj.dst v) w') (h : wpOp P ops stopPost i K a w) : wpOp P ops stopPost i K' (a.put oj.dst v) w := by
  obtain ⟨h3, h2, h1⟩ := Oper.apart_spec hap
  have h2' : ∀ d, oj.dst = some d → oi.dst ≠ some d := fun d hd he => h2 d he hd
  have keep : ∀ (a : Act), YieldsIn P ops C oj v a → ∀ u, YieldsIn P ops C oj v (a.put oi.dst u) := fun a hy u =>
    hy.of_same (execOp_put oj hsj a oi.dst u h3) (wanted_put oj a oi.dst u h3)
  have keepD : ∀ d, YieldsIn P ops C oj v { a with defers := d :: a.defers } := fun d => hy.of_same rfl rfl
  unfold wpOp at *
  simp only [hi] at *
  rw [wanted_put oi a oj.dst v h1]
  split
  · rename_i hw
    simp only [hw, if_true] at h
    rcases h with h | ⟨hasks, hlets⟩
    case inr => exact (lets_stop hlets).elim
    refine .inl ?_
    unfold Oper.wp at *
    rw [execOp_put oi hsi a oj.dst v h1]
    generalize (execOp a.eval oi).run P w = r at *
    cases r with
    | ok n w' =>
      cases n <;> simp only [Oper.upon] at h ⊢
      case value u => rw [Act.put_comm a v u h2']; exact hK _ _ (keep a hy u) h
      case skip => rw [Act.put_comm a v undef h2']; exact hK _ _ (keep a hy _) h
      case defer d =>
        have := hK _ _ (keep _ (keepD d) _) h
        rw [← Act.put_comm _ v undef h2', ← Act.put_defers] at this
        exact this
      case enter f args =>
        refine Calls.mono h fun e w'' he => ?_
        cases e with
        | returned u =>
          simp only [] at he ⊢
          rw [Act.put_comm a v u h2']; exact hK _ _ (keep a hy u) he
        | panicked c => exact he
        | outgrown => exact he
      case row row args => exact Rows.mono h fun u w'' he => by rw [Act.put_comm a v u h2']; exact hK _ _ (keep a hy u) he
    | halt x w' =>
      cases x <;> simp only [Oper.upon] at h ⊢
      case panic u => exact h
  · rename_i hw
    simp only [hw] at h
    rw [Act.put_comm a v undef h2']
    exact hK _ _ (keep a hy _) h
theorem wpOp_some {i : Nat} {oi : Oper} (hi : ops[i]? = some oi) {K : Act → World → Prop} {a : Act} {w : World} (h : wpOp P ops stopPost i K a w) :
    ∃ a0 u w', K (a0.put oi.dst u) w' ∧ (a0 = a ∨ ∃ d, a0 = { a with defers := d :: a.defers }) := by
  unfold wpOp at h
  simp only [hi] at h
  split at h
  · rcases h with h | ⟨_, hlets⟩
    case inr => exact (lets_stop hlets).elim
    unfold Oper.wp at h
    generalize (execOp a.eval oi).run P w = r at *
    cases r with
    | ok n w' =>
      cases n <;> simp only [Oper.upon] at h
      case value u => exact ⟨a, u, w', h, .inl rfl⟩
      case skip => exact ⟨a, _, w', h, .inl rfl⟩
      case defer d => exact ⟨_, _, w', h, .inr ⟨d, rfl⟩⟩
      case enter f args =>
        obtain ⟨e, w'', fr, he, _⟩ := h []
        cases e with
        | returned u => exact ⟨a, u, w'', he, .inl rfl⟩
        | panicked c => exact (show False from he).elim
        | outgrown => exact (lets_stop he).elim
      case row row args =>
        obtain ⟨v, w'', he, _⟩ := h (Frame.ofRow P row args .normal) []
        exact ⟨a, v, w'', he, .inl rfl⟩
    | halt x w' =>
      cases x <;> simp only [Oper.upon] at h
      case panic u => exact (show False from h).elim
  · exact ⟨a, _, w, h, .inl rfl⟩
theorem wp_stop {o : Oper} {K : Act → World → Prop} {Q : Exit → Act → World → Prop} {a : Act} {w : World} (h : o.wp P a w K stopPost) : o.wp P a w K Q := by
  unfold Oper.wp at *
  generalize (execOp a.eval o).run P w = r at *
  cases r with
  | ok n w' =>
    cases n <;> simp only [Oper.upon] at h ⊢ <;> try exact h
    refine Calls.mono h fun e w'' he => ?_
    cases e with
    | returned u => exact he
    | panicked c => exact (show False from he).elim
    | outgrown => exact (lets_stop he).elim
  | halt x w' =>
    cases x <;> simp only [Oper.upon] at h ⊢
    case panic u => exact (show False from h).elim
theorem wpOp_stop {i : Nat} {K : Act → World → Prop} {Q : Exit → Act → World → Prop} {a : Act} {w : World} (h : wpOp P ops stopPost i K a w) : wpOp P ops Q i K a w := by
  unfold wpOp at *
  split
  · rename_i ho; simp only [ho] at h; exact h
  · rename_i o ho
    simp only [ho] at h
    split
    · rename_i hw
      simp only [hw, if_true] at h
      rcases h with h | ⟨_, hlets⟩
      · exact .inl (wp_stop h)
      · exact (lets_stop hlets).elim
    · rename_i hw
      simp only [hw] at h
      exact h
/-- The operations of R that are not listed yet, in the order of the text: those of ks one behind the other, the others without touching the world. -/
def wpMix (P : Program) (ops : Array Oper) (C : World → Prop) (ks : Nat → Bool) (K : Act → World → Prop) (listed : Array Bool) : List Nat → Act → World → Prop
  | [], a, w => K a w
  | i :: R, a, w => if listed.getD i false = true then wpMix P ops C ks K listed R a w
    else if ks i = true then wpOp P ops stopPost i (fun a' w' => C w' ∧ wpMix P ops C ks K listed R a' w') a w
    else qOp P ops C i (fun a' => wpMix P ops C ks K listed R a' w) a
theorem wpMix_congr {ks : Nat → Bool} {K : Act → World → Prop} {l1 l2 : Array Bool} : ∀ {R : List Nat}, (∀ i, i ∈ R → l1.getD i false = l2.getD i false) → wpMix P ops C ks K l1 R = wpMix P ops C ks K l2 R := by
  intro R
  induction R with
  | nil => intro _; rfl
  | cons i R ih =>
    intro h
    have e := ih (fun i hi => h i (List.mem_cons_of_mem _ hi))
    funext a w
    simp only [wpMix, e, h i List.mem_cons_self]
theorem pull {ks : Nat → Bool} {K : Act → World → Prop} (hsel : ∀ (j : Nat) (o : Oper) cs b, ops[j]? = some o → o.op ≠ .select cs b) (hcalm : ∀ i o, ops[i]? = some o → ks i = false → calmB o = true)
    {listed : Array Bool} {j : Nat} {oj : Oper} (hj : ops[j]? = some oj) (hjl : listed.getD j false = false) (hjs : j < listed.size) :
    ∀ R : List Nat, R.Pairwise (· < ·) → j ∈ R → (∀ i, i ∈ R → i < j → listed.getD i false = false → ∃ oi, ops[i]? = some oi ∧ oi.apart ops oj = true) → (ks j = true → ∀ i, i ∈ R → i < j → listed.getD i false = false → ks i = false) →
    ∀ (a : Act) (w : World), C w → wpMix P ops C ks K listed R a w → if ks j = true then wpOp P ops stopPost j (fun a' w' => C w' ∧ wpMix P ops C ks K (listed.setIfInBounds j true) R a' w') a w else qOp P ops C j (fun a' => wpMix P ops C ks K (listed.setIfInBounds j true) R a' w) a := by
  intro R
  induction R with
  | nil => intro _ h; cases h
  | cons i R ih =>
    intro hp hm hap hch a w hC h
    have hjt : (listed.setIfInBounds j true).getD j false = true := by simp [Array.getD_eq_getD_getElem?, hjs]
    obtain ⟨hlt, hpR⟩ := List.pairwise_cons.1 hp
    by_cases hij : i = j
    · subst hij
      have hni : i ∉ R := fun hi => absurd (hlt i hi) (Nat.lt_irrefl _)
      have e : wpMix P ops C ks K (listed.setIfInBounds i true) (i :: R) = wpMix P ops C ks K listed R := by
        funext a w
        simp only [wpMix, hjt, if_true]
        rw [wpMix_congr (fun k hk => getD_set_ne false (fun (e : i = k) => hni (by rw [e]; exact hk)))]
      rw [e]
      simp only [wpMix, hjl, Bool.false_eq_true, if_false] at h
      exact h
    · have hjR : j ∈ R := by
        rcases List.mem_cons.1 hm with h1 | h1
        · exact absurd h1.symm hij
        · exact h1
      have hi_lt := hlt j hjR
      have ih' := ih hpR hjR (fun k hk => hap k (List.mem_cons_of_mem _ hk)) (fun h k hk => hch h k (List.mem_cons_of_mem _ hk))
      have hset : (listed.setIfInBounds j true).getD i false = listed.getD i false := getD_set_ne false (fun e => hij e.symm)
      by_cases hl : listed.getD i false = true
      · simp only [wpMix, hset, hl, if_true] at h ⊢
        exact ih' a w hC h
      · have hl' : listed.getD i false = false := by simpa using hl
        obtain ⟨oi, hoi, hapi⟩ := hap i List.mem_cons_self hi_lt hl'
        simp only [wpMix, hset, hl', Bool.false_eq_true, if_false] at h ⊢
        by_cases hk : ks i = true
        · have hkj : ks j = false := by
            cases hkj : ks j with
            | false => rfl
            | true =>
              have := hch hkj i List.mem_cons_self hi_lt hl'
              rw [hk] at this
              cases this
          simp only [hkj, Bool.false_eq_true, if_false] at ih' ⊢
          rw [if_pos hk] at h
          obtain ⟨a0, u, w1, ⟨hC1, h1⟩, ha0⟩ := wpOp_some hoi h
          obtain ⟨v, hy, _⟩ := yieldsIn_of_qOp hj (ih' _ _ hC1 h1)
          obtain ⟨g1, g2, g3⟩ := Oper.apart_spec hapi
          have hy0 : YieldsIn P ops C oj v a0 := hy.of_same (execOp_put oj (fun cs b => hsel j oj cs b hj) a0 oi.dst u g1).symm (wanted_put oj a0 oi.dst u g1).symm
          have hya : YieldsIn P ops C oj v a := by
            rcases ha0 with rfl | ⟨d, rfl⟩
            · exact hy0
            · exact hy0.of_same rfl rfl
          refine hya.qOp hj ?_
          rw [if_pos hk]
          refine wpOp_back hoi hapi (fun cs b => hsel i oi cs b hoi) (fun cs b => hsel j oj cs b hj) hya (fun a' w' hy' hh => ⟨hh.1, ?_⟩) h
          obtain ⟨v', hv', hn⟩ := yieldsIn_of_qOp hj (ih' _ _ hh.1 hh.2)
          rw [yields_one (hcalm j oj hj hkj) hh.1 hy' hv']
          exact hn
        · have hk' : ks i = false := by simpa using hk
          simp only [hk', Bool.false_eq_true, if_false] at h ⊢
          obtain ⟨v, hy, hn⟩ := yieldsIn_of_qOp hoi h
          have h2 := ih' _ _ hC hn
          by_cases hkj : ks j = true
          · rw [if_pos hkj] at h2 ⊢
            refine wpOp_mono ?_ (wpOp_putC hj hapi (fun cs b => hsel i oi cs b hoi) (fun cs b => hsel j oj cs b hj) hy h2)
            rintro a' w' ⟨hy', hC', hm'⟩
            exact ⟨hC', hy'.qOp hoi hm'⟩
          · rw [if_neg hkj] at h2 ⊢
            refine qOp_mono ?_ (qOp_put hj hapi (fun cs b => hsel i oi cs b hoi) (fun cs b => hsel j oj cs b hj) hy h2)
            rintro a' ⟨hy', hm'⟩
            exact hy'.qOp hoi hm'
theorem wpOp_calm {i : Nat} {oi : Oper} {Q : Exit → Act → World → Prop} {K : Act → Prop} {a : Act} {w : World} (hi : ops[i]? = some oi) (hc : calmB oi = true) (hC : C w) (h : qOp P ops C i K a) : wpOp P ops Q i (fun a' w' => w' = w ∧ K a') a w := by
  obtain ⟨v, hy, hK⟩ := yieldsIn_of_qOp hi h
  unfold wpOp
  simp only [hi]
  rcases hy with ⟨hw, hv⟩ | ⟨hw, rfl⟩
  · rw [if_pos hw]
    refine .inl ?_
    unfold Oper.wp
    rw [calm_at hc (hv w hC)]
    exact ⟨by first | rfl | trivial, hK⟩
  · rw [if_neg (by simp [hw])]
    exact ⟨by first | rfl | trivial, hK⟩
/-- Operation j waits, straight or over others between, for operation i. -/
def linkB (md : Region.Mode) (ops : Array Oper) : Nat → Nat → Nat → Bool
  | 0, _, _ => false
  | f + 1, j, i => Region.waitsFor md ops j i || (List.range' (i + 1) (j - (i + 1))).any (fun k => Region.waitsFor md ops j k && linkB md ops f k i)
theorem link_listed {n : Nat} {listed : Array Bool} (inv : HeadInv md ops n listed) : ∀ (f j i : Nat), linkB md ops f j i = true → listed.getD j false = true → listed.getD i false = true := by
  have hw : ∀ j i, Region.waitsFor md ops j i = true → listed.getD j false = true → listed.getD i false = true := fun j i h hj => by
    obtain ⟨oj, hoj, e, he, hb, hon⟩ := Region.waitsFor_spec h
    have := inv.closed j oj hoj hj e he hb
    rwa [hon] at this
  intro f
  induction f with
  | zero => intro j i h; cases h
  | succ f ih =>
    intro j i h hj
    simp only [linkB, Bool.or_eq_true, List.any_eq_true, Bool.and_eq_true] at h
    rcases h with h | ⟨k, _, h1, h2⟩
    · exact hw j i h hj
    · exact ih k i h2 (hw j k h1 hj)
theorem link_ready {n : Nat} {listed : Array Bool} (inv : HeadInv md ops n listed) {f j i : Nat} (h : linkB md ops f j i = true) (hj : j ∈ Region.ready md ops listed) : listed.getD i false = true := by
  obtain ⟨_, oj, hoj, hall⟩ := mem_ready.1 hj
  have hw : ∀ i, Region.waitsFor md ops j i = true → listed.getD i false = true := fun i h => by
    obtain ⟨o', ho', e, he, hb, hon⟩ := Region.waitsFor_spec h
    obtain rfl : o' = oj := Option.some.inj (ho'.symm.trans hoj)
    have := hall e he hb
    rwa [hon] at this
  cases f with
  | zero => cases h
  | succ f =>
    simp only [linkB, Bool.or_eq_true, List.any_eq_true, Bool.and_eq_true] at h
    rcases h with h | ⟨k, _, h1, h2⟩
    · exact hw i h
    · exact link_listed inv f k i h2 (hw k h1)
def linksB (md : Region.Mode) (ops : Array Oper) : List Nat → Bool
  | a :: b :: r => decide (a < b) && linkB md ops (b - a) b a && linksB md ops (b :: r)
  | _ => true
theorem links_order {n : Nat} {listed : Array Bool} (inv : HeadInv md ops n listed) : ∀ {l : List Nat}, linksB md ops l = true → ∀ i j, i ∈ l → j ∈ l → i < j → (j ∈ Region.ready md ops listed ∨ listed.getD j false = true) → listed.getD i false = true := by
  intro l
  induction l with
  | nil => intro _ i j hi; cases hi
  | cons a l ih =>
    intro h i j hi hj hlt hr
    cases l with
    | nil =>
      simp only [List.mem_cons, List.not_mem_nil, or_false] at hi hj
      omega
    | cons b r =>
      simp only [linksB, Bool.and_eq_true, decide_eq_true_eq] at h
      obtain ⟨⟨hab, hl⟩, hb⟩ := h
      have hsorted : ∀ k, k ∈ b :: r → b ≤ k := by
        have : ∀ (l : List Nat) (b : Nat), linksB md ops (b :: l) = true → ∀ k, k ∈ b :: l → b ≤ k := by
          intro l
          induction l with
          | nil => intro b _ k hk; simp at hk; omega
          | cons c l ih =>
            intro b h k hk
            simp only [linksB, Bool.and_eq_true, decide_eq_true_eq] at h
            rcases List.mem_cons.1 hk with rfl | hk
            · exact Nat.le_refl _
            · have := ih c h.2 k hk; omega
        exact this r b hb
      rcases List.mem_cons.1 hi with rfl | hi'
      · have hjb : j ∈ b :: r := by
          rcases List.mem_cons.1 hj with h1 | h1
          · omega
          · exact h1
        have hbj := hsorted j hjb
        by_cases hbe : j = b
        · subst hbe
          rcases hr with hr | hr
          · exact link_ready inv hl hr
          · exact link_listed inv _ _ _ hl hr
        · have := ih hb b j List.mem_cons_self hjb (by omega) hr
          exact link_listed inv _ _ _ hl this
      · have hib := hsorted i hi'
        refine ih hb i j hi' ?_ hlt hr
        rcases List.mem_cons.1 hj with h1 | h1
        · omega
        · exact h1
def apartAllB (md : Region.Mode) (ops : Array Oper) : Bool := (List.range ops.size).all fun j => (List.range j).all fun i => Region.waitsFor md ops j i || (match ops[i]?, ops[j]? with | some oi, some oj => oi.apart ops oj | _, _ => true)
theorem apartAll_out (h : apartAllB md ops = true) {i j : Nat} {oi oj : Oper} (hij : i < j) (hi : ops[i]? = some oi) (hj : ops[j]? = some oj) (hw : Region.waitsFor md ops j i = false) : oi.apart ops oj = true := by
  unfold apartAllB at h
  rw [List.all_eq_true] at h
  have h1 := h j (List.mem_range.2 (Array.getElem?_eq_some_iff.1 hj).1)
  rw [List.all_eq_true] at h1
  have h2 := h1 i (List.mem_range.2 hij)
  rw [hw, hi, hj] at h2
  simpa using h2
def canonL (t n : Nat) : Array Bool := (List.replicate t true ++ List.replicate (n - t) false).toArray
/-- What is asked of a region's operations: t: where the tail begins; l: those ahead of it that go one behind the other. -/
def mixB (md : Region.Mode) (ops : Array Oper) (t : Nat) (l : List Nat) : Bool :=
  Region.noSelect ops && decide (t < ops.size) && Region.sinkB md ops t && Region.chainB md ops t && apartAllB md ops && earlyB md ops.toList && linksB md ops l && (List.range t).all (fun i => l.contains i || (match ops[i]? with | some o => calmB o | none => true)) && Region.seqB md ops (ops.size - t) t (canonL t ops.size)
theorem mix_any {Q : Exit → Act → World → Prop} {t : Nat} {l : List Nat} (hB : mixB md ops t l = true) :
    ∀ (f : Nat) (listed : Array Bool) (a : Act) (w : World), listed.toList.count false = f → HeadInv md ops t listed → C w →
      wpMix P ops C (fun i => l.contains i || decide (t ≤ i)) (wpList P ops Q (ops.toList.drop t)) listed (List.range t) a w → wpAny P md ops Q f listed a w := by
  simp only [mixB, Bool.and_eq_true, decide_eq_true_eq] at hB
  obtain ⟨⟨⟨⟨⟨⟨⟨⟨hsel, hn⟩, hs⟩, hc⟩, hap⟩, hear⟩, hl⟩, hcm⟩, hseq⟩ := hB
  have hsel' := Region.noSelect_spec hsel
  have hcalm : ∀ i o, ops[i]? = some o → (l.contains i || decide (t ≤ i)) = false → calmB o = true := fun i o ho hk => by
    rw [Bool.or_eq_false_iff, decide_eq_false_iff_not] at hk
    rw [List.all_eq_true] at hcm
    have := hcm i (List.mem_range.2 (by omega))
    rw [hk.1, ho] at this
    simpa using this
  intro f
  induction f with
  | zero =>
    intro listed a w hf inv hC h
    exfalso
    have h1 := inv.tail t (Nat.le_refl _) hn
    have h2 : t < listed.size := by rw [inv.size]; exact hn
    have h3 : listed[t] = false := by simpa [Array.getD_eq_getD_getElem?, h2] using h1
    have h4 : false ∈ listed.toList := by rw [← h3]; simp
    have := List.count_pos_iff.2 h4
    omega
  | succ f ih =>
    intro listed a w hf inv hC h
    by_cases hall : ∀ i, i < t → listed.getD i false = true
    · have hcan : listed = canonL t ops.size := by
        apply Array.ext
        · rw [inv.size]; simp [canonL]; omega
        · intro i h1 h2
          by_cases hi : i < t
          · have := hall i hi
            have e : listed[i] = true := by simpa [Array.getD_eq_getD_getElem?, h1] using this
            rw [e]
            simp [canonL, hi, List.getElem_append]
          · have := inv.tail i (by omega) (by rw [← inv.size]; exact h1)
            have e : listed[i] = false := by simpa [Array.getD_eq_getD_getElem?, h1] using this
            rw [e]
            simp [canonL, hi, List.getElem_append]
      have hK : wpList P ops Q (ops.toList.drop t) a w := by
        have : ∀ R : List Nat, (∀ i, i ∈ R → i < t) → wpMix P ops C (fun i => l.contains i || decide (t ≤ i)) (wpList P ops Q (ops.toList.drop t)) listed R a w → wpList P ops Q (ops.toList.drop t) a w := by
          intro R
          induction R with
          | nil => intro _ h; exact h
          | cons i R ihR =>
            intro hR h
            simp only [wpMix, hall i (hR i List.mem_cons_self), if_true] at h
            exact ihR (fun k hk => hR k (List.mem_cons_of_mem _ hk)) h
        exact this _ (fun i hi => List.mem_range.1 hi) h
      have hlen : (ops.toList.drop t).length = f + 1 := by
        rw [← hf, hcan]
        simp [canonL, List.count_append, List.count_replicate]
      have hdl : (ops.toList.drop t).length = ops.size - t := by simp
      have := wpAny_of_seq (P := P) (md := md) (Q' := Q) (ops.toList.drop t) t listed a w (fun j => by simp [List.getElem?_drop]) (by rw [hdl, hcan]; exact hseq) hK
      rwa [hlen] at this
    · have hex : ∃ i, i < t ∧ listed.getD i false = false := by
        apply Classical.byContradiction
        intro hno
        refine hall fun i hi => ?_
        cases hg : listed.getD i false with
        | true => rfl
        | false => exact (hno ⟨i, hi, hg⟩).elim
      obtain ⟨i0, hi0, hg0⟩ := hex
      have hun0 : listed.getD i0 true = false := getD_in (by rw [inv.size]; omega) hg0
      have hjt : ∀ j, j ∈ Region.ready md ops listed → j < t := fun j hj => Nat.lt_of_not_le fun hle => tail_waits hs hc hn inv _ i0 rfl hi0 hun0 j hle hj
      refine ⟨fun hr => ?_, fun j hj => ?_⟩
      · -- something is ready: the first one that is not listed
        exfalso
        have hlow : ∀ n, n ≤ t → ∀ i, i < n → listed.getD i false = true := by
          intro n
          induction n with
          | zero => intro _ i hi; omega
          | succ n ihn =>
            intro hn' i hi
            by_cases hin : i < n
            · exact ihn (by omega) i hin
            · obtain rfl : i = n := by omega
              cases hg : listed.getD i false with
              | true => rfl
              | false =>
                exfalso
                have hm : i ∈ Region.ready md ops listed := by
                  rw [mem_ready]
                  have his : i < ops.size := by omega
                  refine ⟨getD_in (by rw [inv.size]; exact his) hg, ops[i], by simp [his], fun e he hb => ?_⟩
                  exact ihn (by omega) e.on (earlyB_out hear i ops[i] (by simp [his]) e he hb)
                rw [hr] at hm
                cases hm
        have := hlow t (Nat.le_refl _) i0 hi0
        rw [hg0] at this
        cases this
      · have hj' := hjt j hj
        obtain ⟨hun, oj, hoj, hdep⟩ := mem_ready.1 hj
        have hjs : j < listed.size := by rw [inv.size]; omega
        have hjl : listed.getD j false = false := getD_both hun
        have hwt : ∀ i, listed.getD i false = false → Region.waitsFor md ops j i = false := fun i hi => by
          cases hw : Region.waitsFor md ops j i with
          | false => rfl
          | true =>
            obtain ⟨o', ho', e, he, hb, hon⟩ := Region.waitsFor_spec hw
            obtain rfl : o' = oj := Option.some.inj (ho'.symm.trans hoj)
            have := hdep e he hb
            rw [hon, hi] at this
            cases this
        have hp := pull (P := P) (ops := ops) (C := C) (ks := fun i => l.contains i || decide (t ≤ i)) (K := wpList P ops Q (ops.toList.drop t)) hsel' hcalm hoj hjl hjs (List.range t) List.pairwise_lt_range (List.mem_range.2 hj')
          (fun i hi hij hil => by
            have his : i < ops.size := by omega
            exact ⟨ops[i], by simp [his], apartAll_out hap hij (by simp [his]) hoj (hwt i hil)⟩)
          (fun hk i hi hij hil => by
            simp only [Bool.or_eq_true, List.contains_iff_mem, decide_eq_true_eq] at hk
            rw [Bool.or_eq_false_iff, decide_eq_false_iff_not]
            refine ⟨?_, by omega⟩
            cases hci : l.contains i with
            | false => rfl
            | true =>
              have := links_order inv hl i j (by simpa using hci) (by rcases hk with hk | hk; exact hk; omega) hij (.inl hj)
              rw [hil] at this
              cases this) a w hC h
        have hcs : (listed.setIfInBounds j true).toList.count false = f := by
          have h3 : listed[j] = false := by simpa [Array.getD_eq_getD_getElem?, hjs] using hun
          have := cnt_set listed.toList j (by simp [hjs, h3])
          rw [Array.toList_setIfInBounds]
          omega
        by_cases hk : (l.contains j || decide (t ≤ j)) = true
        · rw [if_pos hk] at hp
          exact wpOp_stop (wpOp_mono (fun a' w' hh => ih _ a' w' hcs (inv.set hj hj') hh.1 hh.2) hp)
        · rw [if_neg hk] at hp
          refine wpOp_mono ?_ (wpOp_calm hoj (hcalm j oj hoj (by simpa using hk)) hC hp)
          rintro a' w' ⟨rfl, hh⟩
          exact ih _ a' _ hcs (inv.set hj hj') hC hh
/-- The walk: ms: how many operations read ahead of each one that makes memory or calls; r: how many read behind the last one; then the tail. -/
def wpSegs (P : Program) (ops : Array Oper) (C : World → Prop) (Q : Exit → Act → World → Prop) (r : Nat) : List Nat → List Oper → Act → World → Prop
  | [], l, a, w => wpQuiet P ops C (fun a' => wpList P ops Q (l.drop r) a' w) (l.take r) a
  | m :: ms, l, a, w => wpQuiet P ops C (fun a' => wpList P ops (segPost C (wpSegs P ops C Q r ms (l.drop (m + 1)))) ((l.drop m).take 1) a' w) (l.take m) a
theorem seg_next {next : Act → World → Prop} {a : Act} {w : World} (hC : C w) (h : next a w) : segPost C next .normal a w := ⟨hC, h⟩
def chainAt : Nat → List Nat → List Nat
  | _, [] => []
  | p, m :: ms => (p + m) :: chainAt (p + m + 1) ms
def endAt (r : Nat) : Nat → List Nat → Nat
  | p, [] => p + r
  | p, m :: ms => endAt r (p + m + 1) ms
theorem endAt_le (r : Nat) : ∀ (ms : List Nat) (p : Nat), p ≤ endAt r p ms := by
  intro ms
  induction ms with
  | nil => intro p; exact Nat.le_add_right _ _
  | cons m ms ih => intro p; have := ih (p + m + 1); simp only [endAt]; omega
theorem chainAt_ge : ∀ (ms : List Nat) (p i : Nat), i ∈ chainAt p ms → p ≤ i := by
  intro ms
  induction ms with
  | nil => intro p i h; cases h
  | cons m ms ih =>
    intro p i h
    rcases List.mem_cons.1 h with rfl | h
    · exact Nat.le_add_right _ _
    · have := ih _ _ h; omega
theorem quiet_mix {ks : Nat → Bool} {K : Act → World → Prop} {listed : Array Bool} {N : Act → Prop} {w : World} {R : List Nat} (hlist : ∀ i, listed.getD i false = false) :
    ∀ (m p : Nat) (a : Act), p + m ≤ ops.size → (∀ i, p ≤ i → i < p + m → ks i = false) → (∀ a, N a → wpMix P ops C ks K listed R a w) → wpQuiet P ops C N ((ops.toList.drop p).take m) a →
      wpMix P ops C ks K listed (List.range' p m ++ R) a w := by
  intro m
  induction m with
  | zero =>
    intro p a _ _ hN h
    simp only [List.take_zero] at h
    exact hN a h
  | succ m ih =>
    intro p a hp hk hN h
    have hps : p < ops.size := by omega
    have e : (ops.toList.drop p).take (m + 1) = ops[p] :: (ops.toList.drop (p + 1)).take m := by
      rw [List.drop_eq_getElem_cons (by simpa using hps), List.take_succ_cons]
      rfl
    rw [e] at h
    rw [List.range'_succ, List.cons_append]
    simp only [wpMix, hlist p, hk p (Nat.le_refl _) (by omega), Bool.false_eq_true, if_false]
    unfold wpQuiet at h
    unfold qOp
    simp only [show ops[p]? = some ops[p] by simp [hps]]
    have ih' : ∀ a, wpQuiet P ops C N ((ops.toList.drop (p + 1)).take m) a → wpMix P ops C ks K listed (List.range' (p + 1) m ++ R) a w := fun a' h' => ih (p + 1) a' (by omega) (fun i h1 h2 => hk i (by omega) (by omega)) hN h'
    split
    · rename_i hw
      rw [if_pos hw] at h
      exact Oper.quiet_mono ih' h
    · rename_i hw
      rw [if_neg hw] at h
      exact ih' _ h
theorem segs_mix {Q : Exit → Act → World → Prop} {ks : Nat → Bool} {listed : Array Bool} {t : Nat} (r : Nat) (ht : t ≤ ops.size) (hlist : ∀ i, listed.getD i false = false) :
    ∀ (ms : List Nat) (p : Nat) (a : Act) (w : World), endAt r p ms = t → (∀ i, p ≤ i → i < t → ks i = (chainAt p ms).contains i) → wpSegs P ops C Q r ms (ops.toList.drop p) a w →
      wpMix P ops C ks (wpList P ops Q (ops.toList.drop t)) listed (List.range' p (t - p)) a w := by
  intro ms
  induction ms with
  | nil =>
    intro p a w he hk h
    simp only [endAt] at he
    subst he
    have e : List.range' p (p + r - p) = List.range' p r ++ [] := by simp
    rw [e]
    refine quiet_mix hlist r p a ht (fun i h1 h2 => by rw [hk i h1 h2]; simp [chainAt]) ?_ h
    intro a' h'
    simp only [wpMix]
    rwa [List.drop_drop] at h'
  | cons m ms ih =>
    intro p a w he hk h
    simp only [endAt] at he
    have hle := endAt_le r ms (p + m + 1)
    have e : List.range' p (t - p) = List.range' p m ++ ((p + m) :: List.range' (p + m + 1) (t - (p + m + 1))) := by
      have e1 : t - p = m + (1 + (t - (p + m + 1))) := by omega
      rw [e1, ← List.range'_append_1, ← List.range'_append_1]
      simp
    rw [e]
    refine quiet_mix hlist m p a (by omega) (fun i h1 h2 => ?_) ?_ h
    · rw [hk i h1 (by omega)]
      simp only [chainAt]
      cases hc : ((p + m) :: chainAt (p + m + 1) ms).contains i with
      | false => rfl
      | true =>
        exfalso
        have hm : i ∈ (p + m) :: chainAt (p + m + 1) ms := by simpa using hc
        rcases List.mem_cons.1 hm with h3 | h3
        · omega
        · have := chainAt_ge _ _ _ h3; omega
    · intro a' h'
      have hps : p + m < ops.size := by omega
      have hkp : ks (p + m) = true := by rw [hk (p + m) (by omega) (by omega)]; simp [chainAt]
      simp only [wpMix, hlist (p + m), hkp, Bool.false_eq_true, if_false, if_true]
      have e2 : ((ops.toList.drop p).drop m).take 1 = [ops[p + m]] := by
        rw [List.drop_drop, List.drop_eq_getElem_cons (by simpa using hps), List.take_succ_cons, List.take_zero]
        rfl
      rw [e2] at h'
      have ih' := fun a w h => ih (p + m + 1) a w he (fun i h1 h2 => by
        rw [hk i (by omega) h2]
        simp only [chainAt, List.contains_cons]
        rw [show (i == p + m) = false by simp; omega]
        rfl) h
      have e3 : (ops.toList.drop p).drop (m + 1) = ops.toList.drop (p + m + 1) := by rw [List.drop_drop]; rfl
      rw [e3] at h'
      unfold wpList at h'
      unfold wpOp
      simp only [show ops[p + m]? = some ops[p + m] by simp [hps]]
      have hfin : ∀ a w, wpList P ops (segPost C (wpSegs P ops C Q r ms (ops.toList.drop (p + m + 1)))) [] a w → C w ∧ wpMix P ops C ks (wpList P ops Q (ops.toList.drop t)) listed (List.range' (p + m + 1) (t - (p + m + 1))) a w := fun a w h => ⟨h.1, ih' a w h.2⟩
      have hlets : LetsOut (segPost C (wpSegs P ops C Q r ms (ops.toList.drop (p + m + 1)))) → LetsOut stopPost := fun ⟨_, _, h⟩ => (show False from h).elim
      split
      · rename_i hw
        rw [if_pos hw] at h'
        rcases h' with h' | ⟨h1, h2⟩
        · refine .inl (Oper.wp_mono hfin ?_)
          unfold Oper.wp at *
          generalize (execOp a'.eval ops[p + m]).run P w = rr at *
          cases rr with
          | ok n w' =>
            cases n <;> simp only [Oper.upon] at h' ⊢ <;> try exact h'
          | halt x w' =>
            cases x <;> simp only [Oper.upon] at h' ⊢
            all_goals (try exact (show False from h').elim)
        · exact .inr ⟨h1, hlets h2⟩
      · rename_i hw
        rw [if_neg hw] at h'
        exact hfin _ _ h'
/-- The region. -/
theorem wp_region_mix {id : Nat} {Q : Exit → Act → World → Prop} {a : Act} {w : World} {l : List Oper} (r : Nat) (ms : List Nat) (hm : P.follows .mixedOrders = true) (hB : mixB .any l.toArray (endAt r 0 ms) (chainAt 0 ms) = true)
    (hend : endAt r 0 ms ≤ l.length) (h : wpSegs P l.toArray (fun w' => ∃ g, w' = grow w g) Q r ms l a w.drew) : (Code.region id l.toArray true).wp P Q a w := by
  refine wp_region_any hm ?_
  have hin : ∀ i, (Array.replicate l.toArray.size false).getD i false = false := fun i => getD_replicate_false _ _
  refine mix_any (C := fun w' => ∃ g, w' = grow w g) hB _ _ a w.drew (by simp [List.count_replicate]) ⟨by simp, fun j oj _ hl => (by rw [hin] at hl; cases hl), fun t _ ht => getD_in (by simpa using ht) (hin t)⟩ ⟨w.drew, (grow_eq (Below.drew (Below.refl _ _))).symm⟩ ?_
  have := segs_mix (P := P) (ops := l.toArray) (C := fun w' => ∃ g, w' = grow w g) (Q := Q) (ks := fun i => (chainAt 0 ms).contains i || decide (endAt r 0 ms ≤ i)) (listed := Array.replicate l.toArray.size false) (t := endAt r 0 ms) r (by simpa using hend) hin ms 0 a w.drew rfl
    (fun i _ h2 => by simp [Nat.not_le.2 h2]) (by simpa using h)
  rwa [Nat.sub_zero, ← List.range_eq_range'] at this
theorem grow_to {w w' : World} (h : Below w.heap.size w w') : ∃ g, w' = grow w g := ⟨w', (grow_eq h).symm⟩
end
end Go.Proofs.YtplaghmehbkcnaaGreat
set_option linter.unusedVariables false
set_option linter.unusedSimpArgs false
namespace Go.Proofs.YtplaghmehbkcnaaGreat
open Go.RowKit
set_option maxRecDepth 20000 in
set_option maxHeartbeats 4000000 in
theorem rrun_in (l : List BarR) (r : Rn) (k0 : Nat) (b : BarR) (A : Option Addr) (n c : Nat) (B : Nat) (w : World) (hB : B ≤ w.heap.size) (hA : BarsAt w B A n l) (h : S.rightHead (bars l) r = true) (h' : S.rightStep r = true) (hk0 : S.index (bars l) r.mark = (k0 : Int)) (hbk : l[k0]? = some b) (hv : S.bar b.b = true) :
    Calls Tryz.prog 74 #[.slice A n c, rnV r] w fun e w' => e = .returned (.bool (S.near (S.laidPath b.b r 0) 1048576 && S.near (S.laidPath b.b r (r.count - 1).toNat) 1048576)) ∧ Below w.heap.size w w' := by
  have HA := Lib.hid hA
  obtain ⟨⟨h0, h1, h2⟩, h3, h4⟩ := rightHead_out h
  obtain ⟨hkx, hkb⟩ := List.getElem?_eq_some_iff.1 hbk
  have hkn : k0 < n := by have := hA.len; omega
  have hs' := hA.cells
  obtain ⟨bb, o, rfl, hbb, _⟩ := hs'.at_ (by rw [flat_len barC 5 barC_len]; omega)
  have hbb' : bb < w.heap.size := by omega
  have c0 := hs'.row0 barC_len hkx rfl
  have c1 := hs'.rowj barC_len hkx 1 rfl
  have c2 := hs'.rowj barC_len hkx 2 rfl
  have c3 := hs'.rowj barC_len hkx 3 rfl
  have c4 := hs'.rowj barC_len hkx 4 rfl
  have HE := Lib.hid (hA.each l[k0] (List.getElem_mem hkx))
  rw [hkb] at c0 c1 c2 c3 c4 HE
  have HI := Lib.hid (fun (W : World) (hw : B ≤ W.heap.size) (hh : BarsAt W B (some ⟨bb, o, none⟩) n l) => hk0 ▸ rfind14_any l r.mark (some ⟨bb, o, none⟩) n c B W hw hh)
  have HV := Lib.hid (fun w => h1 ▸ rturn_any r.tx r.ty w)
  have HP := Lib.hid (fun w => h2 ▸ rnear1_any r.at_ w)
  have HS := Lib.hid (fun w => rtwice_any r.step w)
  have hz : ∀ W, (binOp .eql 96 (.agg #[.int .i64 r.step.x, .int .i64 r.step.y, .int .i64 r.step.z]) (.agg #[.int .i64 0, .int .i64 0, .int .i64 0])).run Tryz.prog W = .ok (.bool (S.pt0 r.step)) W := fun W => run_eq0 r.step W
  have z91 : ∀ W, (Instr.build 96 #[]).run Tryz.prog W = .ok (.agg #[.int .i64 0, .int .i64 0, .int .i64 0]) W := fun _ => by kernel_rfl
  obtain ⟨q, hq⟩ : ∃ q : Nat, q = (r.count - 1).toNat := ⟨_, rfl⟩
  have hqi : (q : Int) = r.count - 1 := by omega
  have hcs : (¬ 1 < r.count) ∨ (1 < r.count ∧ S.pt0 r.step = false ∧ S.near1 r.step 2097152 = true) := by
    by_cases h5 : 1 < r.count
    · simp [S.rightStep, h5] at h'
      exact .inr ⟨h5, h'⟩
    · exact .inl h5
  have hst : 0 < q → S.near1 r.step 2097152 = true := fun hq0 => by
    rcases hcs with h5 | h5
    · exfalso; omega
    · exact h5.2.2
  have hl6 := legs_len b.b.code
  have HP0 := Lib.hid (fun (W : World) (hw : B ≤ W.heap.size) (hh : BarAt W B b.A b.n b.b) => show Calls Tryz.prog 116 #[barV b.b b.A b.n b.c, rnV r, .int .i64 0] W (GivesOne 96 3 ((S.legsOf b.b.code).length + 1) ((S.laidPath b.b r 0).flatMap ptC) W) from rpoints_any b.b r 0 b.A b.n b.c B W hw hh hv h1 h2 (by omega) (fun h => absurd h (by omega)) _ rfl)
  have HPQ := Lib.hid (fun (W : World) (hw : B ≤ W.heap.size) (hh : BarAt W B b.A b.n b.b) => rpoints_any b.b r q b.A b.n b.c B W hw hh hv h1 h2 (by omega) hst _ rfl)
  have HN0 := Lib.hid (fun (W : World) (A' : Option Addr) (c' : Nat) (B' : Nat) (hw : B' ≤ W.heap.size) (hh : Cells W B' A' ((S.laidPath b.b r 0).flatMap ptC)) => rnearL_any (S.laidPath b.b r 0) A' ((S.legsOf b.b.code).length + 1) c' B' W (laidPath_len _ _ _) (by omega) hw hh)
  have HNQ := Lib.hid (fun (W : World) (A' : Option Addr) (c' : Nat) (B' : Nat) (hw : B' ≤ W.heap.size) (hh : Cells W B' A' ((S.laidPath b.b r q).flatMap ptC)) => rnearL_any (S.laidPath b.b r q) A' ((S.legsOf b.b.code).length + 1) c' B' W (laidPath_len _ _ _) (by omega) hw hh)
  rw [← hq]
  have e1 : IntKind.i64.wrap (r.count - 1) = (q : Int) := by rw [IntWalk.i64_in _ (by omega)]; omega
  have HQ := Lib.hid hqi
  generalize S.near (S.laidPath b.b r 0) 1048576 = N0 at *
  generalize S.near (S.laidPath b.b r q) 1048576 = NQ at *
  generalize (S.laidPath b.b r 0).flatMap ptC = P0 at *
  generalize (S.laidPath b.b r q).flatMap ptC = PQ at *
  have hj : ¬ (k0 : Int) < 0 := by omega
  have hki : (k0 : Int) < (n : Int) := by omega
  clear hA h h' h0 h1 h2 hv hbk hs' hst hq hqi hk0 hkb
  unfold turnV at HV
  unfold ptV at HP HS
  unfold barV rnV at HP0 HPQ
  unfold rnV
  have hW0 : Below w.heap.size w (w.alloc (.cells #[.string r.mark, .int .i64 r.tx, .int .i64 r.ty, .int .i64 r.at_.x, .int .i64 r.at_.y, .int .i64 r.at_.z, .int .i64 r.step.x, .int .i64 r.step.y, .int .i64 r.step.z, .int .i64 r.count] 123)) := ba_alloc (Below.refl _ _) _
  have HRB := Lib.hid (Blk.new w 123 #[.string r.mark, .int .i64 r.tx, .int .i64 r.ty, .int .i64 r.at_.x, .int .i64 r.at_.y, .int .i64 r.at_.z, .int .i64 r.step.x, .int .i64 r.step.y, .int .i64 r.step.z, .int .i64 r.count])
  have HC := Lib.hid (show w.cell? ⟨bb, o + k0 * 5, none⟩ = some (.string b.b.mark) ∧ w.cell? ⟨bb, o + k0 * 5 + 1, none⟩ = some (.int .i64 b.b.size) ∧ w.cell? ⟨bb, o + k0 * 5 + 2, none⟩ = some (.int .i64 b.b.count) ∧ w.cell? ⟨bb, o + k0 * 5 + 3, none⟩ = some (.int .i64 b.b.code) ∧ w.cell? ⟨bb, o + k0 * 5 + 4, none⟩ = some (.slice b.A b.n b.c) from ⟨c0, c1, c2, c3, c4⟩)
  clear c0 c1 c2 c3 c4
  rcases hcs with h5 | ⟨h5, h6, h7⟩
  case' inl =>
    go_enter Tryz.func74, Tryz.ntmps74
    go_upto_region 6 with (first
      | (go_at_call 111; (with_reducible refine (HI.out _ (by simp; omega) (HA.out.at_ hB (by repeat (first | exact Below.refl _ _ | assumption | refine ba_alloc ?_ _ | refine ba_drew ?_ | refine ba_drewN ?_ _ | refine ba_via (by assumption) ?_ | (refine ba_set ?_ ?_ _; rotate_left; (first | omega | (simp; omega) | simp)))))).mono ?_); rintro e w1 ⟨rfl, hbw1⟩; obtain ⟨hcw1, hfw1⟩ := bcell hbw1; have hzw1_0 : w.heap.size < w1.heap.size := lt_via hbw1 (by first | omega | (simp; done) | (simp; omega)))
      | (go_at_call 112; (with_reducible refine (HV.out _).mono ?_); rintro e w2 ⟨rfl, hbw2⟩; obtain ⟨hcw2, hfw2⟩ := bcell hbw2; have hzw2_0 : w.heap.size < w2.heap.size := lt_via hbw2 (by first | omega | (simp; done) | (simp; omega)))
      | (go_at_call 113; (with_reducible refine (HP.out _).mono ?_); rintro e w3 ⟨rfl, hbw3⟩; obtain ⟨hcw3, hfw3⟩ := bcell hbw3; have hzw3_0 : w.heap.size < w3.heap.size := lt_via hbw3 (by first | omega | (simp; done) | (simp; omega)))
      | (go_at_call 114; (with_reducible refine (HS.out _).mono ?_); rintro e w4 ⟨rfl, hbw4⟩; obtain ⟨hcw4, hfw4⟩ := bcell hbw4; have hzw4_0 : w.heap.size < w4.heap.size := lt_via hbw4 (by first | omega | (simp; done) | (simp; omega))))
    have hb0 : Below w.heap.size w w3 := (by repeat (first | exact Below.refl _ _ | assumption | refine ba_alloc ?_ _ | refine ba_drew ?_ | refine ba_drewN ?_ _ | refine ba_via (by assumption) ?_ | (refine ba_set ?_ ?_ _; rotate_left; (first | omega | (simp; omega) | simp))))
    have hR0 := ((HRB.out.via hbw1).via hbw2).via hbw3
    clear hcw1 hfw1 hcw2 hfw2 hcw3 hfw3
    clear hbw1 hbw2 hbw3
    generalize w3 = W0 at *
  case' inr =>
    rw [h6] at hz
    rw [h7] at HS
    go_enter Tryz.func74, Tryz.ntmps74
    go_upto_region 6 with (first
      | (go_at_call 111; (with_reducible refine (HI.out _ (by simp; omega) (HA.out.at_ hB (by repeat (first | exact Below.refl _ _ | assumption | refine ba_alloc ?_ _ | refine ba_drew ?_ | refine ba_drewN ?_ _ | refine ba_via (by assumption) ?_ | (refine ba_set ?_ ?_ _; rotate_left; (first | omega | (simp; omega) | simp)))))).mono ?_); rintro e w1 ⟨rfl, hbw1⟩; obtain ⟨hcw1, hfw1⟩ := bcell hbw1; have hzw1_0 : w.heap.size < w1.heap.size := lt_via hbw1 (by first | omega | (simp; done) | (simp; omega)))
      | (go_at_call 112; (with_reducible refine (HV.out _).mono ?_); rintro e w2 ⟨rfl, hbw2⟩; obtain ⟨hcw2, hfw2⟩ := bcell hbw2; have hzw2_0 : w.heap.size < w2.heap.size := lt_via hbw2 (by first | omega | (simp; done) | (simp; omega)))
      | (go_at_call 113; (with_reducible refine (HP.out _).mono ?_); rintro e w3 ⟨rfl, hbw3⟩; obtain ⟨hcw3, hfw3⟩ := bcell hbw3; have hzw3_0 : w.heap.size < w3.heap.size := lt_via hbw3 (by first | omega | (simp; done) | (simp; omega)))
      | (go_at_call 114; (with_reducible refine (HS.out _).mono ?_); rintro e w4 ⟨rfl, hbw4⟩; obtain ⟨hcw4, hfw4⟩ := bcell hbw4; have hzw4_0 : w.heap.size < w4.heap.size := lt_via hbw4 (by first | omega | (simp; done) | (simp; omega))))
    have hb0 : Below w.heap.size w w4 := (by repeat (first | exact Below.refl _ _ | assumption | refine ba_alloc ?_ _ | refine ba_drew ?_ | refine ba_drewN ?_ _ | refine ba_via (by assumption) ?_ | (refine ba_set ?_ ?_ _; rotate_left; (first | omega | (simp; omega) | simp))))
    have hR0 := (((HRB.out.via hbw1).via hbw2).via hbw3).via hbw4
    clear hcw1 hfw1 hcw2 hfw2 hcw3 hfw3 hcw4 hfw4
    clear hbw1 hbw2 hbw3 hbw4
    generalize w4 = W0 at *
  all_goals (
    have hkeep : ∀ W', Below W0.heap.size W0 W' → W'.cell? ⟨bb, o + k0 * 5, none⟩ = some (.string b.b.mark) ∧ W'.cell? ⟨bb, o + k0 * 5 + 1, none⟩ = some (.int .i64 b.b.size) ∧ W'.cell? ⟨bb, o + k0 * 5 + 2, none⟩ = some (.int .i64 b.b.count) ∧ W'.cell? ⟨bb, o + k0 * 5 + 3, none⟩ = some (.int .i64 b.b.code) ∧ W'.cell? ⟨bb, o + k0 * 5 + 4, none⟩ = some (.slice b.A b.n b.c) ∧ W'.cell? ⟨w.heap.size, 0, none⟩ = some (.string r.mark) ∧ W'.cell? ⟨w.heap.size, 1, none⟩ = some (.int .i64 r.tx) ∧ W'.cell? ⟨w.heap.size, 2, none⟩ = some (.int .i64 r.ty) ∧ W'.cell? ⟨w.heap.size, 3, none⟩ = some (.int .i64 r.at_.x) ∧ W'.cell? ⟨w.heap.size, 4, none⟩ = some (.int .i64 r.at_.y) ∧ W'.cell? ⟨w.heap.size, 5, none⟩ = some (.int .i64 r.at_.z) ∧ W'.cell? ⟨w.heap.size, 6, none⟩ = some (.int .i64 r.step.x) ∧ W'.cell? ⟨w.heap.size, 7, none⟩ = some (.int .i64 r.step.y) ∧ W'.cell? ⟨w.heap.size, 8, none⟩ = some (.int .i64 r.step.z) ∧ W'.cell? ⟨w.heap.size, 9, none⟩ = some (.int .i64 r.count) := fun W' hw => by
      have g := (hb0.trans (hw.mono hb0.size))
      have g1 := hR0.via hw
      obtain ⟨c0, c1, c2, c3, c4⟩ := HC.out
      exact ⟨(g.cell (p := ⟨bb, _, none⟩) hbb').trans c0, (g.cell (p := ⟨bb, _, none⟩) hbb').trans c1, (g.cell (p := ⟨bb, _, none⟩) hbb').trans c2, (g.cell (p := ⟨bb, _, none⟩) hbb').trans c3, (g.cell (p := ⟨bb, _, none⟩) hbb').trans c4,
        g1.cell 0, g1.cell 1, g1.cell 2, g1.cell 3, g1.cell 4, g1.cell 5, g1.cell 6, g1.cell 7, g1.cell 8, g1.cell 9⟩
    have HK := Lib.hid hkeep
    clear hkeep hz HI HV HP HS HA
    have hrl := hR0.lt
    clear hR0
    obtain ⟨c0, c1, c2, c3, c4, d0, d1, d2, d3, d4, d5, d6, d7, d8, d9⟩ := HK.out W0 (Below.refl _ _)
    have hbb0 : bb < W0.heap.size := by have := hb0.size; omega
    cases N0
    all_goals (
      refine wp_region_mix 1 [5, 0, 9, 0] (by kernel_rfl) (by kernel_rfl) (of_decide_eq_true (by kernel_rfl)) ?_
      try simp only [wpSegs, List.take_succ_cons, List.take_zero, List.drop_succ_cons, List.drop_zero, List.take_nil, List.drop_nil]
      repeat (go_big_quiet_step (fail))
      refine wpQuiet_nil ?_
      show wpList _ _ _ _ _ _
      go_wp2_with ((go_at_call 116; (with_reducible refine (HP0.out _ (size_via hB (by repeat (with_reducible first | exact Below.refl _ _ | assumption | refine ba_alloc ?_ _ | refine ba_drew ?_ | refine ba_drewN ?_ _ | refine ba_via (by assumption) ?_ | (refine ba_set ?_ ?_ _; rotate_left; (first | omega | (simp; omega) | simp))))) (HE.out.at_ hB (by repeat (with_reducible first | exact Below.refl _ _ | assumption | refine ba_alloc ?_ _ | refine ba_drew ?_ | refine ba_drewN ?_ _ | refine ba_via (by assumption) ?_ | (refine ba_set ?_ ?_ _; rotate_left; (first | omega | (simp; omega) | simp)))))).mono ?_); rintro e wA ⟨AA, cAA, rfl, hoAA, hbAA⟩; have hcAA := (own_cells hoAA (by unfold maxLen; omega)).1))
      refine seg_next (grow_to (by repeat (with_reducible first | exact Below.refl _ _ | assumption | refine ba_alloc ?_ _ | refine ba_drew ?_ | refine ba_drewN ?_ _ | refine ba_via (by assumption) ?_ | (refine ba_set ?_ ?_ _; rotate_left; (first | omega | (simp; omega) | simp))))) ?_
      try simp only [wpSegs, List.take_succ_cons, List.take_zero, List.drop_succ_cons, List.drop_zero, List.take_nil, List.drop_nil]
      repeat (go_big_quiet_step (fail))
      refine wpQuiet_nil ?_
      show wpList _ _ _ _ _ _
      go_wp2_with ((go_at_call 115; (with_reducible refine (HN0.out _ _ _ _ (Nat.le_refl _) hcAA).mono ?_); rintro e wB ⟨rfl, hbBB⟩; obtain ⟨hxBB, hyBB⟩ := bcell (show Below W0.heap.size W0 wB from (by repeat (with_reducible first | exact Below.refl _ _ | assumption | refine ba_alloc ?_ _ | refine ba_drew ?_ | refine ba_drewN ?_ _ | refine ba_via (by assumption) ?_ | (refine ba_set ?_ ?_ _; rotate_left; (first | omega | (simp; omega) | simp)))))))
      refine seg_next (grow_to (by repeat (with_reducible first | exact Below.refl _ _ | assumption | refine ba_alloc ?_ _ | refine ba_drew ?_ | refine ba_drewN ?_ _ | refine ba_via (by assumption) ?_ | (refine ba_set ?_ ?_ _; rotate_left; (first | omega | (simp; omega) | simp))))) ?_
      try simp only [wpSegs, List.take_succ_cons, List.take_zero, List.drop_succ_cons, List.drop_zero, List.take_nil, List.drop_nil]
      repeat (go_big_quiet_step (fail))
      refine wpQuiet_nil ?_
      show wpList _ _ _ _ _ _
      go_wp2_with ((go_at_call 116; (with_reducible refine (HPQ.out _ (size_via hB (by repeat (with_reducible first | exact Below.refl _ _ | assumption | refine ba_alloc ?_ _ | refine ba_drew ?_ | refine ba_drewN ?_ _ | refine ba_via (by assumption) ?_ | (refine ba_set ?_ ?_ _; rotate_left; (first | omega | (simp; omega) | simp))))) (HE.out.at_ hB (by repeat (with_reducible first | exact Below.refl _ _ | assumption | refine ba_alloc ?_ _ | refine ba_drew ?_ | refine ba_drewN ?_ _ | refine ba_via (by assumption) ?_ | (refine ba_set ?_ ?_ _; rotate_left; (first | omega | (simp; omega) | simp)))))).mono ?_); rintro e wC ⟨AC, cAC, rfl, hoAC, hbAC⟩; have hcAC := (own_cells hoAC (by unfold maxLen; omega)).1))
      refine seg_next (grow_to (by repeat (with_reducible first | exact Below.refl _ _ | assumption | refine ba_alloc ?_ _ | refine ba_drew ?_ | refine ba_drewN ?_ _ | refine ba_via (by assumption) ?_ | (refine ba_set ?_ ?_ _; rotate_left; (first | omega | (simp; omega) | simp))))) ?_
      try simp only [wpSegs, List.take_succ_cons, List.take_zero, List.drop_succ_cons, List.drop_zero, List.take_nil, List.drop_nil]
      repeat (go_big_quiet_step (fail))
      refine wpQuiet_nil ?_
      show wpList _ _ _ _ _ _
      go_wp2_with ((go_at_call 115; (with_reducible refine (HNQ.out _ _ _ _ (Nat.le_refl _) hcAC).mono ?_); rintro e wD ⟨rfl, hbBD⟩; obtain ⟨hxBD, hyBD⟩ := bcell (show Below W0.heap.size W0 wD from (by repeat (with_reducible first | exact Below.refl _ _ | assumption | refine ba_alloc ?_ _ | refine ba_drew ?_ | refine ba_drewN ?_ _ | refine ba_via (by assumption) ?_ | (refine ba_set ?_ ?_ _; rotate_left; (first | omega | (simp; omega) | simp)))))))
      refine seg_next (grow_to (by repeat (with_reducible first | exact Below.refl _ _ | assumption | refine ba_alloc ?_ _ | refine ba_drew ?_ | refine ba_drewN ?_ _ | refine ba_via (by assumption) ?_ | (refine ba_set ?_ ?_ _; rotate_left; (first | omega | (simp; omega) | simp))))) ?_
      try simp only [wpSegs, List.take_succ_cons, List.take_zero, List.drop_succ_cons, List.drop_zero, List.take_nil, List.drop_nil]
      repeat (go_big_quiet_step (fail))
      refine wpQuiet_nil ?_
      show wpList _ _ _ _ _ _
      go_wp2
      go_ret
      exact ⟨rfl, (by repeat (with_reducible first | exact Below.refl _ _ | assumption | refine ba_alloc ?_ _ | refine ba_drew ?_ | refine ba_drewN ?_ _ | refine ba_via (by assumption) ?_ | (refine ba_set ?_ ?_ _; rotate_left; (first | omega | (simp; omega) | simp))))⟩))
end Go.Proofs.YtplaghmehbkcnaaGreat
