/- Contracts: lap.Overlap of a detail that is not valid, and of a lap that is not there. -/
import Derived.Test.YtplaghmehbkcnaaGreatOver
import Derived.Test.YtplaghmehbkcnaaGreatChL
set_option linter.unusedVariables false
set_option linter.unusedSimpArgs false
namespace Go.Proofs.YtplaghmehbkcnaaGreat
open Go.RowKit
set_option maxRecDepth 20000 in
set_option maxHeartbeats 4000000 in
theorem Overlap_no (x : Dt) (at_ : Int) (B : Nat) (w : World) (hB : B ≤ w.heap.size)
    (hL : ∀ W, Below w.heap.size w W → Calls Tryz.prog 36 #[dtV x] W (GivesLook false 0 [] W)) :
    Calls Tryz.prog 9 #[dtV x, .int .i64 at_] w fun e w' => e = .returned (.tuple #[.agg #[.int .i64 0, .int .i64 0], .int .i64 1]) ∧ Below w.heap.size w w' := by
  have HL := Lib.hid hL
  clear hL
  unfold dtV at HL
  unfold dtV
  go_enter Tryz.func9, Tryz.ntmps9
  have hDB : Blk ((w.alloc (.cells #[.string x.m.name, .slice x.mA x.mn x.mc, .slice x.hA x.hn x.hc, .int .i64 x.m.cover, .int .i64 x.m.aggr, .int .i64 x.m.poker, .slice x.bA x.bn x.bc, .slice x.rA x.rn x.rc, .slice x.jA x.jn x.jc, .slice x.dA x.dn x.dc, .int .i64 x.rule.num, .int .i64 x.rule.den, .int .i64 x.rule.pnum, .int .i64 x.rule.pden, .int .i64 x.rule.bnum, .int .i64 x.rule.bden, .int .i64 x.rule.lnum, .int .i64 x.rule.lden, .int .i64 x.rule.least] 34)).alloc (.cells #[.int .i64 0, .int .i64 0] 41)) w.heap.size 34 #[.string x.m.name, .slice x.mA x.mn x.mc, .slice x.hA x.hn x.hc, .int .i64 x.m.cover, .int .i64 x.m.aggr, .int .i64 x.m.poker, .slice x.bA x.bn x.bc, .slice x.rA x.rn x.rc, .slice x.jA x.jn x.jc, .slice x.dA x.dn x.dc, .int .i64 x.rule.num, .int .i64 x.rule.den, .int .i64 x.rule.pnum, .int .i64 x.rule.pden, .int .i64 x.rule.bnum, .int .i64 x.rule.bden, .int .i64 x.rule.lnum, .int .i64 x.rule.lden, .int .i64 x.rule.least] := (Blk.new w _ _).alloc _
  have hRG := hDB.range
  go_upto_region 2 with (first
    | (refine wpList_load_mid rfl 34 (.tmp 2) rfl _ _ rfl _ _ hRG Tryz.underlying34 rfl (by kernel_rfl) ?_)
    | (go_at_call 36; (with_reducible refine (HL.out _ (by repeat (first | exact Below.refl _ _ | assumption | refine ba_alloc ?_ _ | refine ba_drew ?_ | refine ba_drewN ?_ _ | refine ba_via (by assumption) ?_ | (refine ba_set ?_ ?_ _; rotate_left; (first | omega | (simp; omega) | simp))))).mono ?_); rintro e w1 ⟨A1, c1', rfl, how1, hbw1⟩))
  have hR : Blk w1 (w.heap.size + 1) 41 #[.int .i64 0, .int .i64 0] := Blk.via (by simpa using Blk.new (w.alloc (.cells #[.string x.m.name, .slice x.mA x.mn x.mc, .slice x.hA x.hn x.hc, .int .i64 x.m.cover, .int .i64 x.m.aggr, .int .i64 x.m.poker, .slice x.bA x.bn x.bc, .slice x.rA x.rn x.rc, .slice x.jA x.jn x.jc, .slice x.dA x.dn x.dc, .int .i64 x.rule.num, .int .i64 x.rule.den, .int .i64 x.rule.pnum, .int .i64 x.rule.pden, .int .i64 x.rule.bnum, .int .i64 x.rule.bden, .int .i64 x.rule.lnum, .int .i64 x.rule.lden, .int .i64 x.rule.least] 34)) 41 #[.int .i64 0, .int .i64 0]) hbw1
  have z0 := hR.cell 0
  have z1 := hR.cell 1
  have f0 := hR.frozen 0
  have f1 := hR.frozen 1
  have ltR := hR.lt
  simp only [List.getElem?_toArray, List.getElem?_cons_zero, List.getElem?_cons_succ] at z0 z1
  have hbel : Below w.heap.size w w1 := (by repeat (first | exact Below.refl _ _ | assumption | refine ba_alloc ?_ _ | refine ba_drew ?_ | refine ba_drewN ?_ _ | refine ba_via (by assumption) ?_ | (refine ba_set ?_ ?_ _; rotate_left; (first | omega | (simp; omega) | simp))))
  go_wp2
  exact bodyPost_ret (v := .tuple #[.agg #[.int .i64 0, .int .i64 0], .int .i64 1]) (by simp [results, Tryz.results9, go_sem, *]) rfl ⟨rfl, (hbel.setCell (Nat.le_succ _) _).setCell (Nat.le_succ _) _⟩
set_option maxRecDepth 20000 in
set_option maxHeartbeats 4000000 in
theorem Overlap_range (x : Dt) (at_ : Int) (n : Nat) (xs : List Value) (B : Nat) (w : World) (hB : B ≤ w.heap.size) (hat : at_ < 0 ∨ (x.jn : Int) ≤ at_)
    (hL : ∀ W, Below w.heap.size w W → Calls Tryz.prog 36 #[dtV x] W (GivesLook true n xs W)) :
    Calls Tryz.prog 9 #[dtV x, .int .i64 at_] w fun e w' => e = .returned (.tuple #[.agg #[.int .i64 0, .int .i64 0], .int .i64 2]) ∧ Below w.heap.size w w' := by
  have HL := Lib.hid hL
  clear hL
  unfold dtV at HL
  unfold dtV
  have hcs : at_ < 0 ∨ (¬ at_ < 0 ∧ (x.jn : Int) ≤ at_) := by omega
  clear hat
  rcases hcs with h1 | ⟨h1, h2⟩
  all_goals (
    go_enter Tryz.func9, Tryz.ntmps9
    have hDB : Blk ((w.alloc (.cells #[.string x.m.name, .slice x.mA x.mn x.mc, .slice x.hA x.hn x.hc, .int .i64 x.m.cover, .int .i64 x.m.aggr, .int .i64 x.m.poker, .slice x.bA x.bn x.bc, .slice x.rA x.rn x.rc, .slice x.jA x.jn x.jc, .slice x.dA x.dn x.dc, .int .i64 x.rule.num, .int .i64 x.rule.den, .int .i64 x.rule.pnum, .int .i64 x.rule.pden, .int .i64 x.rule.bnum, .int .i64 x.rule.bden, .int .i64 x.rule.lnum, .int .i64 x.rule.lden, .int .i64 x.rule.least] 34)).alloc (.cells #[.int .i64 0, .int .i64 0] 41)) w.heap.size 34 #[.string x.m.name, .slice x.mA x.mn x.mc, .slice x.hA x.hn x.hc, .int .i64 x.m.cover, .int .i64 x.m.aggr, .int .i64 x.m.poker, .slice x.bA x.bn x.bc, .slice x.rA x.rn x.rc, .slice x.jA x.jn x.jc, .slice x.dA x.dn x.dc, .int .i64 x.rule.num, .int .i64 x.rule.den, .int .i64 x.rule.pnum, .int .i64 x.rule.pden, .int .i64 x.rule.bnum, .int .i64 x.rule.bden, .int .i64 x.rule.lnum, .int .i64 x.rule.lden, .int .i64 x.rule.least] := (Blk.new w _ _).alloc _
    have hRG := hDB.range
    go_upto_region 2 with (first
      | (refine wpList_load_mid rfl 34 (.tmp 2) rfl _ _ rfl _ _ hRG Tryz.underlying34 rfl (by kernel_rfl) ?_)
      | (go_at_call 36; (with_reducible refine (HL.out _ (by repeat (first | exact Below.refl _ _ | assumption | refine ba_alloc ?_ _ | refine ba_drew ?_ | refine ba_drewN ?_ _ | refine ba_via (by assumption) ?_ | (refine ba_set ?_ ?_ _; rotate_left; (first | omega | (simp; omega) | simp))))).mono ?_); rintro e w1 ⟨A1, c1', rfl, how1, hbw1⟩))
    have hDC := (hDB.via hbw1).cell 8
    have hDl := (hDB.via hbw1).lt
    have hR : Blk w1 (w.heap.size + 1) 41 #[.int .i64 0, .int .i64 0] := Blk.via (by simpa using Blk.new (w.alloc (.cells #[.string x.m.name, .slice x.mA x.mn x.mc, .slice x.hA x.hn x.hc, .int .i64 x.m.cover, .int .i64 x.m.aggr, .int .i64 x.m.poker, .slice x.bA x.bn x.bc, .slice x.rA x.rn x.rc, .slice x.jA x.jn x.jc, .slice x.dA x.dn x.dc, .int .i64 x.rule.num, .int .i64 x.rule.den, .int .i64 x.rule.pnum, .int .i64 x.rule.pden, .int .i64 x.rule.bnum, .int .i64 x.rule.bden, .int .i64 x.rule.lnum, .int .i64 x.rule.lden, .int .i64 x.rule.least] 34)) 41 #[.int .i64 0, .int .i64 0]) hbw1
    have z0 := hR.cell 0
    have z1 := hR.cell 1
    have f0 := hR.frozen 0
    have f1 := hR.frozen 1
    have ltR := hR.lt
    simp only [List.getElem?_toArray, List.getElem?_cons_zero, List.getElem?_cons_succ] at z0 z1 hDC
    have hbel : Below w.heap.size w w1 := (by repeat (first | exact Below.refl _ _ | assumption | refine ba_alloc ?_ _ | refine ba_drew ?_ | refine ba_drewN ?_ _ | refine ba_via (by assumption) ?_ | (refine ba_set ?_ ?_ _; rotate_left; (first | omega | (simp; omega) | simp))))
    clear hDB hRG
    go_wp2
    exact bodyPost_ret (v := .tuple #[.agg #[.int .i64 0, .int .i64 0], .int .i64 2]) (by simp [results, Tryz.results9, go_sem, *]) rfl ⟨rfl, (hbel.setCell (Nat.le_succ _) _).setCell (Nat.le_succ _) _⟩)
end Go.Proofs.YtplaghmehbkcnaaGreat
