/- Lemmas. -/
import Derived.Test.YtmfpbafpnoomeaaGreatMSA
set_option linter.unusedVariables false
set_option linter.unusedSimpArgs false
namespace Go.Proofs.YtmfpbafpnoomeaaGreat
open Go.RowKit
set_option maxRecDepth 20000 in
set_option maxHeartbeats 2000000 in
theorem allLaw_zero (x : Dt) (u p : Int) (w : World) (hdn : x.dn = 0) :
    Calls Tryz.prog 7 #[dtV x, .int .u8 u, .int .i32 p] w fun e w' => e = .returned (.bool true) ∧ Below w.heap.size w w' := by
  have bz : ((x.dn : Int) == 0) = true := by rw [hdn]; rfl
  clear hdn
  have HA := Lib.hid (fun w => awake27_any w)
  unfold dtV
  have hDB := (Blk.new w 34 #[.string x.m.name, .slice x.mA x.mn x.mc, .slice x.hA x.hn x.hc, .int .i64 x.m.cover, .int .i64 x.m.aggr, .int .i64 x.m.poker, .slice x.bA x.bn x.bc, .slice x.rA x.rn x.rc, .slice x.jA x.jn x.jc, .slice x.dA x.dn x.dc, .int .i64 x.rule.num, .int .i64 x.rule.den, .int .i64 x.rule.pnum, .int .i64 x.rule.pden, .int .i64 x.rule.bnum, .int .i64 x.rule.bden, .int .i64 x.rule.lnum, .int .i64 x.rule.lden, .int .i64 x.rule.least]).alloc (.cells #[.int .i32 p] 21)
  have hPB := Blk.newN (W := w.alloc (.cells #[.string x.m.name, .slice x.mA x.mn x.mc, .slice x.hA x.hn x.hc, .int .i64 x.m.cover, .int .i64 x.m.aggr, .int .i64 x.m.poker, .slice x.bA x.bn x.bc, .slice x.rA x.rn x.rc, .slice x.jA x.jn x.jc, .slice x.dA x.dn x.dc, .int .i64 x.rule.num, .int .i64 x.rule.den, .int .i64 x.rule.pnum, .int .i64 x.rule.pden, .int .i64 x.rule.bnum, .int .i64 x.rule.bden, .int .i64 x.rule.lnum, .int .i64 x.rule.lden, .int .i64 x.rule.least] 34)) (n := w.heap.size + 1) (by simp) 21 #[.int .i32 p]
  have hW1 : Below w.heap.size w ((w.alloc (.cells #[.string x.m.name, .slice x.mA x.mn x.mc, .slice x.hA x.hn x.hc, .int .i64 x.m.cover, .int .i64 x.m.aggr, .int .i64 x.m.poker, .slice x.bA x.bn x.bc, .slice x.rA x.rn x.rc, .slice x.jA x.jn x.jc, .slice x.dA x.dn x.dc, .int .i64 x.rule.num, .int .i64 x.rule.den, .int .i64 x.rule.pnum, .int .i64 x.rule.pden, .int .i64 x.rule.bnum, .int .i64 x.rule.bden, .int .i64 x.rule.lnum, .int .i64 x.rule.lden, .int .i64 x.rule.least] 34)).alloc (.cells #[.int .i32 p] 21)) := ba_alloc (ba_alloc (Below.refl _ _) _) _
  go_enter Tryz.func7, Tryz.ntmps7
  go_upto_region 1 with fail
  generalize ((w.alloc (.cells #[.string x.m.name, .slice x.mA x.mn x.mc, .slice x.hA x.hn x.hc, .int .i64 x.m.cover, .int .i64 x.m.aggr, .int .i64 x.m.poker, .slice x.bA x.bn x.bc, .slice x.rA x.rn x.rc, .slice x.jA x.jn x.jc, .slice x.dA x.dn x.dc, .int .i64 x.rule.num, .int .i64 x.rule.den, .int .i64 x.rule.pnum, .int .i64 x.rule.pden, .int .i64 x.rule.bnum, .int .i64 x.rule.bden, .int .i64 x.rule.lnum, .int .i64 x.rule.lden, .int .i64 x.rule.least] 34)).alloc (.cells #[.int .i32 p] 21)) = W1 at *
  have HDB := Lib.hid hDB
  have HPB := Lib.hid hPB
  clear hDB hPB
  go_upto_region 3 with (go_at_call 10; (with_reducible refine (HA.out _).mono ?_); rintro e wa ⟨rfl, hbwa⟩)
  have hwa : Below w.heap.size w wa := ba_via hbwa hW1
  have HDA := Lib.hid (HDB.out.via hbwa)
  have hDx := HDA.out
  have d9 := hDx.cell 9
  have dl := hDx.lt
  simp only [List.getElem?_toArray, List.getElem?_cons_zero, List.getElem?_cons_succ] at d9
  have HPA := Lib.hid (HPB.out.via hbwa)
  have q0 := HPA.out.cell 0
  have ql := HPA.out.lt
  simp only [List.getElem?_toArray, List.getElem?_cons_zero, List.getElem?_cons_succ] at q0
  clear hDx HDB hbwa hW1 HA HPB
  refine wp_region_mix 0 [5, 6, 5] (by kernel_rfl) (by kernel_rfl) (of_decide_eq_true (by kernel_rfl)) ?_
  try simp only [wpSegs, List.take_succ_cons, List.take_zero, List.drop_succ_cons, List.drop_zero, List.take_nil, List.drop_nil]
  repeat (go_big_quiet_step (fail))
  refine wpQuiet_nil ?_
  show wpList _ _ _ _ _ _
  go_wp2_with (fail)
  refine seg_next (grow_to (by repeat (with_reducible first | exact Below.refl _ _ | assumption | refine ba_alloc ?_ _ | refine ba_drew ?_ | refine ba_drewN ?_ _ | refine ba_via (by assumption) ?_ | (refine ba_set ?_ ?_ _; rotate_left; (first | omega | (simp; omega) | simp))))) ?_
  try simp only [wpSegs, List.take_succ_cons, List.take_zero, List.drop_succ_cons, List.drop_zero, List.take_nil, List.drop_nil]
  repeat (go_big_quiet_step (fail))
  refine wpQuiet_nil ?_
  show wpList _ _ _ _ _ _
  go_wp2_with (fail)
  refine seg_next (grow_to (by repeat (with_reducible first | exact Below.refl _ _ | assumption | refine ba_alloc ?_ _ | refine ba_drew ?_ | refine ba_drewN ?_ _ | refine ba_via (by assumption) ?_ | (refine ba_set ?_ ?_ _; rotate_left; (first | omega | (simp; omega) | simp))))) ?_
  try simp only [wpSegs, List.take_succ_cons, List.take_zero, List.drop_succ_cons, List.drop_zero, List.take_nil, List.drop_nil]
  repeat (go_big_quiet_step (fail))
  refine wpQuiet_nil ?_
  show wpList _ _ _ _ _ _
  go_wp2_with (fail)
  refine seg_next (grow_to (by repeat (with_reducible first | exact Below.refl _ _ | assumption | refine ba_alloc ?_ _ | refine ba_drew ?_ | refine ba_drewN ?_ _ | refine ba_via (by assumption) ?_ | (refine ba_set ?_ ?_ _; rotate_left; (first | omega | (simp; omega) | simp))))) ?_
  try simp only [wpSegs, List.take_succ_cons, List.take_zero, List.drop_succ_cons, List.drop_zero, List.take_nil, List.drop_nil]
  repeat (go_big_quiet_step (fail))
  refine wpQuiet_nil ?_
  show wpList _ _ _ _ _ _
  go_wp2
  go_ret
  exact ⟨rfl, ba_via (by repeat (with_reducible first | exact Below.refl _ _ | assumption | refine ba_alloc ?_ _ | refine ba_drew ?_ | refine ba_drewN ?_ _ | refine ba_via (by assumption) ?_ | (refine ba_set ?_ ?_ _; rotate_left; (first | omega | (simp; omega) | simp)))) hwa⟩
set_option maxRecDepth 20000 in
set_option maxHeartbeats 4000000 in
theorem allLaw_no (x : Dt) (u : Nat) ( p : Int) (w : World) (hu : u ≤ 255) (hdn : 0 < x.dn) (hmx : x.dn ≤ 9223372036854775807)
    (hRD : ∀ W, Below w.heap.size w W → Calls Tryz.prog 25 #[dtV x, .int .i64 (u % x.dn : Nat)] W fun e w' => e = .returned (.bool false) ∧ Below W.heap.size W w') :
    Calls Tryz.prog 7 #[dtV x, .int .u8 u, .int .i32 p] w fun e w' => e = .returned (.bool true) ∧ Below w.heap.size w w' := by
  have bz : ((x.dn : Int) == 0) = false := by simp; omega
  have bn : (x.dn : Int) ≠ 0 := by omega
  have e1 : IntKind.i64.wrap (u : Int) = (u : Int) := IntWalk.i64_in _ (by omega)
  have e2 : (u : Int).tmod (x.dn : Int) = ((u % x.dn : Nat) : Int) := by rw [Int.tmod_eq_emod_of_nonneg (by omega)]; exact (Int.natCast_emod u x.dn).symm
  have hkd : u % x.dn < x.dn := Nat.mod_lt _ (by omega)
  generalize u % x.dn = k at *
  have e3 : IntKind.i64.wrap (k : Int) = (k : Int) := IntWalk.i64_in _ (by omega)
  have HA := Lib.hid (fun w => awake27_any w)
  have HRD := Lib.hid hRD
  clear hRD
  unfold dtV at HRD
  unfold dtV
  have hDB := (Blk.new w 34 #[.string x.m.name, .slice x.mA x.mn x.mc, .slice x.hA x.hn x.hc, .int .i64 x.m.cover, .int .i64 x.m.aggr, .int .i64 x.m.poker, .slice x.bA x.bn x.bc, .slice x.rA x.rn x.rc, .slice x.jA x.jn x.jc, .slice x.dA x.dn x.dc, .int .i64 x.rule.num, .int .i64 x.rule.den, .int .i64 x.rule.pnum, .int .i64 x.rule.pden, .int .i64 x.rule.bnum, .int .i64 x.rule.bden, .int .i64 x.rule.lnum, .int .i64 x.rule.lden, .int .i64 x.rule.least]).alloc (.cells #[.int .i32 p] 21)
  have hPB := Blk.newN (W := w.alloc (.cells #[.string x.m.name, .slice x.mA x.mn x.mc, .slice x.hA x.hn x.hc, .int .i64 x.m.cover, .int .i64 x.m.aggr, .int .i64 x.m.poker, .slice x.bA x.bn x.bc, .slice x.rA x.rn x.rc, .slice x.jA x.jn x.jc, .slice x.dA x.dn x.dc, .int .i64 x.rule.num, .int .i64 x.rule.den, .int .i64 x.rule.pnum, .int .i64 x.rule.pden, .int .i64 x.rule.bnum, .int .i64 x.rule.bden, .int .i64 x.rule.lnum, .int .i64 x.rule.lden, .int .i64 x.rule.least] 34)) (n := w.heap.size + 1) (by simp) 21 #[.int .i32 p]
  have hW1 : Below w.heap.size w ((w.alloc (.cells #[.string x.m.name, .slice x.mA x.mn x.mc, .slice x.hA x.hn x.hc, .int .i64 x.m.cover, .int .i64 x.m.aggr, .int .i64 x.m.poker, .slice x.bA x.bn x.bc, .slice x.rA x.rn x.rc, .slice x.jA x.jn x.jc, .slice x.dA x.dn x.dc, .int .i64 x.rule.num, .int .i64 x.rule.den, .int .i64 x.rule.pnum, .int .i64 x.rule.pden, .int .i64 x.rule.bnum, .int .i64 x.rule.bden, .int .i64 x.rule.lnum, .int .i64 x.rule.lden, .int .i64 x.rule.least] 34)).alloc (.cells #[.int .i32 p] 21)) := ba_alloc (ba_alloc (Below.refl _ _) _) _
  go_enter Tryz.func7, Tryz.ntmps7
  go_upto_region 1 with fail
  generalize ((w.alloc (.cells #[.string x.m.name, .slice x.mA x.mn x.mc, .slice x.hA x.hn x.hc, .int .i64 x.m.cover, .int .i64 x.m.aggr, .int .i64 x.m.poker, .slice x.bA x.bn x.bc, .slice x.rA x.rn x.rc, .slice x.jA x.jn x.jc, .slice x.dA x.dn x.dc, .int .i64 x.rule.num, .int .i64 x.rule.den, .int .i64 x.rule.pnum, .int .i64 x.rule.pden, .int .i64 x.rule.bnum, .int .i64 x.rule.bden, .int .i64 x.rule.lnum, .int .i64 x.rule.lden, .int .i64 x.rule.least] 34)).alloc (.cells #[.int .i32 p] 21)) = W1 at *
  have HDB := Lib.hid hDB
  have HPB := Lib.hid hPB
  clear hDB hPB
  go_upto_region 3 with (go_at_call 10; (with_reducible refine (HA.out _).mono ?_); rintro e wa ⟨rfl, hbwa⟩)
  have hwa : Below w.heap.size w wa := ba_via hbwa hW1
  have HDA := Lib.hid (HDB.out.via hbwa)
  have hDx := HDA.out
  have d9 := hDx.cell 9
  have dl := hDx.lt
  simp only [List.getElem?_toArray, List.getElem?_cons_zero, List.getElem?_cons_succ] at d9
  have HPA := Lib.hid (HPB.out.via hbwa)
  have q0 := HPA.out.cell 0
  have ql := HPA.out.lt
  simp only [List.getElem?_toArray, List.getElem?_cons_zero, List.getElem?_cons_succ] at q0
  clear hDx HDB hbwa hW1 HA HPB
  refine wp_region_mix 0 [5, 6, 5] (by kernel_rfl) (by kernel_rfl) (of_decide_eq_true (by kernel_rfl)) ?_
  try simp only [wpSegs, List.take_succ_cons, List.take_zero, List.drop_succ_cons, List.drop_zero, List.take_nil, List.drop_nil]
  repeat (go_big_quiet_step (fail))
  refine wpQuiet_nil ?_
  show wpList _ _ _ _ _ _
  go_wp2_with ((refine wpList_load_gdF (by rfl) 34 (.tmp 3) rfl _ _ rfl _ _ (HDA.out.via (by repeat (with_reducible first | exact Below.refl _ _ | assumption | refine ba_alloc ?_ _ | refine ba_drew ?_ | refine ba_drewN ?_ _ | refine ba_via (by assumption) ?_ | (refine ba_set ?_ ?_ _; rotate_left; (first | omega | (simp; omega) | simp))))).range Tryz.underlying34 rfl (by kernel_rfl) ?_))
  refine seg_next (grow_to (by repeat (with_reducible first | exact Below.refl _ _ | assumption | refine ba_alloc ?_ _ | refine ba_drew ?_ | refine ba_drewN ?_ _ | refine ba_via (by assumption) ?_ | (refine ba_set ?_ ?_ _; rotate_left; (first | omega | (simp; omega) | simp))))) ?_
  try simp only [wpSegs, List.take_succ_cons, List.take_zero, List.drop_succ_cons, List.drop_zero, List.take_nil, List.drop_nil]
  repeat (go_big_quiet_step (fail))
  refine wpQuiet_nil ?_
  show wpList _ _ _ _ _ _
  go_wp2_with ((go_at_call 25; (with_reducible refine (HRD.out _ (ba_via (by repeat (with_reducible first | exact Below.refl _ _ | assumption | refine ba_alloc ?_ _ | refine ba_drew ?_ | refine ba_drewN ?_ _ | refine ba_via (by assumption) ?_ | (refine ba_set ?_ ?_ _; rotate_left; (first | omega | (simp; omega) | simp)))) hwa)).mono ?_); rintro e wr ⟨rfl, hbwr⟩))
  refine seg_next (grow_to (by repeat (with_reducible first | exact Below.refl _ _ | assumption | refine ba_alloc ?_ _ | refine ba_drew ?_ | refine ba_drewN ?_ _ | refine ba_via (by assumption) ?_ | (refine ba_set ?_ ?_ _; rotate_left; (first | omega | (simp; omega) | simp))))) ?_
  try simp only [wpSegs, List.take_succ_cons, List.take_zero, List.drop_succ_cons, List.drop_zero, List.take_nil, List.drop_nil]
  repeat (go_big_quiet_step (fail))
  refine wpQuiet_nil ?_
  show wpList _ _ _ _ _ _
  go_wp2_with (fail)
  refine seg_next (grow_to (by repeat (with_reducible first | exact Below.refl _ _ | assumption | refine ba_alloc ?_ _ | refine ba_drew ?_ | refine ba_drewN ?_ _ | refine ba_via (by assumption) ?_ | (refine ba_set ?_ ?_ _; rotate_left; (first | omega | (simp; omega) | simp))))) ?_
  try simp only [wpSegs, List.take_succ_cons, List.take_zero, List.drop_succ_cons, List.drop_zero, List.take_nil, List.drop_nil]
  repeat (go_big_quiet_step (fail))
  refine wpQuiet_nil ?_
  show wpList _ _ _ _ _ _
  go_wp2
  go_ret
  exact ⟨rfl, ba_via (by repeat (with_reducible first | exact Below.refl _ _ | assumption | refine ba_alloc ?_ _ | refine ba_drew ?_ | refine ba_drewN ?_ _ | refine ba_via (by assumption) ?_ | (refine ba_set ?_ ?_ _; rotate_left; (first | omega | (simp; omega) | simp)))) hwa⟩
set_option maxRecDepth 20000 in
set_option maxHeartbeats 4000000 in
theorem allLaw_off (x : Dt) (u : Nat) ( p : Int) (w : World) (hu : u ≤ 255) (hdn : 0 < x.dn) (hmx : x.dn ≤ 9223372036854775807) (hp : -2147483648 ≤ p ∧ p ≤ 2147483647) (hpp : S.place p = false)
    (hRD : ∀ W, Below w.heap.size w W → Calls Tryz.prog 25 #[dtV x, .int .i64 (u % x.dn : Nat)] W fun e w' => e = .returned (.bool true) ∧ Below W.heap.size W w') :
    Calls Tryz.prog 7 #[dtV x, .int .u8 u, .int .i32 p] w fun e w' => e = .returned (.bool true) ∧ Below w.heap.size w w' := by
  have bz : ((x.dn : Int) == 0) = false := by simp; omega
  have bn : (x.dn : Int) ≠ 0 := by omega
  have e1 : IntKind.i64.wrap (u : Int) = (u : Int) := IntWalk.i64_in _ (by omega)
  have e2 : (u : Int).tmod (x.dn : Int) = ((u % x.dn : Nat) : Int) := by rw [Int.tmod_eq_emod_of_nonneg (by omega)]; exact (Int.natCast_emod u x.dn).symm
  have hkd : u % x.dn < x.dn := Nat.mod_lt _ (by omega)
  generalize u % x.dn = k at *
  have e3 : IntKind.i64.wrap (k : Int) = (k : Int) := IntWalk.i64_in _ (by omega)
  have e4 : IntKind.i64.wrap p = p := IntWalk.i64_in _ (by omega)
  have HPL := Lib.hid (fun W => hpp ▸ rplace10_any p W)
  have HA := Lib.hid (fun w => awake27_any w)
  have HRD := Lib.hid hRD
  clear hRD
  unfold dtV at HRD
  unfold dtV
  have hDB := (Blk.new w 34 #[.string x.m.name, .slice x.mA x.mn x.mc, .slice x.hA x.hn x.hc, .int .i64 x.m.cover, .int .i64 x.m.aggr, .int .i64 x.m.poker, .slice x.bA x.bn x.bc, .slice x.rA x.rn x.rc, .slice x.jA x.jn x.jc, .slice x.dA x.dn x.dc, .int .i64 x.rule.num, .int .i64 x.rule.den, .int .i64 x.rule.pnum, .int .i64 x.rule.pden, .int .i64 x.rule.bnum, .int .i64 x.rule.bden, .int .i64 x.rule.lnum, .int .i64 x.rule.lden, .int .i64 x.rule.least]).alloc (.cells #[.int .i32 p] 21)
  have hPB := Blk.newN (W := w.alloc (.cells #[.string x.m.name, .slice x.mA x.mn x.mc, .slice x.hA x.hn x.hc, .int .i64 x.m.cover, .int .i64 x.m.aggr, .int .i64 x.m.poker, .slice x.bA x.bn x.bc, .slice x.rA x.rn x.rc, .slice x.jA x.jn x.jc, .slice x.dA x.dn x.dc, .int .i64 x.rule.num, .int .i64 x.rule.den, .int .i64 x.rule.pnum, .int .i64 x.rule.pden, .int .i64 x.rule.bnum, .int .i64 x.rule.bden, .int .i64 x.rule.lnum, .int .i64 x.rule.lden, .int .i64 x.rule.least] 34)) (n := w.heap.size + 1) (by simp) 21 #[.int .i32 p]
  have hW1 : Below w.heap.size w ((w.alloc (.cells #[.string x.m.name, .slice x.mA x.mn x.mc, .slice x.hA x.hn x.hc, .int .i64 x.m.cover, .int .i64 x.m.aggr, .int .i64 x.m.poker, .slice x.bA x.bn x.bc, .slice x.rA x.rn x.rc, .slice x.jA x.jn x.jc, .slice x.dA x.dn x.dc, .int .i64 x.rule.num, .int .i64 x.rule.den, .int .i64 x.rule.pnum, .int .i64 x.rule.pden, .int .i64 x.rule.bnum, .int .i64 x.rule.bden, .int .i64 x.rule.lnum, .int .i64 x.rule.lden, .int .i64 x.rule.least] 34)).alloc (.cells #[.int .i32 p] 21)) := ba_alloc (ba_alloc (Below.refl _ _) _) _
  go_enter Tryz.func7, Tryz.ntmps7
  go_upto_region 1 with fail
  generalize ((w.alloc (.cells #[.string x.m.name, .slice x.mA x.mn x.mc, .slice x.hA x.hn x.hc, .int .i64 x.m.cover, .int .i64 x.m.aggr, .int .i64 x.m.poker, .slice x.bA x.bn x.bc, .slice x.rA x.rn x.rc, .slice x.jA x.jn x.jc, .slice x.dA x.dn x.dc, .int .i64 x.rule.num, .int .i64 x.rule.den, .int .i64 x.rule.pnum, .int .i64 x.rule.pden, .int .i64 x.rule.bnum, .int .i64 x.rule.bden, .int .i64 x.rule.lnum, .int .i64 x.rule.lden, .int .i64 x.rule.least] 34)).alloc (.cells #[.int .i32 p] 21)) = W1 at *
  have HDB := Lib.hid hDB
  have HPB := Lib.hid hPB
  clear hDB hPB
  go_upto_region 3 with (go_at_call 10; (with_reducible refine (HA.out _).mono ?_); rintro e wa ⟨rfl, hbwa⟩)
  have hwa : Below w.heap.size w wa := ba_via hbwa hW1
  have HDA := Lib.hid (HDB.out.via hbwa)
  have hDx := HDA.out
  have d9 := hDx.cell 9
  have dl := hDx.lt
  simp only [List.getElem?_toArray, List.getElem?_cons_zero, List.getElem?_cons_succ] at d9
  have HPA := Lib.hid (HPB.out.via hbwa)
  have q0 := HPA.out.cell 0
  have ql := HPA.out.lt
  simp only [List.getElem?_toArray, List.getElem?_cons_zero, List.getElem?_cons_succ] at q0
  clear hDx HDB hbwa hW1 HA HPB
  refine wp_region_mix 0 [5, 6, 5] (by kernel_rfl) (by kernel_rfl) (of_decide_eq_true (by kernel_rfl)) ?_
  try simp only [wpSegs, List.take_succ_cons, List.take_zero, List.drop_succ_cons, List.drop_zero, List.take_nil, List.drop_nil]
  repeat (go_big_quiet_step (fail))
  refine wpQuiet_nil ?_
  show wpList _ _ _ _ _ _
  go_wp2_with ((refine wpList_load_gdF (by rfl) 34 (.tmp 3) rfl _ _ rfl _ _ (HDA.out.via (by repeat (with_reducible first | exact Below.refl _ _ | assumption | refine ba_alloc ?_ _ | refine ba_drew ?_ | refine ba_drewN ?_ _ | refine ba_via (by assumption) ?_ | (refine ba_set ?_ ?_ _; rotate_left; (first | omega | (simp; omega) | simp))))).range Tryz.underlying34 rfl (by kernel_rfl) ?_))
  refine seg_next (grow_to (by repeat (with_reducible first | exact Below.refl _ _ | assumption | refine ba_alloc ?_ _ | refine ba_drew ?_ | refine ba_drewN ?_ _ | refine ba_via (by assumption) ?_ | (refine ba_set ?_ ?_ _; rotate_left; (first | omega | (simp; omega) | simp))))) ?_
  try simp only [wpSegs, List.take_succ_cons, List.take_zero, List.drop_succ_cons, List.drop_zero, List.take_nil, List.drop_nil]
  repeat (go_big_quiet_step (fail))
  refine wpQuiet_nil ?_
  show wpList _ _ _ _ _ _
  go_wp2_with ((go_at_call 25; (with_reducible refine (HRD.out _ (ba_via (by repeat (with_reducible first | exact Below.refl _ _ | assumption | refine ba_alloc ?_ _ | refine ba_drew ?_ | refine ba_drewN ?_ _ | refine ba_via (by assumption) ?_ | (refine ba_set ?_ ?_ _; rotate_left; (first | omega | (simp; omega) | simp)))) hwa)).mono ?_); rintro e wr ⟨rfl, hbwr⟩))
  refine seg_next (grow_to (by repeat (with_reducible first | exact Below.refl _ _ | assumption | refine ba_alloc ?_ _ | refine ba_drew ?_ | refine ba_drewN ?_ _ | refine ba_via (by assumption) ?_ | (refine ba_set ?_ ?_ _; rotate_left; (first | omega | (simp; omega) | simp))))) ?_
  try simp only [wpSegs, List.take_succ_cons, List.take_zero, List.drop_succ_cons, List.drop_zero, List.take_nil, List.drop_nil]
  repeat (go_big_quiet_step (fail))
  refine wpQuiet_nil ?_
  show wpList _ _ _ _ _ _
  go_wp2_with ((go_at_call 26; (with_reducible refine (HPL.out _).mono ?_); rintro e w' ⟨rfl, rfl⟩))
  refine seg_next (grow_to (by repeat (with_reducible first | exact Below.refl _ _ | assumption | refine ba_alloc ?_ _ | refine ba_drew ?_ | refine ba_drewN ?_ _ | refine ba_via (by assumption) ?_ | (refine ba_set ?_ ?_ _; rotate_left; (first | omega | (simp; omega) | simp))))) ?_
  try simp only [wpSegs, List.take_succ_cons, List.take_zero, List.drop_succ_cons, List.drop_zero, List.take_nil, List.drop_nil]
  repeat (go_big_quiet_step (fail))
  refine wpQuiet_nil ?_
  show wpList _ _ _ _ _ _
  go_wp2
  go_ret
  exact ⟨rfl, ba_via (by repeat (with_reducible first | exact Below.refl _ _ | assumption | refine ba_alloc ?_ _ | refine ba_drew ?_ | refine ba_drewN ?_ _ | refine ba_via (by assumption) ?_ | (refine ba_set ?_ ?_ _; rotate_left; (first | omega | (simp; omega) | simp)))) hwa⟩
end Go.Proofs.YtmfpbafpnoomeaaGreat

set_option linter.unusedVariables false
set_option linter.unusedSimpArgs false
namespace Go.Proofs.YtmfpbafpnoomeaaGreat
open Go.RowKit
theorem noplace {q : Int} (h : -1048576 ≤ q ∧ q ≤ 1048576) : S.place q = true := by unfold S.place; simp only [Bool.and_eq_true, decide_eq_true_eq]; exact h
set_option maxRecDepth 20000 in
set_option maxHeartbeats 8000000 in
theorem allLaw_yes (x : Dt) (L : List Sp) (dm : Dm) (u : Nat) (p n m r1 r2 e2 : Int) (w : World) (hu : u ≤ 255) (hdn : 0 < x.dn) (hmx : x.dn ≤ 9223372036854775807) (hp : -2147483648 ≤ p ∧ p ≤ 2147483647) (hpp : S.place p = true) (hL : L.length ≤ 400)
    (hsp : ∀ i (h : i < L.length), (-1048576 ≤ L[i].lo ∧ L[i].lo ≤ L[i].hi ∧ L[i].hi ≤ 1048576) ∧ ∀ j (hj : j + 1 = i), L[j].hi + 1 < L[i].lo)
    (hin : anyb L (S.inSpn p) = decide (n < m))
    (hcs : (e2 = 16 ∧ m = 0) ∨ (e2 = 0 ∧ 0 < m ∧ ∃ a b : Nat, r1 = a ∧ r2 = b ∧ a ≤ 1152921504606846976 ∧ b ≤ 1152921504606846976 ∧ decide (S.cmp1 a b < 0) = decide (n < m)))
    (hdc : ∀ W, Below w.heap.size w W → ∃ bD oD, x.dA = some ⟨bD, oD, none⟩ ∧ bD < W.heap.size ∧ ∀ j v, (dmC dm)[j]? = some v → W.cell? ⟨bD, oD + (u % x.dn : Nat) * 8 + j, none⟩ = some v)
    (hRD : ∀ W, Below w.heap.size w W → Calls Tryz.prog 25 #[dtV x, .int .i64 (u % x.dn : Nat)] W fun e w' => e = .returned (.bool true) ∧ Below W.heap.size W w')
    (hSP : ∀ W, Below w.heap.size w W → Calls Tryz.prog 13 #[dtV x, .int .i64 (u % x.dn : Nat)] W (GivesSpn L W))
    (hSA : ∀ W, Below w.heap.size w W → Calls Tryz.prog 28 #[dtV x, .int .i64 (u % x.dn : Nat), .int .i64 p] W fun e w' => e = .returned (.tuple #[.int .i64 n, .int .i64 0]) ∧ Below W.heap.size W w')
    (hDA : ∀ W, Below w.heap.size w W → Calls Tryz.prog 29 #[dmV dm, .int .i64 p] W fun e w' => e = .returned (.tuple #[.int .i64 m, .int .i64 0]) ∧ Below W.heap.size W w')
    (hRA : ∀ W, Below w.heap.size w W → Calls Tryz.prog 18 #[dtV x, .int .i64 (u % x.dn : Nat), .int .i64 p] W fun e w' => e = .returned (.tuple #[.agg #[.int .i64 r1, .int .i64 r2], .int .i64 e2]) ∧ Below W.heap.size W w') :
    Calls Tryz.prog 7 #[dtV x, .int .u8 u, .int .i32 p] w fun e w' => e = .returned (.bool true) ∧ Below w.heap.size w w' := by
  have bz : ((x.dn : Int) == 0) = false := by simp; omega
  have bn : (x.dn : Int) ≠ 0 := by omega
  have e1 : IntKind.i64.wrap (u : Int) = (u : Int) := IntWalk.i64_in _ (by omega)
  have e2 : (u : Int).tmod (x.dn : Int) = ((u % x.dn : Nat) : Int) := by rw [Int.tmod_eq_emod_of_nonneg (by omega)]; exact (Int.natCast_emod u x.dn).symm
  have hkd : u % x.dn < x.dn := Nat.mod_lt _ (by omega)
  generalize u % x.dn = k at *
  have e3 : IntKind.i64.wrap (k : Int) = (k : Int) := IntWalk.i64_in _ (by omega)
  have hki : (k : Int) < x.dn := by omega
  have e4 : IntKind.i64.wrap p = p := IntWalk.i64_in _ (by omega)
  have HPL := Lib.hid (fun W => hpp ▸ rplace10_any p W)
  have hb : ∃ bi : Bool, bi = decide (n < m) := ⟨_, rfl⟩
  obtain ⟨bi, hbi⟩ := hb
  rw [← hbi] at hin hcs
  have HA := Lib.hid (fun w => awake27_any w)
  have HRD := Lib.hid hRD
  have HSP := Lib.hid hSP
  have HSA := Lib.hid hSA
  have HDM := Lib.hid hDA
  have HRA := Lib.hid hRA
  have HDC := Lib.hid hdc
  have HSO := Lib.hid hsp
  have HIN := Lib.hid hin
  have HCS := Lib.hid hcs
  have HBI := Lib.hid hbi.symm
  clear hRD hSP hSA hDA hRA hdc hsp hin hcs hbi
  unfold dtV at HRD HSP HSA HRA
  unfold dmV at HDM
  unfold dtV
  have hDB := (Blk.new w 34 #[.string x.m.name, .slice x.mA x.mn x.mc, .slice x.hA x.hn x.hc, .int .i64 x.m.cover, .int .i64 x.m.aggr, .int .i64 x.m.poker, .slice x.bA x.bn x.bc, .slice x.rA x.rn x.rc, .slice x.jA x.jn x.jc, .slice x.dA x.dn x.dc, .int .i64 x.rule.num, .int .i64 x.rule.den, .int .i64 x.rule.pnum, .int .i64 x.rule.pden, .int .i64 x.rule.bnum, .int .i64 x.rule.bden, .int .i64 x.rule.lnum, .int .i64 x.rule.lden, .int .i64 x.rule.least]).alloc (.cells #[.int .i32 p] 21)
  have hPB := Blk.newN (W := w.alloc (.cells #[.string x.m.name, .slice x.mA x.mn x.mc, .slice x.hA x.hn x.hc, .int .i64 x.m.cover, .int .i64 x.m.aggr, .int .i64 x.m.poker, .slice x.bA x.bn x.bc, .slice x.rA x.rn x.rc, .slice x.jA x.jn x.jc, .slice x.dA x.dn x.dc, .int .i64 x.rule.num, .int .i64 x.rule.den, .int .i64 x.rule.pnum, .int .i64 x.rule.pden, .int .i64 x.rule.bnum, .int .i64 x.rule.bden, .int .i64 x.rule.lnum, .int .i64 x.rule.lden, .int .i64 x.rule.least] 34)) (n := w.heap.size + 1) (by simp) 21 #[.int .i32 p]
  have hW1 : Below w.heap.size w ((w.alloc (.cells #[.string x.m.name, .slice x.mA x.mn x.mc, .slice x.hA x.hn x.hc, .int .i64 x.m.cover, .int .i64 x.m.aggr, .int .i64 x.m.poker, .slice x.bA x.bn x.bc, .slice x.rA x.rn x.rc, .slice x.jA x.jn x.jc, .slice x.dA x.dn x.dc, .int .i64 x.rule.num, .int .i64 x.rule.den, .int .i64 x.rule.pnum, .int .i64 x.rule.pden, .int .i64 x.rule.bnum, .int .i64 x.rule.bden, .int .i64 x.rule.lnum, .int .i64 x.rule.lden, .int .i64 x.rule.least] 34)).alloc (.cells #[.int .i32 p] 21)) := ba_alloc (ba_alloc (Below.refl _ _) _) _
  go_enter Tryz.func7, Tryz.ntmps7
  go_upto_region 1 with fail
  generalize ((w.alloc (.cells #[.string x.m.name, .slice x.mA x.mn x.mc, .slice x.hA x.hn x.hc, .int .i64 x.m.cover, .int .i64 x.m.aggr, .int .i64 x.m.poker, .slice x.bA x.bn x.bc, .slice x.rA x.rn x.rc, .slice x.jA x.jn x.jc, .slice x.dA x.dn x.dc, .int .i64 x.rule.num, .int .i64 x.rule.den, .int .i64 x.rule.pnum, .int .i64 x.rule.pden, .int .i64 x.rule.bnum, .int .i64 x.rule.bden, .int .i64 x.rule.lnum, .int .i64 x.rule.lden, .int .i64 x.rule.least] 34)).alloc (.cells #[.int .i32 p] 21)) = W1 at *
  have HDB := Lib.hid hDB
  have HPB := Lib.hid hPB
  clear hDB hPB
  go_upto_region 3 with (go_at_call 10; (with_reducible refine (HA.out _).mono ?_); rintro e wa ⟨rfl, hbwa⟩)
  have hwa : Below w.heap.size w wa := ba_via hbwa hW1
  have HDA := Lib.hid (HDB.out.via hbwa)
  have hDx := HDA.out
  have d9 := hDx.cell 9
  have dl := hDx.lt
  simp only [List.getElem?_toArray, List.getElem?_cons_zero, List.getElem?_cons_succ] at d9
  have HPA := Lib.hid (HPB.out.via hbwa)
  have q0 := HPA.out.cell 0
  have ql := HPA.out.lt
  simp only [List.getElem?_toArray, List.getElem?_cons_zero, List.getElem?_cons_succ] at q0
  clear hDx HDB hbwa hW1 HA HPB
  refine wp_region_mix 0 [5, 6, 5] (by kernel_rfl) (by kernel_rfl) (of_decide_eq_true (by kernel_rfl)) ?_
  try simp only [wpSegs, List.take_succ_cons, List.take_zero, List.drop_succ_cons, List.drop_zero, List.take_nil, List.drop_nil]
  repeat (go_big_quiet_step (fail))
  refine wpQuiet_nil ?_
  show wpList _ _ _ _ _ _
  go_wp2_with ((refine wpList_load_gdF (by rfl) 34 (.tmp 3) rfl _ _ rfl _ _ (HDA.out.via (by repeat (with_reducible first | exact Below.refl _ _ | assumption | refine ba_alloc ?_ _ | refine ba_drew ?_ | refine ba_drewN ?_ _ | refine ba_via (by assumption) ?_ | (refine ba_set ?_ ?_ _; rotate_left; (first | omega | (simp; omega) | simp))))).range Tryz.underlying34 rfl (by kernel_rfl) ?_))
  refine seg_next (grow_to (by repeat (with_reducible first | exact Below.refl _ _ | assumption | refine ba_alloc ?_ _ | refine ba_drew ?_ | refine ba_drewN ?_ _ | refine ba_via (by assumption) ?_ | (refine ba_set ?_ ?_ _; rotate_left; (first | omega | (simp; omega) | simp))))) ?_
  try simp only [wpSegs, List.take_succ_cons, List.take_zero, List.drop_succ_cons, List.drop_zero, List.take_nil, List.drop_nil]
  repeat (go_big_quiet_step (fail))
  refine wpQuiet_nil ?_
  show wpList _ _ _ _ _ _
  go_wp2_with ((go_at_call 25; (with_reducible refine (HRD.out _ (ba_via (by repeat (with_reducible first | exact Below.refl _ _ | assumption | refine ba_alloc ?_ _ | refine ba_drew ?_ | refine ba_drewN ?_ _ | refine ba_via (by assumption) ?_ | (refine ba_set ?_ ?_ _; rotate_left; (first | omega | (simp; omega) | simp)))) hwa)).mono ?_); rintro e wr ⟨rfl, hbwr⟩))
  refine seg_next (grow_to (by repeat (with_reducible first | exact Below.refl _ _ | assumption | refine ba_alloc ?_ _ | refine ba_drew ?_ | refine ba_drewN ?_ _ | refine ba_via (by assumption) ?_ | (refine ba_set ?_ ?_ _; rotate_left; (first | omega | (simp; omega) | simp))))) ?_
  try simp only [wpSegs, List.take_succ_cons, List.take_zero, List.drop_succ_cons, List.drop_zero, List.take_nil, List.drop_nil]
  repeat (go_big_quiet_step (fail))
  refine wpQuiet_nil ?_
  show wpList _ _ _ _ _ _
  go_wp2_with ((go_at_call 26; (with_reducible refine (HPL.out _).mono ?_); rintro e w' ⟨rfl, rfl⟩))
  refine seg_next (grow_to (by repeat (with_reducible first | exact Below.refl _ _ | assumption | refine ba_alloc ?_ _ | refine ba_drew ?_ | refine ba_drewN ?_ _ | refine ba_via (by assumption) ?_ | (refine ba_set ?_ ?_ _; rotate_left; (first | omega | (simp; omega) | simp))))) ?_
  try simp only [wpSegs, List.take_succ_cons, List.take_zero, List.drop_succ_cons, List.drop_zero, List.take_nil, List.drop_nil]
  repeat (go_big_quiet_step (fail))
  refine wpQuiet_nil ?_
  show wpList _ _ _ _ _ _
  have har : Below wa.heap.size wa wr := (by repeat (with_reducible first | exact Below.refl _ _ | assumption | refine ba_alloc ?_ _ | refine ba_drew ?_ | refine ba_drewN ?_ _ | refine ba_via (by assumption) ?_ | (refine ba_set ?_ ?_ _; rotate_left; (first | omega | (simp; omega) | simp))))
  have hwr : Below w.heap.size w wr := ba_via har hwa
  have HDR := Lib.hid (HDA.out.via har)
  have HPR := Lib.hid (HPA.out.via har)
  have hDx := HDR.out
  have d9 := hDx.cell 9
  have dl := hDx.lt
  simp only [List.getElem?_toArray, List.getElem?_cons_zero, List.getElem?_cons_succ] at d9
  clear hDx HDA HPA HRD hwa har hbwr q0 ql
  go_upto_region 9 with (first
    | ((with_reducible refine at_load 34 3 ?_); refine wpList_load_mid rfl 34 (.tmp 3) rfl _ _ rfl _ _ (HDR.out.via (by repeat (with_reducible first | exact Below.refl _ _ | assumption | refine ba_alloc ?_ _ | refine ba_drew ?_ | refine ba_drewN ?_ _ | refine ba_via (by assumption) ?_ | (refine ba_set ?_ ?_ _; rotate_left; (first | omega | (simp; omega) | simp))))).range Tryz.underlying34 rfl (by kernel_rfl) ?_)
    | (go_at_call 13; (with_reducible refine (HSP.out _ (ba_via (by repeat (with_reducible first | exact Below.refl _ _ | assumption | refine ba_alloc ?_ _ | refine ba_drew ?_ | refine ba_drewN ?_ _ | refine ba_via (by assumption) ?_ | (refine ba_set ?_ ?_ _; rotate_left; (first | omega | (simp; omega) | simp)))) hwr)).mono ?_); rintro e w6 ⟨A6, c6, rfl, hC6, hbw6⟩))
  have hw6 : Below w.heap.size w w6 := ba_via hbw6 hwr
  have HD6 := Lib.hid (HDR.out.via hbw6)
  have HP6 := Lib.hid (HPR.out.via hbw6)
  have HC6 := Lib.hid hC6
  obtain ⟨nL, hnL⟩ : ∃ nL, nL = L.length := ⟨_, rfl⟩
  have HNL := Lib.hid hnL
  rw [← hnL] at hL
  rw [← hnL]
  clear hC6 HDR HPR hbw6 hwr d9 dl HSP hnL
  go_wp2
  go_loopw [65] (fun i wq => ∃ q : Nat, q ≤ nL ∧ i = .int .i64 q ∧ Below w6.heap.size w6 wq) (fun i _ => nL - (intOf i).toNat)
  case atStart => exact ⟨0, Nat.zero_le _, rfl, Below.refl _ _⟩
  case round =>
    obtain ⟨q, hq, rfl, hbq⟩ := hrel
    have hsq := hbq.size
    have hwq : Below w.heap.size w wr := ba_via hbq hw6
    by_cases hlt : q < nL
    · have hqx : q < L.length := by rw [← HNL.out]; exact hlt
      have hqi : (q : Int) < nL := by omega
      have hCS := HC6.out.below hbq
      obtain ⟨b, o, hA6, hbb, hxx⟩ := hCS.at_ (by rw [flat_len snC 2 snC_len]; omega)
      clear hxx
      subst hA6
      have c0 := hCS.row0 snC_len hqx rfl
      have c1 := hCS.rowj snC_len hqx 1 rfl
      have hbl : b < wr.heap.size := by omega
      obtain ⟨⟨p1, p2, p3⟩, p4⟩ := HSO.out q hqx
      have hprev : Hid (q = 0 ∨ ∃ q0 : Nat, ∃ hi : Int, q = q0 + 1 ∧ wr.cell? ⟨b, o + q0 * 2 + 1, none⟩ = some (.int .i64 hi) ∧ hi + 1 < L[q].lo ∧ -1048576 ≤ hi) := Lib.hid (by
        cases q with
        | zero => exact .inl rfl
        | succ q0 =>
          have hq0 : q0 < L.length := by omega
          have hh := HSO.out q0 hq0
          exact .inr ⟨q0, L[q0].hi, rfl, hCS.rowj snC_len hq0 1 rfl, p4 q0 rfl, by omega⟩)
      clear hCS p4
      obtain ⟨sl, hsl⟩ : ∃ sl, sl = L[q].lo := ⟨_, rfl⟩
      obtain ⟨sh, hsh⟩ : ∃ sh, sh = L[q].hi := ⟨_, rfl⟩
      rw [← hsl] at c0 p1 p2 hprev
      rw [← hsh] at c1 p2 p3
      clear hsl hsh
      have hplo : S.place sl = true := noplace ⟨p1, by omega⟩
      have hphi : S.place sh = true := noplace ⟨by omega, p3⟩
      have HPlo := Lib.hid (fun W => hplo ▸ rplace10_any sl W)
      have HPhi := Lib.hid (fun W => hphi ▸ rplace10_any sh W)
      clear hplo hphi
      have b1 : decide (sh < sl) = false := decide_eq_false (by omega)
      go_upto_region 12 with fail
      have hSB := Blk.new wr 49 #[.int .i64 sl, .int .i64 sh]
      have hbS : Below wr.heap.size wr (wr.alloc (.cells #[.int .i64 sl, .int .i64 sh] 49)) := ba_alloc (Below.refl _ _) _
      have HPV := Lib.hid (show q = 0 ∨ ∃ q0 : Nat, ∃ hi : Int, q = q0 + 1 ∧ (wr.alloc (.cells #[.int .i64 sl, .int .i64 sh] 49)).cell? ⟨b, o + q0 * 2 + 1, none⟩ = some (.int .i64 hi) ∧ hi + 1 < sl ∧ -1048576 ≤ hi from by
        rcases hprev.out with h | ⟨q0, hi, h1, h2, h3, h4⟩
        · exact .inl h
        · exact .inr ⟨q0, hi, h1, (hbS.cell (p := ⟨b, o + q0 * 2 + 1, none⟩) hbl).trans h2, h3, h4⟩)
      generalize (wr.alloc (.cells #[.int .i64 sl, .int .i64 sh] 49)) = W7 at *
      have y0 := hSB.cell 0
      have y1 := hSB.cell 1
      have yl := hSB.lt
      simp only [List.getElem?_toArray, List.getElem?_cons_zero, List.getElem?_cons_succ] at y0 y1
      have hbl7 : b < W7.heap.size := Nat.lt_of_lt_of_le hbl hbS.size
      have HB7 := Lib.hid (hbq.trans (hbS.mono hsq))
      have hs7 : w6.heap.size ≤ W7.heap.size := Nat.le_trans hsq hbS.size
      generalize wr.heap.size = g7 at *
      clear c0 c1 hSB hbS hprev hbq hwq
      rcases HPV.out with hq0 | ⟨q0, hi, hq0, kp, k1, k2⟩
      all_goals clear HPV
      · subst hq0
        refine wp_region_mix 0 [24, 5] (by kernel_rfl) (by kernel_rfl) (of_decide_eq_true (by kernel_rfl)) ?_
        try simp only [wpSegs, List.take_succ_cons, List.take_zero, List.drop_succ_cons, List.drop_zero, List.take_nil, List.drop_nil]
        repeat (go_big_quiet_step (fail))
        refine wpQuiet_nil ?_
        show wpList _ _ _ _ _ _
        go_wp2_with ((go_at_call 26; (with_reducible refine (HPlo.out _).mono ?_); rintro e w' ⟨rfl, rfl⟩))
        refine seg_next (grow_to (by repeat (with_reducible first | exact Below.refl _ _ | assumption | refine ba_alloc ?_ _ | refine ba_drew ?_ | refine ba_drewN ?_ _ | refine ba_via (by assumption) ?_ | (refine ba_set ?_ ?_ _; rotate_left; (first | omega | (simp; omega) | simp))))) ?_
        try simp only [wpSegs, List.take_succ_cons, List.take_zero, List.drop_succ_cons, List.drop_zero, List.take_nil, List.drop_nil]
        repeat (go_big_quiet_step (fail))
        refine wpQuiet_nil ?_
        show wpList _ _ _ _ _ _
        go_wp2_with ((go_at_call 26; (with_reducible refine (HPhi.out _).mono ?_); rintro e w' ⟨rfl, rfl⟩))
        refine seg_next (grow_to (by repeat (with_reducible first | exact Below.refl _ _ | assumption | refine ba_alloc ?_ _ | refine ba_drew ?_ | refine ba_drewN ?_ _ | refine ba_via (by assumption) ?_ | (refine ba_set ?_ ?_ _; rotate_left; (first | omega | (simp; omega) | simp))))) ?_
        try simp only [wpSegs, List.take_succ_cons, List.take_zero, List.drop_succ_cons, List.drop_zero, List.take_nil, List.drop_nil]
        repeat (go_big_quiet_step (fail))
        refine wpQuiet_nil ?_
        show wpList _ _ _ _ _ _
        go_wp2
        go_roundw
        case rel => exact ⟨1, by omega, by go_num, HB7.out.trans ((show Below W7.heap.size W7 _ from (by repeat (with_reducible first | exact Below.refl _ _ | assumption | refine ba_alloc ?_ _ | refine ba_drew ?_ | refine ba_drewN ?_ _ | refine ba_via (by assumption) ?_ | (refine ba_set ?_ ?_ _; rotate_left; (first | omega | (simp; omega) | simp))))).mono hs7)⟩
        case measure => simp [intOf]; omega
      · have b2 : decide ((0 : Int) < (q : Int)) = true := decide_eq_true (by omega)
        have e7 : IntKind.i64.wrap ((q : Int) - 1) = (q0 : Int) := by rw [show ((q : Int) - 1) = (q0 : Int) by omega]; exact IntWalk.i64_in _ (by omega)
        have h0i : (q0 : Int) < nL := by omega
        have e8 : IntKind.i64.wrap (hi + 1) = hi + 1 := IntWalk.i64_in _ (by omega)
        have b3 : decide (sl ≤ hi + 1) = false := decide_eq_false (by omega)
        refine wp_region_mix 0 [24, 5] (by kernel_rfl) (by kernel_rfl) (of_decide_eq_true (by kernel_rfl)) ?_
        try simp only [wpSegs, List.take_succ_cons, List.take_zero, List.drop_succ_cons, List.drop_zero, List.take_nil, List.drop_nil]
        repeat (go_big_quiet_step (fail))
        refine wpQuiet_nil ?_
        show wpList _ _ _ _ _ _
        go_wp2_with ((go_at_call 26; (with_reducible refine (HPlo.out _).mono ?_); rintro e w' ⟨rfl, rfl⟩))
        refine seg_next (grow_to (by repeat (with_reducible first | exact Below.refl _ _ | assumption | refine ba_alloc ?_ _ | refine ba_drew ?_ | refine ba_drewN ?_ _ | refine ba_via (by assumption) ?_ | (refine ba_set ?_ ?_ _; rotate_left; (first | omega | (simp; omega) | simp))))) ?_
        try simp only [wpSegs, List.take_succ_cons, List.take_zero, List.drop_succ_cons, List.drop_zero, List.take_nil, List.drop_nil]
        repeat (go_big_quiet_step (fail))
        refine wpQuiet_nil ?_
        show wpList _ _ _ _ _ _
        go_wp2_with ((go_at_call 26; (with_reducible refine (HPhi.out _).mono ?_); rintro e w' ⟨rfl, rfl⟩))
        refine seg_next (grow_to (by repeat (with_reducible first | exact Below.refl _ _ | assumption | refine ba_alloc ?_ _ | refine ba_drew ?_ | refine ba_drewN ?_ _ | refine ba_via (by assumption) ?_ | (refine ba_set ?_ ?_ _; rotate_left; (first | omega | (simp; omega) | simp))))) ?_
        try simp only [wpSegs, List.take_succ_cons, List.take_zero, List.drop_succ_cons, List.drop_zero, List.take_nil, List.drop_nil]
        repeat (go_big_quiet_step (fail))
        refine wpQuiet_nil ?_
        show wpList _ _ _ _ _ _
        go_wp2
        go_roundw
        case rel => exact ⟨q + 1, by omega, by go_num, HB7.out.trans ((show Below W7.heap.size W7 _ from (by repeat (with_reducible first | exact Below.refl _ _ | assumption | refine ba_alloc ?_ _ | refine ba_drew ?_ | refine ba_drewN ?_ _ | refine ba_via (by assumption) ?_ | (refine ba_set ?_ ?_ _; rotate_left; (first | omega | (simp; omega) | simp))))).mono hs7)⟩
        case measure => simp [intOf]; omega
    · have hqn : q = nL := by omega
      have hqi : ¬ ((q : Int) < nL) := by omega
      have HDW := Lib.hid (HD6.out.via hbq)
      have HPW := Lib.hid (HP6.out.via hbq)
      have HCW := Lib.hid ((HC6.out.below hbq).mono hsq)
      have z0 := HPW.out.cell 0
      have zl := HPW.out.lt
      simp only [List.getElem?_toArray, List.getElem?_cons_zero, List.getElem?_cons_succ] at z0
      have HSA2 := Lib.hid (fun (W : World) (hw : Below wr.heap.size wr W) => HSA.out W (ba_via hw hwq))
      have HDM2 := Lib.hid (fun (W : World) (hw : Below wr.heap.size wr W) => HDM.out W (ba_via hw hwq))
      have HRA2 := Lib.hid (fun (W : World) (hw : Below wr.heap.size wr W) => HRA.out W (ba_via hw hwq))
      clear HD6 HP6 HC6 HSO HSA HDM HRA hbq
      go_upto_region 16 with (first
        | ((with_reducible refine at_load 34 3 ?_); refine wpList_load_mid rfl 34 (.tmp 3) rfl _ _ rfl _ _ (HDW.out.via (by repeat (with_reducible first | exact Below.refl _ _ | assumption | refine ba_alloc ?_ _ | refine ba_drew ?_ | refine ba_drewN ?_ _ | refine ba_via (by assumption) ?_ | (refine ba_set ?_ ?_ _; rotate_left; (first | omega | (simp; omega) | simp))))).range Tryz.underlying34 rfl (by kernel_rfl) ?_)
        | (go_at_call 28; (with_reducible refine (HSA2.out _ (by repeat (with_reducible first | exact Below.refl _ _ | assumption | refine ba_alloc ?_ _ | refine ba_drew ?_ | refine ba_drewN ?_ _ | refine ba_via (by assumption) ?_ | (refine ba_set ?_ ?_ _; rotate_left; (first | omega | (simp; omega) | simp))))).mono ?_); rintro e w8 ⟨rfl, hbw8⟩))
      have hw8 : Below w.heap.size w w8 := ba_via hbw8 hwq
      obtain ⟨bD, oD, hdA, hbD, hdm⟩ := HDC.out w8 hw8
      have m0 := hdm 0 _ rfl
      have m1 := hdm 1 _ rfl
      have m2 := hdm 2 _ rfl
      have m3 := hdm 3 _ rfl
      have m4 := hdm 4 _ rfl
      have m5 := hdm 5 _ rfl
      have m6 := hdm 6 _ rfl
      have m7 := hdm 7 _ rfl
      simp only [Nat.add_zero] at m0
      have HD8 := Lib.hid (HDW.out.via hbw8)
      have HP8 := Lib.hid (HPW.out.via hbw8)
      have hDx := HD8.out
      have d9 := hDx.cell 9
      have dl := hDx.lt
      simp only [List.getElem?_toArray, List.getElem?_cons_zero, List.getElem?_cons_succ] at d9
      rw [hdA] at d9
      have z0 := HP8.out.cell 0
      have zl := HP8.out.lt
      simp only [List.getElem?_toArray, List.getElem?_cons_zero, List.getElem?_cons_succ] at z0
      have HCX := Lib.hid ((HCW.out.below hbw8).mono hbw8.size)
      have HDM3 := Lib.hid (fun (W : World) (hw : Below w8.heap.size w8 W) => HDM2.out W (ba_via hw hbw8))
      have HRA3 := Lib.hid (fun (W : World) (hw : Below w8.heap.size w8 W) => HRA2.out W (ba_via hw hbw8))
      clear hdm hDx HDW HPW HCW HSA2 HDM2 HRA2 hbw8 hdA
      refine wp_region_mix 4 [7] (by kernel_rfl) (by kernel_rfl) (of_decide_eq_true (by kernel_rfl)) ?_
      try simp only [wpSegs, List.take_succ_cons, List.take_zero, List.drop_succ_cons, List.drop_zero, List.take_nil, List.drop_nil]
      repeat (go_big_quiet_step (fail))
      refine wpQuiet_nil ?_
      show wpList _ _ _ _ _ _
      go_wp2_with ((go_at_call 29; (with_reducible refine (HDM3.out _ (by repeat (with_reducible first | exact Below.refl _ _ | assumption | refine ba_alloc ?_ _ | refine ba_drew ?_ | refine ba_drewN ?_ _ | refine ba_via (by assumption) ?_ | (refine ba_set ?_ ?_ _; rotate_left; (first | omega | (simp; omega) | simp))))).mono ?_); rintro e w9 ⟨rfl, hbw9⟩))
      refine seg_next (grow_to (by repeat (with_reducible first | exact Below.refl _ _ | assumption | refine ba_alloc ?_ _ | refine ba_drew ?_ | refine ba_drewN ?_ _ | refine ba_via (by assumption) ?_ | (refine ba_set ?_ ?_ _; rotate_left; (first | omega | (simp; omega) | simp))))) ?_
      try simp only [wpSegs, List.take_succ_cons, List.take_zero, List.drop_succ_cons, List.drop_zero, List.take_nil, List.drop_nil]
      repeat (go_big_quiet_step (fail))
      refine wpQuiet_nil ?_
      show wpList _ _ _ _ _ _
      have h89 : Below w8.heap.size w8 w9 := (by repeat (with_reducible first | exact Below.refl _ _ | assumption | refine ba_alloc ?_ _ | refine ba_drew ?_ | refine ba_drewN ?_ _ | refine ba_via (by assumption) ?_ | (refine ba_set ?_ ?_ _; rotate_left; (first | omega | (simp; omega) | simp))))
      have hw9 : Below w.heap.size w w9 := ba_via h89 hw8
      have HD9 := Lib.hid (HD8.out.via h89)
      have HP9 := Lib.hid (HP8.out.via h89)
      have HC9 := Lib.hid ((HCX.out.below h89).mono h89.size)
      have HRA4 := Lib.hid (fun (W : World) (hw : Below w9.heap.size w9 W) => HRA3.out W (ba_via hw h89))
      clear HD8 HP8 HCX HDM3 HRA3 m0 m1 m2 m3 m4 m5 m6 m7 d9 dl z0 zl hbw9 h89
      have hcf := containsfS_any 31 #[] #[.pointer (some ⟨w.heap.size + 1, 0, none⟩)] (S.inSpn p) A6 nL c6 L w9.heap.size w9 HNL.out.symm (by omega) (Nat.le_refl _) HC9.out (fun args w => rfl) (fun s w' hb => by
        have hB := HP9.out.via hb
        have hc := hB.cell 0
        simp only [List.getElem?_toArray, List.getElem?_cons_zero, List.getElem?_cons_succ] at hc
        exact allc_any s (w.heap.size + 1) p w' hp hc hB.lt)
      rw [HIN.out] at hcf
      have HCF := Lib.hid hcf
      have hbi := HBI.out
      have bii : (bi != bi) = false := by simp
      have bee : (bi == bi) = true := by simp
      clear hcf HC9 HIN
      go_upto_region 20 with (go_at_call 30; (with_reducible refine (HCF.out).mono ?_); rintro e wB ⟨rfl, hbwB⟩)
      have hwB : Below w.heap.size w wB := ba_via hbwB hw9
      have HDB2 := Lib.hid (HD9.out.via hbwB)
      have HPB2 := Lib.hid (HP9.out.via hbwB)
      have z0 := HPB2.out.cell 0
      have zl := HPB2.out.lt
      simp only [List.getElem?_toArray, List.getElem?_cons_zero, List.getElem?_cons_succ] at z0
      have HRA5 := Lib.hid (fun (W : World) (hw : Below wB.heap.size wB W) => HRA4.out W (ba_via hw hbwB))
      clear HD9 HP9 HRA4 HCF hbwB hw9
      go_upto_region 21 with (first
        | ((with_reducible refine at_load 34 3 ?_); refine wpList_load_mid rfl 34 (.tmp 3) rfl _ _ rfl _ _ (HDB2.out.via (by repeat (with_reducible first | exact Below.refl _ _ | assumption | refine ba_alloc ?_ _ | refine ba_drew ?_ | refine ba_drewN ?_ _ | refine ba_via (by assumption) ?_ | (refine ba_set ?_ ?_ _; rotate_left; (first | omega | (simp; omega) | simp))))).range Tryz.underlying34 rfl (by kernel_rfl) ?_)
        | (go_at_call 18; (with_reducible refine (HRA5.out _ (by repeat (with_reducible first | exact Below.refl _ _ | assumption | refine ba_alloc ?_ _ | refine ba_drew ?_ | refine ba_drewN ?_ _ | refine ba_via (by assumption) ?_ | (refine ba_set ?_ ?_ _; rotate_left; (first | omega | (simp; omega) | simp))))).mono ?_); rintro e wC ⟨rfl, hbwC⟩))
      have hbC : Below wB.heap.size wB (wC.alloc (.cells #[.int .i64 r1, .int .i64 r2] 54)) := ba_alloc hbwC _
      have hFC := Blk.new wC 54 #[.int .i64 r1, .int .i64 r2]
      generalize (wC.alloc (.cells #[.int .i64 r1, .int .i64 r2] 54)) = WC at *
      have hwC : Below w.heap.size w WC := ba_via hbC hwB
      have f0 := hFC.cell 0
      have f1 := hFC.cell 1
      have fl := hFC.lt
      simp only [List.getElem?_toArray, List.getElem?_cons_zero, List.getElem?_cons_succ] at f0 f1
      generalize wC.heap.size = gC at *
      clear hFC HDB2 HPB2 z0 zl HRA5 hbC hbwC hwB
      rcases HCS.out with ⟨rfl, rfl⟩ | ⟨rfl, k1, a, b, rfl, rfl, k2, k3, k4⟩
      · clear HCS
        go_wp2
        go_ret
        exact ⟨rfl, hwC⟩
      · have k5 : decide (0 < m) = true := decide_eq_true k1
        have HCM := Lib.hid (fun W => rcmp1_any a b W k2 k3)
        have HOF := Lib.hid (fun W => of02_any 1 W)
        clear HCS k1
        generalize S.cmp1 a b = cm at *
        go_upto_region 23 with fail
        refine wp_region_mix 3 [5, 0] (by kernel_rfl) (by kernel_rfl) (of_decide_eq_true (by kernel_rfl)) ?_
        try simp only [wpSegs, List.take_succ_cons, List.take_zero, List.drop_succ_cons, List.drop_zero, List.take_nil, List.drop_nil]
        repeat (go_big_quiet_step (fail))
        refine wpQuiet_nil ?_
        show wpList _ _ _ _ _ _
        go_wp2_with ((go_at_call 33; (with_reducible refine (HOF.out _).mono ?_); rintro e wE ⟨rfl, hbwE⟩))
        refine seg_next (grow_to (by repeat (with_reducible first | exact Below.refl _ _ | assumption | refine ba_alloc ?_ _ | refine ba_drew ?_ | refine ba_drewN ?_ _ | refine ba_via (by assumption) ?_ | (refine ba_set ?_ ?_ _; rotate_left; (first | omega | (simp; omega) | simp))))) ?_
        try simp only [wpSegs, List.take_succ_cons, List.take_zero, List.drop_succ_cons, List.drop_zero, List.take_nil, List.drop_nil]
        repeat (go_big_quiet_step (fail))
        refine wpQuiet_nil ?_
        show wpList _ _ _ _ _ _
        go_wp2_with ((go_at_call 32; (with_reducible refine (HCM.out _).mono ?_); rintro e wF ⟨rfl, hbwF⟩))
        refine seg_next (grow_to (by repeat (with_reducible first | exact Below.refl _ _ | assumption | refine ba_alloc ?_ _ | refine ba_drew ?_ | refine ba_drewN ?_ _ | refine ba_via (by assumption) ?_ | (refine ba_set ?_ ?_ _; rotate_left; (first | omega | (simp; omega) | simp))))) ?_
        try simp only [wpSegs, List.take_succ_cons, List.take_zero, List.drop_succ_cons, List.drop_zero, List.take_nil, List.drop_nil]
        repeat (go_big_quiet_step (fail))
        refine wpQuiet_nil ?_
        show wpList _ _ _ _ _ _
        go_wp2
        go_ret
        exact ⟨by simp, ba_via (by repeat (with_reducible first | exact Below.refl _ _ | assumption | refine ba_alloc ?_ _ | refine ba_drew ?_ | refine ba_drewN ?_ _ | refine ba_via (by assumption) ?_ | (refine ba_set ?_ ?_ _; rotate_left; (first | omega | (simp; omega) | simp)))) hwC⟩
theorem cmp1_lt {a b : Int} {n m : Int} (hn : 0 ≤ n) (hm : 0 < m) (ha : a = n / gcdI n m) (hb : b = m / gcdI n m) : decide (S.cmp1 a b < 0) = decide (n < m) := by
  have g1 := gcdI_pos (n := n) (d := m) (by omega)
  have d1 : gcdI n m ∣ n := by unfold gcdI; exact Int.dvd_trans (Int.natCast_dvd_natCast.2 (Nat.gcd_dvd_left _ _)) (by rw [Int.toNat_of_nonneg hn]; exact Int.dvd_refl _)
  have d2 : gcdI n m ∣ m := by unfold gcdI; exact Int.dvd_trans (Int.natCast_dvd_natCast.2 (Nat.gcd_dvd_right _ _)) (by rw [Int.toNat_of_nonneg (by omega)]; exact Int.dvd_refl _)
  have e1 : n = gcdI n m * a := by rw [ha]; exact (Int.mul_ediv_cancel' d1).symm
  have e2 : m = gcdI n m * b := by rw [hb]; exact (Int.mul_ediv_cancel' d2).symm
  generalize gcdI n m = g at *
  have key : n < m ↔ a < b := by
    rw [e1, e2]
    exact ⟨fun h => Int.lt_of_mul_lt_mul_left h (by omega), fun h => Int.mul_lt_mul_of_pos_left h (by omega)⟩
  unfold S.cmp1
  by_cases h1 : a = b
  · rw [if_pos h1, decide_eq_false (by decide), decide_eq_false (by rw [key]; omega)]
  · rw [if_neg h1]
    by_cases h2 : a < b
    · rw [if_pos h2, decide_eq_true (by decide), decide_eq_true (key.2 h2)]
    · rw [if_neg h2, decide_eq_false (by decide), decide_eq_false (by rw [key]; exact h2)]
theorem all_walk (x : Dt) (ds : List Dm) (u : Nat) (p : Int) (w : World) (h : DtOk w x ds) (hu : u ≤ 255) (hp : -2147483648 ≤ p ∧ p ≤ 2147483647) :
    Calls Tryz.prog 7 #[dtV x, .int .u8 u, .int .i32 p] w fun e w' => e = .returned (.bool true) ∧ Below w.heap.size w w' := by
  have hmx := h.dems.max
  have hdl := h.dems.len
  by_cases hdn : x.dn = 0
  · exact allLaw_zero x u p w hdn
  · have hRD := any_ready h (u % x.dn : Nat)
    cases hrd : (S.small25 x ds && (S.given27 x ds (u % x.dn : Nat) == 0))
    · rw [hrd] at hRD
      exact allLaw_no x u p w hu (by omega) hmx hRD
    · rw [hrd] at hRD
      simp only [Bool.and_eq_true, beq_iff_eq] at hrd
      obtain ⟨hsm, hg⟩ := hrd
      cases hpp : S.place p
      · exact allLaw_off x u p w hu (by omega) hmx hp hpp hRD
      · obtain ⟨hlk, k, dm, hke, hk⟩ := given27_zero hg
        have hku : k = u % x.dn := by omega
        subst hku
        have g := look_ok hlk
        obtain ⟨rs, hrs⟩ := rods_ex g.laid
        have hC := few_chains hsm g.laid
        have hsv := sup_valid hlk hC hrs dm.zone
        have hwv := (dem_steps hlk hk).1
        have hpq : -1048576 ≤ p ∧ p ≤ 1048576 := by unfold S.place at hpp; simpa using hpp
        have hAT := good_At h hlk hk hpq hrs
        rw [sup_at hpq.1 hlk hrs] at hAT
        have hRA := good_Ratio h hlk hC hk p hrs
        unfold S.ratioD at hRA
        rw [if_pos hpp] at hRA
        obtain ⟨s1, s2, s3⟩ := spans_law (spots_place hsv hwv)
        have b1 := valueOf_bd hsv p
        have b2 := valueOf_bd hwv p
        have hin : anyb (S.spansL (S.partsD x rs dm)) (S.inSpn p) = decide (S.valueOf p (S.supplyOf x rs (S.cOf x) dm.zone) < S.valueOf p dm.st) := by
          rw [Bool.eq_iff_iff, decide_eq_true_eq, ← s3 p hpq.2]
          unfold anyb
          rw [List.any_eq_true]
          constructor
          · rintro ⟨t, ht, h1⟩
            unfold S.inSpn at h1
            simp only [Bool.and_eq_true, decide_eq_true_eq] at h1
            exact ⟨t, ht, h1.1, h1.2⟩
          · rintro ⟨t, ht, h1, h2⟩
            exact ⟨t, ht, by unfold S.inSpn; simp only [Bool.and_eq_true, decide_eq_true_eq]; exact ⟨h1, h2⟩⟩
        refine allLaw_yes x (S.spansL (S.partsD x rs dm)) dm u p _ _ _ _ _ w hu (by omega) hmx hp hpp (Nat.le_trans (spansL_len _) (partsD_len h hlk hC hk hrs)) (fun i hi => ?_) hin ?_ (sec_dem h hk) hRD (good_Spans h hlk hC hk hrs) hAT (good_demAt h hlk hk p) hRA
        · have h1 := s1 _ (List.getElem_mem hi)
          exact ⟨⟨h1.2.1, h1.1, h1.2.2⟩, fun j hj => List.pairwise_iff_getElem.1 s2 j i (Nat.lt_trans (show j < i by omega) hi) hi (by omega)⟩
        · unfold S.ratioOf
          by_cases hm : S.valueOf p dm.st = 0
          · rw [if_pos hm]
            exact .inl ⟨rfl, hm⟩
          · rw [if_neg hm]
            have hm0 : 0 < S.valueOf p dm.st := by omega
            have q1 := div_bd (g := gcdI (S.valueOf p (S.supplyOf x rs (S.cOf x) dm.zone)) (S.valueOf p dm.st)) b1.1 (gcdI_pos hm0)
            have q2 := div_bd (g := gcdI (S.valueOf p (S.supplyOf x rs (S.cOf x) dm.zone)) (S.valueOf p dm.st)) b2.1 (gcdI_pos hm0)
            obtain ⟨a, ha⟩ := Int.eq_ofNat_of_zero_le q1.1
            obtain ⟨b, hb⟩ := Int.eq_ofNat_of_zero_le q2.1
            have q3 := q1.2
            have q4 := q2.2
            rw [ha] at q3
            rw [hb] at q4
            exact .inr ⟨rfl, hm0, a, b, ha, hb, by omega, by omega, cmp1_lt b1.1 hm0 ha.symm hb.symm⟩
end Go.Proofs.YtmfpbafpnoomeaaGreat
