/- Contracts: supply.Leg, supply.Anchored, supply.Area of any detail and any index. The walk through the law SupplyLegs. The law SupplyLegs of any detail. -/
import Derived.Test.YtffkmgjmlahfpaaGreatPAV
import Derived.Test.YtffkmgjmlahfpaaGreatPAZ
import Derived.Test.YtffkmgjmlahfpaaGreatPAG
import Derived.Test.YtffkmgjmlahfpaaGreatPBA
set_option linter.unusedVariables false
set_option linter.unusedSimpArgs false
namespace Go.Proofs.YtffkmgjmlahfpaaGreat
open Go.RowKit
set_option maxRecDepth 20000 in
set_option maxHeartbeats 1000000 in
theorem Leg_inv (x : Dt) (i : Int) (w : World)
    (hLV : ∀ W, Below w.heap.size w W → Calls Tryz.prog 87 #[dtV x] W fun e w' => e = .returned (.bool false) ∧ Below W.heap.size W w') :
    Calls Tryz.prog 39 #[dtV x, .int .i64 i] w fun e w' => e = .returned (.tuple #[boxV S.zbox, .int .i64 1]) ∧ Below w.heap.size w w' := by
  have HLV := Lib.hid hLV
  clear hLV
  unfold dtV at HLV
  unfold dtV
  have hDB := (Blk.new w 34 #[.string x.m.name, .slice x.mA x.mn x.mc, .slice x.hA x.hn x.hc, .int .i64 x.m.cover, .int .i64 x.m.aggr, .int .i64 x.m.poker, .slice x.bA x.bn x.bc, .slice x.rA x.rn x.rc, .slice x.jA x.jn x.jc, .slice x.dA x.dn x.dc, .int .i64 x.rule.num, .int .i64 x.rule.den, .int .i64 x.rule.pnum, .int .i64 x.rule.pden, .int .i64 x.rule.bnum, .int .i64 x.rule.bden, .int .i64 x.rule.lnum, .int .i64 x.rule.lden, .int .i64 x.rule.least]).alloc (.cells zbxC 89)
  have hSB := Blk.newN (W := w.alloc (.cells #[.string x.m.name, .slice x.mA x.mn x.mc, .slice x.hA x.hn x.hc, .int .i64 x.m.cover, .int .i64 x.m.aggr, .int .i64 x.m.poker, .slice x.bA x.bn x.bc, .slice x.rA x.rn x.rc, .slice x.jA x.jn x.jc, .slice x.dA x.dn x.dc, .int .i64 x.rule.num, .int .i64 x.rule.den, .int .i64 x.rule.pnum, .int .i64 x.rule.pden, .int .i64 x.rule.bnum, .int .i64 x.rule.bden, .int .i64 x.rule.lnum, .int .i64 x.rule.lden, .int .i64 x.rule.least] 34)) (n := w.heap.size + 1) (by simp) 89 zbxC
  have hW1 : Below w.heap.size w ((w.alloc (.cells #[.string x.m.name, .slice x.mA x.mn x.mc, .slice x.hA x.hn x.hc, .int .i64 x.m.cover, .int .i64 x.m.aggr, .int .i64 x.m.poker, .slice x.bA x.bn x.bc, .slice x.rA x.rn x.rc, .slice x.jA x.jn x.jc, .slice x.dA x.dn x.dc, .int .i64 x.rule.num, .int .i64 x.rule.den, .int .i64 x.rule.pnum, .int .i64 x.rule.pden, .int .i64 x.rule.bnum, .int .i64 x.rule.bden, .int .i64 x.rule.lnum, .int .i64 x.rule.lden, .int .i64 x.rule.least] 34)).alloc (.cells zbxC 89)) := ba_alloc (ba_alloc (Below.refl _ _) _) _
  go_enter Tryz.func39, Tryz.ntmps39
  go_upto_region 1 with fail
  generalize ((w.alloc (.cells #[.string x.m.name, .slice x.mA x.mn x.mc, .slice x.hA x.hn x.hc, .int .i64 x.m.cover, .int .i64 x.m.aggr, .int .i64 x.m.poker, .slice x.bA x.bn x.bc, .slice x.rA x.rn x.rc, .slice x.jA x.jn x.jc, .slice x.dA x.dn x.dc, .int .i64 x.rule.num, .int .i64 x.rule.den, .int .i64 x.rule.pnum, .int .i64 x.rule.pden, .int .i64 x.rule.bnum, .int .i64 x.rule.bden, .int .i64 x.rule.lnum, .int .i64 x.rule.lden, .int .i64 x.rule.least] 34)).alloc (.cells zbxC 89)) = W1 at *
  have HDB := Lib.hid hDB
  have HSB := Lib.hid hSB
  clear hDB hSB
  go_upto_region 2 with (first
    | ((with_reducible refine at_load 34 2 ?_); refine wpList_load_mid rfl 34 (.tmp 2) rfl _ _ rfl _ _ (HDB.out.via belr).range Tryz.underlying34 rfl (by kernel_rfl) ?_)
    | (go_at_call 87; (with_reducible refine (HLV.out _ belr).mono ?_); rintro e w1 ⟨rfl, hbw1⟩))
  have hw1 : Below w.heap.size w w1 := ba_via hbw1 hW1
  have hS1 := HSB.out.via hbw1
  have s0 := hS1.cell 0
  have s1 := hS1.cell 1
  have s2 := hS1.cell 2
  have s3 := hS1.cell 3
  have s4 := hS1.cell 4
  have s5 := hS1.cell 5
  have f0 := hS1.frozen 0
  have f1 := hS1.frozen 1
  have f2 := hS1.frozen 2
  have f3 := hS1.frozen 3
  have f4 := hS1.frozen 4
  have f5 := hS1.frozen 5
  have sl := hS1.lt
  simp only [List.getElem?_toArray, List.getElem?_cons_zero, List.getElem?_cons_succ] at s0 s1 s2 s3 s4 s5
  have hbF := ba_set6 (g := w.heap.size + 1) hw1 (Nat.le_succ _) (.int .i64 0) (.int .i64 0) (.int .i64 0) (.int .i64 0) (.int .i64 0) (.int .i64 0)
  go_wp2
  exact bodyPost_ret (v := .tuple #[.agg zbxC, .int .i64 1]) (by simp [results, Tryz.results39, go_sem, *]) rfl ⟨rfl, hbF⟩
set_option maxRecDepth 20000 in
set_option maxHeartbeats 1000000 in
theorem Leg_range (x : Dt) (n : Nat) (i : Int) (w : World) (hi : i < 0 ∨ (n : Int) ≤ i)
    (hLV : ∀ W, Below w.heap.size w W → Calls Tryz.prog 87 #[dtV x] W fun e w' => e = .returned (.bool true) ∧ Below W.heap.size W w')
    (hRD : ∀ W, Below w.heap.size w W → Calls Tryz.prog 92 #[dtV x] W (GivesRods x n W)) :
    Calls Tryz.prog 39 #[dtV x, .int .i64 i] w fun e w' => e = .returned (.tuple #[boxV S.zbox, .int .i64 2]) ∧ Below w.heap.size w w' := by
  have HLV := Lib.hid hLV
  have HRD := Lib.hid hRD
  clear hLV hRD
  unfold dtV at HLV HRD
  unfold dtV
  have hDB := (Blk.new w 34 #[.string x.m.name, .slice x.mA x.mn x.mc, .slice x.hA x.hn x.hc, .int .i64 x.m.cover, .int .i64 x.m.aggr, .int .i64 x.m.poker, .slice x.bA x.bn x.bc, .slice x.rA x.rn x.rc, .slice x.jA x.jn x.jc, .slice x.dA x.dn x.dc, .int .i64 x.rule.num, .int .i64 x.rule.den, .int .i64 x.rule.pnum, .int .i64 x.rule.pden, .int .i64 x.rule.bnum, .int .i64 x.rule.bden, .int .i64 x.rule.lnum, .int .i64 x.rule.lden, .int .i64 x.rule.least]).alloc (.cells zbxC 89)
  have hSB := Blk.newN (W := w.alloc (.cells #[.string x.m.name, .slice x.mA x.mn x.mc, .slice x.hA x.hn x.hc, .int .i64 x.m.cover, .int .i64 x.m.aggr, .int .i64 x.m.poker, .slice x.bA x.bn x.bc, .slice x.rA x.rn x.rc, .slice x.jA x.jn x.jc, .slice x.dA x.dn x.dc, .int .i64 x.rule.num, .int .i64 x.rule.den, .int .i64 x.rule.pnum, .int .i64 x.rule.pden, .int .i64 x.rule.bnum, .int .i64 x.rule.bden, .int .i64 x.rule.lnum, .int .i64 x.rule.lden, .int .i64 x.rule.least] 34)) (n := w.heap.size + 1) (by simp) 89 zbxC
  have hW1 : Below w.heap.size w ((w.alloc (.cells #[.string x.m.name, .slice x.mA x.mn x.mc, .slice x.hA x.hn x.hc, .int .i64 x.m.cover, .int .i64 x.m.aggr, .int .i64 x.m.poker, .slice x.bA x.bn x.bc, .slice x.rA x.rn x.rc, .slice x.jA x.jn x.jc, .slice x.dA x.dn x.dc, .int .i64 x.rule.num, .int .i64 x.rule.den, .int .i64 x.rule.pnum, .int .i64 x.rule.pden, .int .i64 x.rule.bnum, .int .i64 x.rule.bden, .int .i64 x.rule.lnum, .int .i64 x.rule.lden, .int .i64 x.rule.least] 34)).alloc (.cells zbxC 89)) := ba_alloc (ba_alloc (Below.refl _ _) _) _
  go_enter Tryz.func39, Tryz.ntmps39
  go_upto_region 1 with fail
  generalize ((w.alloc (.cells #[.string x.m.name, .slice x.mA x.mn x.mc, .slice x.hA x.hn x.hc, .int .i64 x.m.cover, .int .i64 x.m.aggr, .int .i64 x.m.poker, .slice x.bA x.bn x.bc, .slice x.rA x.rn x.rc, .slice x.jA x.jn x.jc, .slice x.dA x.dn x.dc, .int .i64 x.rule.num, .int .i64 x.rule.den, .int .i64 x.rule.pnum, .int .i64 x.rule.pden, .int .i64 x.rule.bnum, .int .i64 x.rule.bden, .int .i64 x.rule.lnum, .int .i64 x.rule.lden, .int .i64 x.rule.least] 34)).alloc (.cells zbxC 89)) = W1 at *
  have HDB := Lib.hid hDB
  have HSB := Lib.hid hSB
  clear hDB hSB
  go_upto_region 4 with (first
    | ((with_reducible refine at_load 34 2 ?_); refine wpList_load_mid rfl 34 (.tmp 2) rfl _ _ rfl _ _ (HDB.out.via belr).range Tryz.underlying34 rfl (by kernel_rfl) ?_)
    | (go_at_call 87; (with_reducible refine (HLV.out _ belr).mono ?_); rintro e w1 ⟨rfl, hbw1⟩)
    | (go_at_call 92; (with_reducible refine (HRD.out _ belr).mono ?_); rintro e w2 ⟨A1, c1, rs, rfl, hrl, hok, hRA, hbw2⟩; clear hok hRA))
  have hw2 : Below w.heap.size w w2 := ba_via hbw2 (ba_via hbw1 hW1)
  have hb12 : Below W1.heap.size W1 w2 := ba_via hbw2 hbw1
  have hS2 := HSB.out.via hb12
  have s0 := hS2.cell 0
  have s1 := hS2.cell 1
  have s2 := hS2.cell 2
  have s3 := hS2.cell 3
  have s4 := hS2.cell 4
  have s5 := hS2.cell 5
  have f0 := hS2.frozen 0
  have f1 := hS2.frozen 1
  have f2 := hS2.frozen 2
  have f3 := hS2.frozen 3
  have f4 := hS2.frozen 4
  have f5 := hS2.frozen 5
  have sl := hS2.lt
  simp only [List.getElem?_toArray, List.getElem?_cons_zero, List.getElem?_cons_succ] at s0 s1 s2 s3 s4 s5
  have hbF := ba_set6 (g := w.heap.size + 1) hw2 (Nat.le_succ _) (.int .i64 0) (.int .i64 0) (.int .i64 0) (.int .i64 0) (.int .i64 0) (.int .i64 0)
  clear hrl HRD HLV HDB HSB hbw1 hbw2 hb12
  by_cases h1 : i < 0
  · go_wp2
    exact bodyPost_ret (v := .tuple #[.agg zbxC, .int .i64 2]) (by simp [results, Tryz.results39, go_sem, *]) rfl ⟨rfl, hbF⟩
  · have h2 : (n : Int) ≤ i := by omega
    clear hi
    go_wp2
    exact bodyPost_ret (v := .tuple #[.agg zbxC, .int .i64 2]) (by simp [results, Tryz.results39, go_sem, *]) rfl ⟨rfl, hbF⟩
set_option maxRecDepth 20000 in
set_option maxHeartbeats 1000000 in
theorem Anch_err (x : Dt) (k : Int) (w : World)
    (hCH : ∀ W, Below w.heap.size w W → Calls Tryz.prog 93 #[dtV x] W fun e w' => e = .returned (.tuple #[.slice none 0 0, .slice none 0 0, .int .i64 1]) ∧ Below W.heap.size W w') :
    Calls Tryz.prog 40 #[dtV x, .int .i64 k] w fun e w' => e = .returned (.tuple #[.agg #[.int .i64 0, .int .i64 0], .int .i64 1]) ∧ Below w.heap.size w w' := by
  have HCH := Lib.hid hCH
  clear hCH
  unfold dtV at HCH
  unfold dtV
  have hDB := (Blk.new w 34 #[.string x.m.name, .slice x.mA x.mn x.mc, .slice x.hA x.hn x.hc, .int .i64 x.m.cover, .int .i64 x.m.aggr, .int .i64 x.m.poker, .slice x.bA x.bn x.bc, .slice x.rA x.rn x.rc, .slice x.jA x.jn x.jc, .slice x.dA x.dn x.dc, .int .i64 x.rule.num, .int .i64 x.rule.den, .int .i64 x.rule.pnum, .int .i64 x.rule.pden, .int .i64 x.rule.bnum, .int .i64 x.rule.bden, .int .i64 x.rule.lnum, .int .i64 x.rule.lden, .int .i64 x.rule.least]).alloc (.cells #[.int .i64 0, .int .i64 0] 45)
  have hSB := Blk.newN (W := w.alloc (.cells #[.string x.m.name, .slice x.mA x.mn x.mc, .slice x.hA x.hn x.hc, .int .i64 x.m.cover, .int .i64 x.m.aggr, .int .i64 x.m.poker, .slice x.bA x.bn x.bc, .slice x.rA x.rn x.rc, .slice x.jA x.jn x.jc, .slice x.dA x.dn x.dc, .int .i64 x.rule.num, .int .i64 x.rule.den, .int .i64 x.rule.pnum, .int .i64 x.rule.pden, .int .i64 x.rule.bnum, .int .i64 x.rule.bden, .int .i64 x.rule.lnum, .int .i64 x.rule.lden, .int .i64 x.rule.least] 34)) (n := w.heap.size + 1) (by simp) 45 #[.int .i64 0, .int .i64 0]
  have hW1 : Below w.heap.size w ((w.alloc (.cells #[.string x.m.name, .slice x.mA x.mn x.mc, .slice x.hA x.hn x.hc, .int .i64 x.m.cover, .int .i64 x.m.aggr, .int .i64 x.m.poker, .slice x.bA x.bn x.bc, .slice x.rA x.rn x.rc, .slice x.jA x.jn x.jc, .slice x.dA x.dn x.dc, .int .i64 x.rule.num, .int .i64 x.rule.den, .int .i64 x.rule.pnum, .int .i64 x.rule.pden, .int .i64 x.rule.bnum, .int .i64 x.rule.bden, .int .i64 x.rule.lnum, .int .i64 x.rule.lden, .int .i64 x.rule.least] 34)).alloc (.cells #[.int .i64 0, .int .i64 0] 45)) := ba_alloc (ba_alloc (Below.refl _ _) _) _
  go_enter Tryz.func40, Tryz.ntmps40
  go_upto_region 1 with fail
  generalize ((w.alloc (.cells #[.string x.m.name, .slice x.mA x.mn x.mc, .slice x.hA x.hn x.hc, .int .i64 x.m.cover, .int .i64 x.m.aggr, .int .i64 x.m.poker, .slice x.bA x.bn x.bc, .slice x.rA x.rn x.rc, .slice x.jA x.jn x.jc, .slice x.dA x.dn x.dc, .int .i64 x.rule.num, .int .i64 x.rule.den, .int .i64 x.rule.pnum, .int .i64 x.rule.pden, .int .i64 x.rule.bnum, .int .i64 x.rule.bden, .int .i64 x.rule.lnum, .int .i64 x.rule.lden, .int .i64 x.rule.least] 34)).alloc (.cells #[.int .i64 0, .int .i64 0] 45)) = W1 at *
  have HDB := Lib.hid hDB
  clear hDB
  go_upto_region 2 with (first
    | ((with_reducible refine at_load 34 2 ?_); refine wpList_load_mid rfl 34 (.tmp 2) rfl _ _ rfl _ _ (HDB.out.via belr).range Tryz.underlying34 rfl (by kernel_rfl) ?_)
    | (go_at_call 93; (with_reducible refine (HCH.out _ belr).mono ?_); rintro e w2 ⟨rfl, hbw2⟩))
  have hS2 := hSB.via hbw2
  have s0 := hS2.cell 0
  have s1 := hS2.cell 1
  have sf0 := hS2.frozen 0
  have sf1 := hS2.frozen 1
  have sl := hS2.lt
  simp only [List.getElem?_toArray, List.getElem?_cons_zero, List.getElem?_cons_succ] at s0 s1
  have hw2 : Below w.heap.size w w2 := ba_via hbw2 hW1
  have hbF := ba_set2 (g := w.heap.size + 1) hw2 (Nat.le_succ _) (.int .i64 0) (.int .i64 0)
  clear hSB
  go_wp2
  exact bodyPost_ret (v := .tuple #[.agg #[.int .i64 0, .int .i64 0], .int .i64 1]) (by simp [results, Tryz.results40, go_sem, *]) rfl ⟨rfl, hbF⟩
set_option maxRecDepth 20000 in
set_option maxHeartbeats 1000000 in
theorem Anch_range (x : Dt) (C : List (List Int)) (n : Nat) (k : Int) (w : World) (hk : k < 0 ∨ (C.length : Int) ≤ k)
    (hCH : ∀ W, Below w.heap.size w W → Calls Tryz.prog 93 #[dtV x] W (GivesSup x C n W)) :
    Calls Tryz.prog 40 #[dtV x, .int .i64 k] w fun e w' => e = .returned (.tuple #[.agg #[.int .i64 0, .int .i64 0], .int .i64 2]) ∧ Below w.heap.size w w' := by
  have HCH := Lib.hid hCH
  clear hCH
  unfold dtV at HCH
  unfold dtV
  have hDB := (Blk.new w 34 #[.string x.m.name, .slice x.mA x.mn x.mc, .slice x.hA x.hn x.hc, .int .i64 x.m.cover, .int .i64 x.m.aggr, .int .i64 x.m.poker, .slice x.bA x.bn x.bc, .slice x.rA x.rn x.rc, .slice x.jA x.jn x.jc, .slice x.dA x.dn x.dc, .int .i64 x.rule.num, .int .i64 x.rule.den, .int .i64 x.rule.pnum, .int .i64 x.rule.pden, .int .i64 x.rule.bnum, .int .i64 x.rule.bden, .int .i64 x.rule.lnum, .int .i64 x.rule.lden, .int .i64 x.rule.least]).alloc (.cells #[.int .i64 0, .int .i64 0] 45)
  have hSB := Blk.newN (W := w.alloc (.cells #[.string x.m.name, .slice x.mA x.mn x.mc, .slice x.hA x.hn x.hc, .int .i64 x.m.cover, .int .i64 x.m.aggr, .int .i64 x.m.poker, .slice x.bA x.bn x.bc, .slice x.rA x.rn x.rc, .slice x.jA x.jn x.jc, .slice x.dA x.dn x.dc, .int .i64 x.rule.num, .int .i64 x.rule.den, .int .i64 x.rule.pnum, .int .i64 x.rule.pden, .int .i64 x.rule.bnum, .int .i64 x.rule.bden, .int .i64 x.rule.lnum, .int .i64 x.rule.lden, .int .i64 x.rule.least] 34)) (n := w.heap.size + 1) (by simp) 45 #[.int .i64 0, .int .i64 0]
  have hW1 : Below w.heap.size w ((w.alloc (.cells #[.string x.m.name, .slice x.mA x.mn x.mc, .slice x.hA x.hn x.hc, .int .i64 x.m.cover, .int .i64 x.m.aggr, .int .i64 x.m.poker, .slice x.bA x.bn x.bc, .slice x.rA x.rn x.rc, .slice x.jA x.jn x.jc, .slice x.dA x.dn x.dc, .int .i64 x.rule.num, .int .i64 x.rule.den, .int .i64 x.rule.pnum, .int .i64 x.rule.pden, .int .i64 x.rule.bnum, .int .i64 x.rule.bden, .int .i64 x.rule.lnum, .int .i64 x.rule.lden, .int .i64 x.rule.least] 34)).alloc (.cells #[.int .i64 0, .int .i64 0] 45)) := ba_alloc (ba_alloc (Below.refl _ _) _) _
  go_enter Tryz.func40, Tryz.ntmps40
  go_upto_region 1 with fail
  generalize ((w.alloc (.cells #[.string x.m.name, .slice x.mA x.mn x.mc, .slice x.hA x.hn x.hc, .int .i64 x.m.cover, .int .i64 x.m.aggr, .int .i64 x.m.poker, .slice x.bA x.bn x.bc, .slice x.rA x.rn x.rc, .slice x.jA x.jn x.jc, .slice x.dA x.dn x.dc, .int .i64 x.rule.num, .int .i64 x.rule.den, .int .i64 x.rule.pnum, .int .i64 x.rule.pden, .int .i64 x.rule.bnum, .int .i64 x.rule.bden, .int .i64 x.rule.lnum, .int .i64 x.rule.lden, .int .i64 x.rule.least] 34)).alloc (.cells #[.int .i64 0, .int .i64 0] 45)) = W1 at *
  have HDB := Lib.hid hDB
  clear hDB
  go_upto_region 2 with (first
    | ((with_reducible refine at_load 34 2 ?_); refine wpList_load_mid rfl 34 (.tmp 2) rfl _ _ rfl _ _ (HDB.out.via belr).range Tryz.underlying34 rfl (by kernel_rfl) ?_)
    | (go_at_call 93; (with_reducible refine (HCH.out _ belr).mono ?_); rintro e w2 ⟨A1, c1, rs, A2, c2, cs, rfl, hrl, hok, hRA, hOW, hcl, hsch, hcc, hbw2⟩; clear hrl hok hRA hOW hsch hcc))
  have hS2 := hSB.via hbw2
  have s0 := hS2.cell 0
  have s1 := hS2.cell 1
  have sf0 := hS2.frozen 0
  have sf1 := hS2.frozen 1
  have sl := hS2.lt
  simp only [List.getElem?_toArray, List.getElem?_cons_zero, List.getElem?_cons_succ] at s0 s1
  have hw2 : Below w.heap.size w w2 := ba_via hbw2 hW1
  have hbF := ba_set2 (g := w.heap.size + 1) hw2 (Nat.le_succ _) (.int .i64 0) (.int .i64 0)
  clear hSB hcl HCH
  by_cases h1 : k < 0
  · go_wp2
    exact bodyPost_ret (v := .tuple #[.agg #[.int .i64 0, .int .i64 0], .int .i64 2]) (by simp [results, Tryz.results40, go_sem, *]) rfl ⟨rfl, hbF⟩
  · have h2 : (C.length : Int) ≤ k := by omega
    clear hk
    go_wp2
    exact bodyPost_ret (v := .tuple #[.agg #[.int .i64 0, .int .i64 0], .int .i64 2]) (by simp [results, Tryz.results40, go_sem, *]) rfl ⟨rfl, hbF⟩
theorem Area_err (x : Dt) (k : Int) (w : World)
    (hCH : ∀ W, Below w.heap.size w W → Calls Tryz.prog 93 #[dtV x] W fun e w' => e = .returned (.tuple #[.slice none 0 0, .slice none 0 0, .int .i64 1]) ∧ Below W.heap.size W w') :
    Calls Tryz.prog 41 #[dtV x, .int .i64 k] w fun e w' => e = .returned (.tuple #[.int .i64 0, .int .i64 1]) ∧ Below w.heap.size w w' := by
  have HCH := Lib.hid hCH
  clear hCH
  unfold dtV at HCH
  unfold dtV
  have hDB := Blk.new w 34 #[.string x.m.name, .slice x.mA x.mn x.mc, .slice x.hA x.hn x.hc, .int .i64 x.m.cover, .int .i64 x.m.aggr, .int .i64 x.m.poker, .slice x.bA x.bn x.bc, .slice x.rA x.rn x.rc, .slice x.jA x.jn x.jc, .slice x.dA x.dn x.dc, .int .i64 x.rule.num, .int .i64 x.rule.den, .int .i64 x.rule.pnum, .int .i64 x.rule.pden, .int .i64 x.rule.bnum, .int .i64 x.rule.bden, .int .i64 x.rule.lnum, .int .i64 x.rule.lden, .int .i64 x.rule.least]
  have hW1 : Below w.heap.size w (w.alloc (.cells #[.string x.m.name, .slice x.mA x.mn x.mc, .slice x.hA x.hn x.hc, .int .i64 x.m.cover, .int .i64 x.m.aggr, .int .i64 x.m.poker, .slice x.bA x.bn x.bc, .slice x.rA x.rn x.rc, .slice x.jA x.jn x.jc, .slice x.dA x.dn x.dc, .int .i64 x.rule.num, .int .i64 x.rule.den, .int .i64 x.rule.pnum, .int .i64 x.rule.pden, .int .i64 x.rule.bnum, .int .i64 x.rule.bden, .int .i64 x.rule.lnum, .int .i64 x.rule.lden, .int .i64 x.rule.least] 34)) := ba_alloc (Below.refl _ _) _
  go_enter Tryz.func41, Tryz.ntmps41
  go_upto_region 1 with fail
  generalize (w.alloc (.cells #[.string x.m.name, .slice x.mA x.mn x.mc, .slice x.hA x.hn x.hc, .int .i64 x.m.cover, .int .i64 x.m.aggr, .int .i64 x.m.poker, .slice x.bA x.bn x.bc, .slice x.rA x.rn x.rc, .slice x.jA x.jn x.jc, .slice x.dA x.dn x.dc, .int .i64 x.rule.num, .int .i64 x.rule.den, .int .i64 x.rule.pnum, .int .i64 x.rule.pden, .int .i64 x.rule.bnum, .int .i64 x.rule.bden, .int .i64 x.rule.lnum, .int .i64 x.rule.lden, .int .i64 x.rule.least] 34)) = W1 at *
  have HDB := Lib.hid hDB
  clear hDB
  go_wp2_with (first
    | ((with_reducible refine at_load 34 2 ?_); refine wpList_load_mid rfl 34 (.tmp 2) rfl _ _ rfl _ _ (HDB.out.via belr).range Tryz.underlying34 rfl (by kernel_rfl) ?_)
    | (go_at_call 93; (with_reducible refine (HCH.out _ belr).mono ?_); rintro e w2 ⟨rfl, hbw2⟩))
  go_ret2
  exact ⟨rfl, bel⟩
set_option maxRecDepth 20000 in
theorem Area_range (x : Dt) (C : List (List Int)) (n : Nat) (k : Int) (w : World) (hk : k < 0 ∨ (C.length : Int) ≤ k)
    (hCH : ∀ W, Below w.heap.size w W → Calls Tryz.prog 93 #[dtV x] W (GivesSup x C n W)) :
    Calls Tryz.prog 41 #[dtV x, .int .i64 k] w fun e w' => e = .returned (.tuple #[.int .i64 0, .int .i64 2]) ∧ Below w.heap.size w w' := by
  have HCH := Lib.hid hCH
  clear hCH
  unfold dtV at HCH
  unfold dtV
  have hDB := Blk.new w 34 #[.string x.m.name, .slice x.mA x.mn x.mc, .slice x.hA x.hn x.hc, .int .i64 x.m.cover, .int .i64 x.m.aggr, .int .i64 x.m.poker, .slice x.bA x.bn x.bc, .slice x.rA x.rn x.rc, .slice x.jA x.jn x.jc, .slice x.dA x.dn x.dc, .int .i64 x.rule.num, .int .i64 x.rule.den, .int .i64 x.rule.pnum, .int .i64 x.rule.pden, .int .i64 x.rule.bnum, .int .i64 x.rule.bden, .int .i64 x.rule.lnum, .int .i64 x.rule.lden, .int .i64 x.rule.least]
  have hW1 : Below w.heap.size w (w.alloc (.cells #[.string x.m.name, .slice x.mA x.mn x.mc, .slice x.hA x.hn x.hc, .int .i64 x.m.cover, .int .i64 x.m.aggr, .int .i64 x.m.poker, .slice x.bA x.bn x.bc, .slice x.rA x.rn x.rc, .slice x.jA x.jn x.jc, .slice x.dA x.dn x.dc, .int .i64 x.rule.num, .int .i64 x.rule.den, .int .i64 x.rule.pnum, .int .i64 x.rule.pden, .int .i64 x.rule.bnum, .int .i64 x.rule.bden, .int .i64 x.rule.lnum, .int .i64 x.rule.lden, .int .i64 x.rule.least] 34)) := ba_alloc (Below.refl _ _) _
  go_enter Tryz.func41, Tryz.ntmps41
  go_upto_region 1 with fail
  generalize (w.alloc (.cells #[.string x.m.name, .slice x.mA x.mn x.mc, .slice x.hA x.hn x.hc, .int .i64 x.m.cover, .int .i64 x.m.aggr, .int .i64 x.m.poker, .slice x.bA x.bn x.bc, .slice x.rA x.rn x.rc, .slice x.jA x.jn x.jc, .slice x.dA x.dn x.dc, .int .i64 x.rule.num, .int .i64 x.rule.den, .int .i64 x.rule.pnum, .int .i64 x.rule.pden, .int .i64 x.rule.bnum, .int .i64 x.rule.bden, .int .i64 x.rule.lnum, .int .i64 x.rule.lden, .int .i64 x.rule.least] 34)) = W1 at *
  have HDB := Lib.hid hDB
  clear hDB
  go_upto_region 2 with (first
    | ((with_reducible refine at_load 34 2 ?_); refine wpList_load_mid rfl 34 (.tmp 2) rfl _ _ rfl _ _ (HDB.out.via belr).range Tryz.underlying34 rfl (by kernel_rfl) ?_)
    | (go_at_call 93; (with_reducible refine (HCH.out _ belr).mono ?_); rintro e w2 ⟨A1, c1, rs, A2, c2, cs, rfl, hrl, hok, hRA, hOW, hcl, hsch, hcc, hbw2⟩; clear hrl hok hRA hOW hsch hcc))
  clear hcl HCH
  by_cases h1 : k < 0
  · go_wp2
    go_ret2
    exact ⟨rfl, bel⟩
  · have h2 : (C.length : Int) ≤ k := by omega
    clear hk
    go_wp2
    go_ret2
    exact ⟨rfl, bel⟩
section
variable {x : Dt} {ds : List Dm} {w : World}
theorem good_lv (h : DtOk w x ds) : ∀ W, Below w.heap.size w W → Calls Tryz.prog 87 #[dtV x] W fun e w' => e = .returned (.bool (S.look x (S.dems ds))) ∧ Below W.heap.size W w' := fun W hw => by
  cases hlk : S.look x (S.dems ds)
  · exact lvalid_any x false w.heap.size _ _ W hw.size (fun U hU => bad_look h hlk U (hw.trans (hU.mono hw.size)))
  · exact lvalid_any x true w.heap.size _ _ W hw.size (fun U hU => good_look h hlk U (hw.trans (hU.mono hw.size)))
theorem good_rods (h : DtOk w x ds) (hlk : S.look x (S.dems ds) = true) : ∀ W, Below w.heap.size w W → Calls Tryz.prog 92 #[dtV x] W (GivesRods x (S.nOf x) W) := fun W hw => by
  have g := look_ok hlk
  exact rods_any x w.heap.size W hw.size (h.at_.at_ (Nat.le_refl _) hw) g.laid g.n2000
theorem bad_Leg (h : DtOk w x ds) (i : Int) (hg : S.look x (S.dems ds) = false ∨ i < 0 ∨ (S.nOf x : Int) ≤ i) : ∀ W, Below w.heap.size w W → Calls Tryz.prog 39 #[dtV x, .int .i64 i] W fun e w' => e = .returned (.tuple #[boxV S.zbox, .int .i64 (if S.look x (S.dems ds) = false then 1 else 2)]) ∧ Below W.heap.size W w' := fun W hw => by
  cases hlk : S.look x (S.dems ds)
  · rw [if_pos rfl]
    exact Leg_inv x i W (fun V hV => hlk ▸ good_lv h V (hw.trans (hV.mono hw.size)))
  · rw [if_neg (by simp)]
    have hi : i < 0 ∨ (S.nOf x : Int) ≤ i := by
      rcases hg with h | h
      · rw [hlk] at h; cases h
      · exact h
    exact Leg_range x (S.nOf x) i W hi (fun V hV => hlk ▸ good_lv h V (hw.trans (hV.mono hw.size))) (fun V hV => good_rods h hlk V (hw.trans (hV.mono hw.size)))
theorem good_Anch (h : DtOk w x ds) (hlk : S.look x (S.dems ds) = true) {k : Nat} (hk : k < (S.cOf x).length) {rs : List Rod} (hrs : RodsOf x (S.nOf x) rs) :
    ∀ W, Below w.heap.size w W → Calls Tryz.prog 40 #[dtV x, .int .i64 k] W fun e w' => e = .returned (.tuple #[.agg #[.int .i64 (S.spanL x rs (S.cOf x)[k]).1, .int .i64 (S.spanL x rs (S.cOf x)[k]).2.1], .int .i64 (if (S.spanL x rs (S.cOf x)[k]).2.2 then 0 else 12)]) ∧ Below W.heap.size W w' := fun W hw => by
  have g := look_ok hlk
  refine (Anch_any x (S.cOf x) (S.nOf x) k W g.c2000 hk (fun V hV => good_chains h hlk V (hw.trans (hV.mono hw.size)))).mono ?_
  rintro e w' ⟨rs', c, rfl, h1, h2, h3, h4⟩
  refine ⟨?_, h4⟩
  have hb := sch_bare ⟨h1, h2⟩ hrs h3
  have e1 : c.lo = (S.spanL x rs (S.cOf x)[k]).1 := congrArg SCh.lo hb
  have e2 : c.hi = (S.spanL x rs (S.cOf x)[k]).2.1 := congrArg SCh.hi hb
  have e3 : c.is = (S.spanL x rs (S.cOf x)[k]).2.2 := congrArg SCh.is hb
  have hz : c.is = false → c.lo = 0 ∧ c.hi = 0 := fun hf => by
    obtain ⟨a, b, h5, h6, h7⟩ := h3.span
    rw [hf] at h7
    unfold S.spanOf at h7
    split at h7
    · simp only [Prod.mk.injEq] at h7; exact ⟨h7.1, h7.2.1⟩
    · split at h7
      · simp only [Prod.mk.injEq] at h7; exact ⟨h7.1, h7.2.1⟩
      · split at h7
        · simp only [Prod.mk.injEq] at h7; exact absurd h7.2.2 (by simp)
        · simp only [Prod.mk.injEq] at h7; exact ⟨h7.1, h7.2.1⟩
  rw [← e1, ← e2, ← e3]
  cases hi : c.is
  · obtain ⟨z1, z2⟩ := hz hi
    rw [z1, z2]
    rfl
  · rfl
theorem good_Area (h : DtOk w x ds) (hlk : S.look x (S.dems ds) = true) {k : Nat} (hk : k < (S.cOf x).length) {rs : List Rod} (hrs : RodsOf x (S.nOf x) rs) :
    ∀ W, Below w.heap.size w W → Calls Tryz.prog 41 #[dtV x, .int .i64 k] W fun e w' => e = .returned (.tuple #[.int .i64 (S.schOf x rs (S.cOf x)[k]).area, .int .i64 0]) ∧ Below W.heap.size W w' := fun W hw => by
  have g := look_ok hlk
  refine (Area_any x (S.cOf x) (S.nOf x) k W g.c2000 hk (fun V hV => good_chains h hlk V (hw.trans (hV.mono hw.size)))).mono ?_
  rintro e w' ⟨rs', c, rfl, h1, h2, h3, h4⟩
  refine ⟨?_, h4⟩
  have hb := sch_bare ⟨h1, h2⟩ hrs h3
  have e1 : c.bare.area = (S.schOf x rs (S.cOf x)[k]).area := congrArg SCh.area hb
  change c.area = _ at e1
  rw [e1]
theorem bad_Anch (h : DtOk w x ds) (k : Int) (hg : S.look x (S.dems ds) = false ∨ k < 0 ∨ ((S.cOf x).length : Int) ≤ k) : ∀ W, Below w.heap.size w W → Calls Tryz.prog 40 #[dtV x, .int .i64 k] W fun e w' => e = .returned (.tuple #[.agg #[.int .i64 0, .int .i64 0], .int .i64 (if S.look x (S.dems ds) = false then 1 else 2)]) ∧ Below W.heap.size W w' := fun W hw => by
  cases hlk : S.look x (S.dems ds)
  · rw [if_pos rfl]
    exact Anch_err x k W (fun V hV => bad_chains h hlk V (hw.trans (hV.mono hw.size)))
  · rw [if_neg (by simp)]
    have hi : k < 0 ∨ ((S.cOf x).length : Int) ≤ k := by
      rcases hg with h | h
      · rw [hlk] at h; cases h
      · exact h
    exact Anch_range x (S.cOf x) (S.nOf x) k W hi (fun V hV => good_chains h hlk V (hw.trans (hV.mono hw.size)))
theorem bad_Area (h : DtOk w x ds) (k : Int) (hg : S.look x (S.dems ds) = false ∨ k < 0 ∨ ((S.cOf x).length : Int) ≤ k) : ∀ W, Below w.heap.size w W → Calls Tryz.prog 41 #[dtV x, .int .i64 k] W fun e w' => e = .returned (.tuple #[.int .i64 0, .int .i64 (if S.look x (S.dems ds) = false then 1 else 2)]) ∧ Below W.heap.size W w' := fun W hw => by
  cases hlk : S.look x (S.dems ds)
  · rw [if_pos rfl]
    exact Area_err x k W (fun V hV => bad_chains h hlk V (hw.trans (hV.mono hw.size)))
  · rw [if_neg (by simp)]
    have hi : k < 0 ∨ ((S.cOf x).length : Int) ≤ k := by
      rcases hg with h | h
      · rw [hlk] at h; cases h
      · exact h
    exact Area_range x (S.cOf x) (S.nOf x) k W hi (fun V hV => good_chains h hlk V (hw.trans (hV.mono hw.size)))
end
theorem legs_set2 {w0 w : World} {b : Nat} {T : TypeId} {z0 z1 : Value} (h0 : Below w0.heap.size w0 w) (hl : w0.heap.size ≤ b) (hb : Blk w b T #[z0, z1]) (v0 v1 : Value) :
    ∃ W, ((w.setCell ⟨b, 0, none⟩ v0).setCell ⟨b, 1, none⟩ v1) = W ∧ Below w0.heap.size w0 W ∧ Blk W b T #[v0, v1] := by
  refine ⟨_, rfl, ba_set (ba_set h0 hl _) hl _, ?_⟩
  have := (hb.set 0 v0).set 1 v1
  simpa only [List.setIfInBounds_toArray, List.set_cons_zero, List.set_cons_succ] using this
set_option maxRecDepth 20000 in
set_option maxHeartbeats 4000000 in
theorem legsLaw_big (x : Dt) (d p : Int) (w : World)
    (hSM : ∀ W, Below w.heap.size w W → Calls Tryz.prog 29 #[dtV x] W fun e w' => e = .returned (.bool false) ∧ Below W.heap.size W w') :
    Calls Tryz.prog 8 #[dtV x, .int .i64 d, .int .i64 p] w fun e w' => e = .returned (.bool true) ∧ Below w.heap.size w w' := by
  have HA := Lib.hid (fun w => awake26_any w)
  have HSM := Lib.hid hSM
  clear hSM
  unfold dtV at HSM
  unfold dtV
  have hDB := Blk.new w 34 #[.string x.m.name, .slice x.mA x.mn x.mc, .slice x.hA x.hn x.hc, .int .i64 x.m.cover, .int .i64 x.m.aggr, .int .i64 x.m.poker, .slice x.bA x.bn x.bc, .slice x.rA x.rn x.rc, .slice x.jA x.jn x.jc, .slice x.dA x.dn x.dc, .int .i64 x.rule.num, .int .i64 x.rule.den, .int .i64 x.rule.pnum, .int .i64 x.rule.pden, .int .i64 x.rule.bnum, .int .i64 x.rule.bden, .int .i64 x.rule.lnum, .int .i64 x.rule.lden, .int .i64 x.rule.least]
  have hW1 : Below w.heap.size w (w.alloc (.cells #[.string x.m.name, .slice x.mA x.mn x.mc, .slice x.hA x.hn x.hc, .int .i64 x.m.cover, .int .i64 x.m.aggr, .int .i64 x.m.poker, .slice x.bA x.bn x.bc, .slice x.rA x.rn x.rc, .slice x.jA x.jn x.jc, .slice x.dA x.dn x.dc, .int .i64 x.rule.num, .int .i64 x.rule.den, .int .i64 x.rule.pnum, .int .i64 x.rule.pden, .int .i64 x.rule.bnum, .int .i64 x.rule.bden, .int .i64 x.rule.lnum, .int .i64 x.rule.lden, .int .i64 x.rule.least] 34)) := ba_alloc (Below.refl _ _) _
  go_enter Tryz.func8, Tryz.ntmps8
  go_upto_region 1 with fail
  generalize (w.alloc (.cells #[.string x.m.name, .slice x.mA x.mn x.mc, .slice x.hA x.hn x.hc, .int .i64 x.m.cover, .int .i64 x.m.aggr, .int .i64 x.m.poker, .slice x.bA x.bn x.bc, .slice x.rA x.rn x.rc, .slice x.jA x.jn x.jc, .slice x.dA x.dn x.dc, .int .i64 x.rule.num, .int .i64 x.rule.den, .int .i64 x.rule.pnum, .int .i64 x.rule.pden, .int .i64 x.rule.bnum, .int .i64 x.rule.bden, .int .i64 x.rule.lnum, .int .i64 x.rule.lden, .int .i64 x.rule.least] 34)) = W1 at *
  have HDB := Lib.hid hDB
  clear hDB
  go_wp2_with (first
    | (go_at_call 28; (with_reducible refine (HA.out _).mono ?_); rintro e wa ⟨rfl, hbwa⟩)
    | ((with_reducible refine at_load 34 3 ?_); refine wpList_load_mid rfl 34 (.tmp 3) rfl _ _ rfl _ _ (HDB.out.via belr).range Tryz.underlying34 rfl (by kernel_rfl) ?_)
    | (go_at_call 29; (with_reducible refine (HSM.out _ belr).mono ?_); rintro e wb ⟨rfl, hbwb⟩))
  go_ret
  exact ⟨rfl, bel⟩
def LegSays (x : Dt) (i : Int) (N : Nat) (G : Bx) (er : Int) (w : World) : Prop :=
  (decide (i < 0) = true ∧ G = S.zbox ∧ er = 2) ∨ (decide (i < 0) = false ∧ decide ((N : Int) ≤ i) = true ∧ G = S.zbox ∧ er = 2) ∨
  (decide (i < 0) = false ∧ decide ((N : Int) ≤ i) = false ∧ er = 0 ∧ ∀ W, Below w.heap.size w W → Calls Tryz.prog 43 #[dtV x, .int .i64 i] W fun e w' => e = .returned (.tuple #[boxV G, .bool true]) ∧ Below W.heap.size W w') ∨
  (decide (i < 0) = false ∧ decide ((N : Int) ≤ i) = false ∧ er = 12 ∧ ∀ W, Below w.heap.size w W → Calls Tryz.prog 43 #[dtV x, .int .i64 i] W fun e w' => e = .returned (.tuple #[boxV G, .bool false]) ∧ Below W.heap.size W w')
def AncSays (x : Dt) (k : Int) (C : List (List Int)) (s0 s1 f n g : Int) (w : World) : Prop :=
  ((k < 0 ∨ (C.length : Int) ≤ k) ∧ s0 = 0 ∧ s1 = 0 ∧ f = 2 ∧ n = 0 ∧ g = 2) ∨
  (∃ (m : Nat) (t : Bool) (l : List Int), k = (m : Int) ∧ C[m]? = some l ∧ f = (if t then 0 else 12) ∧ g = 0 ∧
    (∀ (A : Option Addr) (c : Nat) (W : World), Below w.heap.size w W → Cells W W.heap.size A (i64s l) → Calls Tryz.prog 44 #[dtV x, .slice A l.length c] W fun e w' => e = .returned (.tuple #[.agg #[.int .i64 s0, .int .i64 s1], .bool t]) ∧ Below W.heap.size W w') ∧
    (∀ (A : Option Addr) (c : Nat) (W : World), Below w.heap.size w W → Cells W W.heap.size A (i64s l) → Calls Tryz.prog 45 #[dtV x, .slice A l.length c] W fun e w' => e = .returned (.int .i64 n) ∧ Below W.heap.size W w'))
set_option maxRecDepth 20000 in
set_option maxHeartbeats 8000000 in
theorem legsLaw_no (x : Dt) (i k : Int) (w : World)
    (hSM : ∀ W, Below w.heap.size w W → Calls Tryz.prog 29 #[dtV x] W fun e w' => e = .returned (.bool true) ∧ Below W.heap.size W w')
    (hLE : ∀ W, Below w.heap.size w W → Calls Tryz.prog 39 #[dtV x, .int .i64 i] W fun e w' => e = .returned (.tuple #[boxV S.zbox, .int .i64 1]) ∧ Below W.heap.size W w')
    (hAN : ∀ W, Below w.heap.size w W → Calls Tryz.prog 40 #[dtV x, .int .i64 k] W fun e w' => e = .returned (.tuple #[.agg #[.int .i64 0, .int .i64 0], .int .i64 1]) ∧ Below W.heap.size W w')
    (hAR : ∀ W, Below w.heap.size w W → Calls Tryz.prog 41 #[dtV x, .int .i64 k] W fun e w' => e = .returned (.tuple #[.int .i64 0, .int .i64 1]) ∧ Below W.heap.size W w')
    (hVL : ∀ W, Below w.heap.size w W → Calls Tryz.prog 14 #[dtV x] W fun e w' => e = .returned (.bool false) ∧ Below W.heap.size W w') :
    Calls Tryz.prog 8 #[dtV x, .int .i64 i, .int .i64 k] w fun e w' => e = .returned (.bool true) ∧ Below w.heap.size w w' := by
  have HA := Lib.hid (fun w => awake26_any w)
  have HSM := Lib.hid hSM
  have HLE := Lib.hid hLE
  have HAN := Lib.hid hAN
  have HAR := Lib.hid hAR
  have HVL := Lib.hid hVL
  clear hSM hLE hAN hAR hVL
  unfold dtV at HSM HLE HAN HAR HVL
  unfold boxV S.zbox at HLE
  unfold dtV
  have hDB := Blk.new w 34 #[.string x.m.name, .slice x.mA x.mn x.mc, .slice x.hA x.hn x.hc, .int .i64 x.m.cover, .int .i64 x.m.aggr, .int .i64 x.m.poker, .slice x.bA x.bn x.bc, .slice x.rA x.rn x.rc, .slice x.jA x.jn x.jc, .slice x.dA x.dn x.dc, .int .i64 x.rule.num, .int .i64 x.rule.den, .int .i64 x.rule.pnum, .int .i64 x.rule.pden, .int .i64 x.rule.bnum, .int .i64 x.rule.bden, .int .i64 x.rule.lnum, .int .i64 x.rule.lden, .int .i64 x.rule.least]
  have hW1 : Below w.heap.size w (w.alloc (.cells #[.string x.m.name, .slice x.mA x.mn x.mc, .slice x.hA x.hn x.hc, .int .i64 x.m.cover, .int .i64 x.m.aggr, .int .i64 x.m.poker, .slice x.bA x.bn x.bc, .slice x.rA x.rn x.rc, .slice x.jA x.jn x.jc, .slice x.dA x.dn x.dc, .int .i64 x.rule.num, .int .i64 x.rule.den, .int .i64 x.rule.pnum, .int .i64 x.rule.pden, .int .i64 x.rule.bnum, .int .i64 x.rule.bden, .int .i64 x.rule.lnum, .int .i64 x.rule.lden, .int .i64 x.rule.least] 34)) := ba_alloc (Below.refl _ _) _
  go_enter Tryz.func8, Tryz.ntmps8
  go_upto_region 1 with fail
  generalize (w.alloc (.cells #[.string x.m.name, .slice x.mA x.mn x.mc, .slice x.hA x.hn x.hc, .int .i64 x.m.cover, .int .i64 x.m.aggr, .int .i64 x.m.poker, .slice x.bA x.bn x.bc, .slice x.rA x.rn x.rc, .slice x.jA x.jn x.jc, .slice x.dA x.dn x.dc, .int .i64 x.rule.num, .int .i64 x.rule.den, .int .i64 x.rule.pnum, .int .i64 x.rule.pden, .int .i64 x.rule.bnum, .int .i64 x.rule.bden, .int .i64 x.rule.lnum, .int .i64 x.rule.lden, .int .i64 x.rule.least] 34)) = W1 at *
  have HDB := Lib.hid hDB
  clear hDB
  go_upto_region 6 with (first
    | (go_at_call 28; (with_reducible refine (HA.out _).mono ?_); rintro e wa ⟨rfl, hbwa⟩)
    | ((with_reducible refine at_load 34 3 ?_); refine wpList_load_mid rfl 34 (.tmp 3) rfl _ _ rfl _ _ (HDB.out.via belr).range Tryz.underlying34 rfl (by kernel_rfl) ?_)
    | (go_at_call 29; (with_reducible refine (HSM.out _ belr).mono ?_); rintro e wb ⟨rfl, hbwb⟩)
    | (go_at_call 39; (with_reducible refine (HLE.out _ belr).mono ?_); rintro e wd ⟨rfl, hbwd⟩))
  have hb5 : Below W1.heap.size W1 (wd.alloc (.cells zbxC 89)) := belr
  have hG := Blk.new wd 89 zbxC
  generalize (wd.alloc (.cells zbxC 89)) = W5 at *
  generalize wd.heap.size = g5 at *
  clear hbwa hbwb hbwd
  go_upto_region 7 with (first
    | ((with_reducible refine at_load 34 3 ?_); refine wpList_load_mid rfl 34 (.tmp 3) rfl _ _ rfl _ _ (HDB.out.via belr).range Tryz.underlying34 rfl (by kernel_rfl) ?_)
    | (go_at_call 40; (with_reducible refine (HAN.out _ belr).mono ?_); rintro e we ⟨rfl, hbwe⟩))
  have hb6 : Below W5.heap.size W5 (we.alloc (.cells #[.int .i64 0, .int .i64 0] 45)) := belr
  have hS := Blk.new we 45 #[.int .i64 0, .int .i64 0]
  generalize (we.alloc (.cells #[.int .i64 0, .int .i64 0] 45)) = W6 at *
  generalize we.heap.size = g6 at *
  clear hbwe
  have hb61 : Below W1.heap.size W1 W6 := ba_via hb6 hb5
  have hw6 : Below w.heap.size w W6 := ba_via hb61 hW1
  have HG6 := Lib.hid (hG.via hb6)
  have HS6 := Lib.hid hS
  have HD6 := Lib.hid (HDB.out.via hb61)
  clear hG hS HDB hb5 hb6 hb61 hW1
  go_upto_region 9 with (first
    | ((with_reducible refine at_load 34 3 ?_); refine wpList_load_mid rfl 34 (.tmp 3) rfl _ _ rfl _ _ (HD6.out.via belr).range Tryz.underlying34 rfl (by kernel_rfl) ?_)
    | (go_at_call 41; (with_reducible refine (HAR.out _ belr).mono ?_); rintro e wf ⟨rfl, hbwf⟩)
    | ((go_at_call 14; (with_reducible refine (HVL.out _ belr).mono ?_); rintro e wg ⟨rfl, hbwg⟩); have hb7 : Below W6.heap.size W6 wg := ba_via hbwg hbwf; have hGg := HG6.out.via hb7; have hSg := HS6.out.via hb7; have z0 := hGg.cell 0; have z1 := hGg.cell 1; have z2 := hGg.cell 2; have z3 := hGg.cell 3; have z4 := hGg.cell 4; have z5 := hGg.cell 5; have zl := hGg.lt; have y0 := hSg.cell 0; have y1 := hSg.cell 1; have yl := hSg.lt; simp only [List.getElem?_toArray, List.getElem?_cons_zero, List.getElem?_cons_succ] at z0 z1 z2 z3 z4 z5 y0 y1; clear hGg hSg))
  go_wp2
  go_ret
  exact ⟨rfl, ba_via hb7 hw6⟩
set_option maxRecDepth 20000 in
set_option maxHeartbeats 16000000 in
theorem legsLaw_yes (x : Dt) (i k : Int) (N : Nat) (C : List (List Int)) (G : Bx) (er s0 s1 f n g : Int) (w : World)
    (hi : LegSays x i N G er w) (hk : AncSays x k C s0 s1 f n g w)
    (hSM : ∀ W, Below w.heap.size w W → Calls Tryz.prog 29 #[dtV x] W fun e w' => e = .returned (.bool true) ∧ Below W.heap.size W w')
    (hLE : ∀ W, Below w.heap.size w W → Calls Tryz.prog 39 #[dtV x, .int .i64 i] W fun e w' => e = .returned (.tuple #[boxV G, .int .i64 er]) ∧ Below W.heap.size W w')
    (hAN : ∀ W, Below w.heap.size w W → Calls Tryz.prog 40 #[dtV x, .int .i64 k] W fun e w' => e = .returned (.tuple #[.agg #[.int .i64 s0, .int .i64 s1], .int .i64 f]) ∧ Below W.heap.size W w')
    (hAR : ∀ W, Below w.heap.size w W → Calls Tryz.prog 41 #[dtV x, .int .i64 k] W fun e w' => e = .returned (.tuple #[.int .i64 n, .int .i64 g]) ∧ Below W.heap.size W w')
    (hVL : ∀ W, Below w.heap.size w W → Calls Tryz.prog 14 #[dtV x] W fun e w' => e = .returned (.bool true) ∧ Below W.heap.size W w')
    (hCO : ∀ W, Below w.heap.size w W → Calls Tryz.prog 42 #[dtV x] W fun e w' => e = .returned (.int .i64 N) ∧ Below W.heap.size W w')
    (hCH : ∀ W, Below w.heap.size w W → Calls Tryz.prog 23 #[dtV x] W (GivesChs C W)) :
    Calls Tryz.prog 8 #[dtV x, .int .i64 i, .int .i64 k] w fun e w' => e = .returned (.bool true) ∧ Below w.heap.size w w' := by
  have HA := Lib.hid (fun w => awake26_any w)
  have HSM := Lib.hid hSM
  have HLE := Lib.hid hLE
  have HAN := Lib.hid hAN
  have HAR := Lib.hid hAR
  have HVL := Lib.hid hVL
  have HCO := Lib.hid hCO
  have HCH := Lib.hid hCH
  have HI := Lib.hid hi
  have HK := Lib.hid hk
  clear hSM hLE hAN hAR hVL hCO hCH hi hk
  unfold dtV at HSM HLE HAN HAR HVL HCO HCH
  unfold boxV at HLE
  unfold LegSays dtV boxV at HI
  unfold AncSays dtV at HK
  unfold dtV
  have hDB := Blk.new w 34 #[.string x.m.name, .slice x.mA x.mn x.mc, .slice x.hA x.hn x.hc, .int .i64 x.m.cover, .int .i64 x.m.aggr, .int .i64 x.m.poker, .slice x.bA x.bn x.bc, .slice x.rA x.rn x.rc, .slice x.jA x.jn x.jc, .slice x.dA x.dn x.dc, .int .i64 x.rule.num, .int .i64 x.rule.den, .int .i64 x.rule.pnum, .int .i64 x.rule.pden, .int .i64 x.rule.bnum, .int .i64 x.rule.bden, .int .i64 x.rule.lnum, .int .i64 x.rule.lden, .int .i64 x.rule.least]
  have hW1 : Below w.heap.size w (w.alloc (.cells #[.string x.m.name, .slice x.mA x.mn x.mc, .slice x.hA x.hn x.hc, .int .i64 x.m.cover, .int .i64 x.m.aggr, .int .i64 x.m.poker, .slice x.bA x.bn x.bc, .slice x.rA x.rn x.rc, .slice x.jA x.jn x.jc, .slice x.dA x.dn x.dc, .int .i64 x.rule.num, .int .i64 x.rule.den, .int .i64 x.rule.pnum, .int .i64 x.rule.pden, .int .i64 x.rule.bnum, .int .i64 x.rule.bden, .int .i64 x.rule.lnum, .int .i64 x.rule.lden, .int .i64 x.rule.least] 34)) := ba_alloc (Below.refl _ _) _
  go_enter Tryz.func8, Tryz.ntmps8
  go_upto_region 1 with fail
  generalize (w.alloc (.cells #[.string x.m.name, .slice x.mA x.mn x.mc, .slice x.hA x.hn x.hc, .int .i64 x.m.cover, .int .i64 x.m.aggr, .int .i64 x.m.poker, .slice x.bA x.bn x.bc, .slice x.rA x.rn x.rc, .slice x.jA x.jn x.jc, .slice x.dA x.dn x.dc, .int .i64 x.rule.num, .int .i64 x.rule.den, .int .i64 x.rule.pnum, .int .i64 x.rule.pden, .int .i64 x.rule.bnum, .int .i64 x.rule.bden, .int .i64 x.rule.lnum, .int .i64 x.rule.lden, .int .i64 x.rule.least] 34)) = W1 at *
  have HDB := Lib.hid hDB
  clear hDB
  go_upto_region 6 with (first
    | (go_at_call 28; (with_reducible refine (HA.out _).mono ?_); rintro e wa ⟨rfl, hbwa⟩)
    | ((with_reducible refine at_load 34 3 ?_); refine wpList_load_mid rfl 34 (.tmp 3) rfl _ _ rfl _ _ (HDB.out.via belr).range Tryz.underlying34 rfl (by kernel_rfl) ?_)
    | (go_at_call 29; (with_reducible refine (HSM.out _ belr).mono ?_); rintro e wb ⟨rfl, hbwb⟩)
    | (go_at_call 39; (with_reducible refine (HLE.out _ belr).mono ?_); rintro e wd ⟨rfl, hbwd⟩))
  have hb5 : Below W1.heap.size W1 (wd.alloc (.cells #[.int .i64 G.lo.x, .int .i64 G.lo.y, .int .i64 G.lo.z, .int .i64 G.hi.x, .int .i64 G.hi.y, .int .i64 G.hi.z] 89)) := belr
  have hG := Blk.new wd 89 #[.int .i64 G.lo.x, .int .i64 G.lo.y, .int .i64 G.lo.z, .int .i64 G.hi.x, .int .i64 G.hi.y, .int .i64 G.hi.z]
  generalize (wd.alloc (.cells #[.int .i64 G.lo.x, .int .i64 G.lo.y, .int .i64 G.lo.z, .int .i64 G.hi.x, .int .i64 G.hi.y, .int .i64 G.hi.z] 89)) = W5 at *
  generalize wd.heap.size = g5 at *
  clear hbwa hbwb hbwd
  go_upto_region 7 with (first
    | ((with_reducible refine at_load 34 3 ?_); refine wpList_load_mid rfl 34 (.tmp 3) rfl _ _ rfl _ _ (HDB.out.via belr).range Tryz.underlying34 rfl (by kernel_rfl) ?_)
    | (go_at_call 40; (with_reducible refine (HAN.out _ belr).mono ?_); rintro e we ⟨rfl, hbwe⟩))
  have hb6 : Below W5.heap.size W5 (we.alloc (.cells #[.int .i64 s0, .int .i64 s1] 45)) := belr
  have hS := Blk.new we 45 #[.int .i64 s0, .int .i64 s1]
  generalize (we.alloc (.cells #[.int .i64 s0, .int .i64 s1] 45)) = W6 at *
  generalize we.heap.size = g6 at *
  clear hbwe
  have hb61 : Below W1.heap.size W1 W6 := ba_via hb6 hb5
  have hw6 : Below w.heap.size w W6 := ba_via hb61 hW1
  have HG6 := Lib.hid (hG.via hb6)
  have HS6 := Lib.hid hS
  have HD6 := Lib.hid (HDB.out.via hb61)
  clear hG hS HDB hb5 hb6 hb61 hW1 HSM HLE HAN HA
  go_upto_region 10 with (first
    | ((with_reducible refine at_load 34 3 ?_); refine wpList_load_mid rfl 34 (.tmp 3) rfl _ _ rfl _ _ (HD6.out.via belr).range Tryz.underlying34 rfl (by kernel_rfl) ?_)
    | (go_at_call 41; (with_reducible refine (HAR.out _ belr).mono ?_); rintro e wf ⟨rfl, hbwf⟩)
    | (go_at_call 14; (with_reducible refine (HVL.out _ belr).mono ?_); rintro e wg ⟨rfl, hbwg⟩))
  have hb7 : Below W6.heap.size W6 wg := ba_via hbwg hbwf
  have HD7 := Lib.hid (HD6.out.via hb7)
  have HG7 := Lib.hid (HG6.out.via hb7)
  have HS7 := Lib.hid (HS6.out.via hb7)
  have hw7 : Below w.heap.size w wg := ba_via hb7 hw6
  clear hbwf hbwg hb7 HAR HVL HD6 HG6 HS6 hw6
  rcases HI.out with ⟨h1, hz, he⟩ | ⟨h1, h2, hz, he⟩ | ⟨h1, h2, he, hM⟩ | ⟨h1, h2, he, hM⟩
  focus
    subst hz he
    clear HI
    unfold S.zbox at HG7
    have hGg := HG7.out
    have z0 := hGg.cell 0
    have z1 := hGg.cell 1
    have z2 := hGg.cell 2
    have z3 := hGg.cell 3
    have z4 := hGg.cell 4
    have z5 := hGg.cell 5
    have zl := hGg.lt
    simp only [List.getElem?_toArray, List.getElem?_cons_zero, List.getElem?_cons_succ] at z0 z1 z2 z3 z4 z5
    clear hGg
    go_upto_region 16 with fail
    have HDZ := HD7
    have HSZ := HS7
    have hwZ := hw7
    clear HD7 HS7 hw7 HG7 z0 z1 z2 z3 z4 z5 zl HCO h1
  rotate_left
  focus
    subst hz he
    clear HI
    unfold S.zbox at HG7
    have hGg := HG7.out
    have z0 := hGg.cell 0
    have z1 := hGg.cell 1
    have z2 := hGg.cell 2
    have z3 := hGg.cell 3
    have z4 := hGg.cell 4
    have z5 := hGg.cell 5
    have zl := hGg.lt
    simp only [List.getElem?_toArray, List.getElem?_cons_zero, List.getElem?_cons_succ] at z0 z1 z2 z3 z4 z5
    clear hGg
    go_upto_region 11 with (first
      | ((with_reducible refine at_loadg 34 3 ?_); refine wpList_load_gdF (by rfl) 34 (.tmp 3) rfl _ _ rfl _ _ (HD7.out.via belr).range Tryz.underlying34 rfl (by kernel_rfl) ?_)
      | ((with_reducible refine at_load 34 3 ?_); refine wpList_load_mid rfl 34 (.tmp 3) rfl _ _ rfl _ _ (HD7.out.via belr).range Tryz.underlying34 rfl (by kernel_rfl) ?_)
      | ((go_at_call 42; (with_reducible refine (HCO.out _ belr).mono ?_); rintro e w8 ⟨rfl, hbw8⟩); have hG8 := HG7.out.via hbw8; have z08 := hG8.cell 0; have z18 := hG8.cell 1; have z28 := hG8.cell 2; have z38 := hG8.cell 3; have z48 := hG8.cell 4; have z58 := hG8.cell 5; have zl8 := hG8.lt; simp only [List.getElem?_toArray, List.getElem?_cons_zero, List.getElem?_cons_succ] at z08 z18 z28 z38 z48 z58; clear hG8))
    go_upto_region 16 with fail
    have HDZ := Lib.hid (HD7.out.via hbw8)
    have HSZ := Lib.hid (HS7.out.via hbw8)
    have hwZ := ba_via hbw8 hw7
    clear HD7 HS7 hw7 HG7 z0 z1 z2 z3 z4 z5 zl HCO h1 h2 z08 z18 z28 z38 z48 z58 zl8 hbw8
  rotate_left
  focus
    subst he
    have HM := Lib.hid hM
    clear HI hM
    go_upto_region 14 with (first
      | ((with_reducible refine at_loadg 34 3 ?_); refine wpList_load_gdF (by rfl) 34 (.tmp 3) rfl _ _ rfl _ _ (HD7.out.via belr).range Tryz.underlying34 rfl (by kernel_rfl) ?_)
      | ((with_reducible refine at_load 34 3 ?_); refine wpList_load_mid rfl 34 (.tmp 3) rfl _ _ rfl _ _ (HD7.out.via belr).range Tryz.underlying34 rfl (by kernel_rfl) ?_)
      | (go_at_call 42; (with_reducible refine (HCO.out _ belr).mono ?_); rintro e w8 ⟨rfl, hbw8⟩)
      | (go_at_call 43; (with_reducible refine (HM.out _ belr).mono ?_); rintro e w9 ⟨rfl, hbw9⟩))
    have hb9 : Below wg.heap.size wg (w9.alloc (.cells #[.int .i64 G.lo.x, .int .i64 G.lo.y, .int .i64 G.lo.z, .int .i64 G.hi.x, .int .i64 G.hi.y, .int .i64 G.hi.z] 89)) := belr
    have hG9 := Blk.new w9 89 #[.int .i64 G.lo.x, .int .i64 G.lo.y, .int .i64 G.lo.z, .int .i64 G.hi.x, .int .i64 G.hi.y, .int .i64 G.hi.z]
    generalize (w9.alloc (.cells #[.int .i64 G.lo.x, .int .i64 G.lo.y, .int .i64 G.lo.z, .int .i64 G.hi.x, .int .i64 G.hi.y, .int .i64 G.hi.z] 89)) = W9 at *
    generalize w9.heap.size = g9 at *
    have u0 := hG9.cell 0
    have u1 := hG9.cell 1
    have u2 := hG9.cell 2
    have u3 := hG9.cell 3
    have u4 := hG9.cell 4
    have u5 := hG9.cell 5
    have ul := hG9.lt
    simp only [List.getElem?_toArray, List.getElem?_cons_zero, List.getElem?_cons_succ] at u0 u1 u2 u3 u4 u5
    have hGg := HG7.out.via hb9
    have z0 := hGg.cell 0
    have z1 := hGg.cell 1
    have z2 := hGg.cell 2
    have z3 := hGg.cell 3
    have z4 := hGg.cell 4
    have z5 := hGg.cell 5
    have zl := hGg.lt
    simp only [List.getElem?_toArray, List.getElem?_cons_zero, List.getElem?_cons_succ] at z0 z1 z2 z3 z4 z5
    clear hGg
    clear hG9 hbw8 hbw9
    go_upto_region 16 with fail
    have HDZ := Lib.hid (HD7.out.via hb9)
    have HSZ := Lib.hid (HS7.out.via hb9)
    have hwZ := ba_via hb9 hw7
    clear HD7 HS7 hw7 HG7 z0 z1 z2 z3 z4 z5 zl HCO h1 h2 u0 u1 u2 u3 u4 u5 ul hb9 HM
  rotate_left
  focus
    subst he
    have HM := Lib.hid hM
    clear HI hM
    go_upto_region 14 with (first
      | ((with_reducible refine at_loadg 34 3 ?_); refine wpList_load_gdF (by rfl) 34 (.tmp 3) rfl _ _ rfl _ _ (HD7.out.via belr).range Tryz.underlying34 rfl (by kernel_rfl) ?_)
      | ((with_reducible refine at_load 34 3 ?_); refine wpList_load_mid rfl 34 (.tmp 3) rfl _ _ rfl _ _ (HD7.out.via belr).range Tryz.underlying34 rfl (by kernel_rfl) ?_)
      | (go_at_call 42; (with_reducible refine (HCO.out _ belr).mono ?_); rintro e w8 ⟨rfl, hbw8⟩)
      | (go_at_call 43; (with_reducible refine (HM.out _ belr).mono ?_); rintro e w9 ⟨rfl, hbw9⟩))
    have hb9 : Below wg.heap.size wg (w9.alloc (.cells #[.int .i64 G.lo.x, .int .i64 G.lo.y, .int .i64 G.lo.z, .int .i64 G.hi.x, .int .i64 G.hi.y, .int .i64 G.hi.z] 89)) := belr
    have hG9 := Blk.new w9 89 #[.int .i64 G.lo.x, .int .i64 G.lo.y, .int .i64 G.lo.z, .int .i64 G.hi.x, .int .i64 G.hi.y, .int .i64 G.hi.z]
    generalize (w9.alloc (.cells #[.int .i64 G.lo.x, .int .i64 G.lo.y, .int .i64 G.lo.z, .int .i64 G.hi.x, .int .i64 G.hi.y, .int .i64 G.hi.z] 89)) = W9 at *
    generalize w9.heap.size = g9 at *
    have u0 := hG9.cell 0
    have u1 := hG9.cell 1
    have u2 := hG9.cell 2
    have u3 := hG9.cell 3
    have u4 := hG9.cell 4
    have u5 := hG9.cell 5
    have ul := hG9.lt
    simp only [List.getElem?_toArray, List.getElem?_cons_zero, List.getElem?_cons_succ] at u0 u1 u2 u3 u4 u5
    have hGg := HG7.out.via hb9
    have z0 := hGg.cell 0
    have z1 := hGg.cell 1
    have z2 := hGg.cell 2
    have z3 := hGg.cell 3
    have z4 := hGg.cell 4
    have z5 := hGg.cell 5
    have zl := hGg.lt
    simp only [List.getElem?_toArray, List.getElem?_cons_zero, List.getElem?_cons_succ] at z0 z1 z2 z3 z4 z5
    clear hGg
    clear hG9 hbw8 hbw9
    go_upto_region 16 with fail
    have HDZ := Lib.hid (HD7.out.via hb9)
    have HSZ := Lib.hid (HS7.out.via hb9)
    have hwZ := ba_via hb9 hw7
    clear HD7 HS7 hw7 HG7 z0 z1 z2 z3 z4 z5 zl HCO h1 h2 u0 u1 u2 u3 u4 u5 ul hb9 HM
  rotate_left
  all_goals (
    go_upto_region 17 with (first
      | ((with_reducible refine at_load 34 3 ?_); refine wpList_load_mid rfl 34 (.tmp 3) rfl _ _ rfl _ _ (HDZ.out.via belr).range Tryz.underlying34 rfl (by kernel_rfl) ?_)
      | (go_at_call 23; (with_reducible refine (HCH.out _ hwZ).mono ?_); rintro e w1 ⟨A1, c1, rs, rfl, hrs, hrc, hcc, hce, hbw1⟩))
    have hw1 : Below w.heap.size w w1 := ba_via hbw1 hwZ
    have HD1 := Lib.hid (HDZ.out.via hbw1)
    have HS1 := Lib.hid (HSZ.out.via hbw1)
    have hrl : rs.length = C.length := by rw [← hrs, List.length_map]
    have HRS := Lib.hid hrs
    have HCC := Lib.hid hcc
    have HCE := Lib.hid hce
    clear HDZ HSZ hwZ hrs hrc hcc hce hbw1 HCH
    rcases HK.out with ⟨hk, e0, e1, e2, e3, e4⟩ | ⟨m, t, l, e0, e1, e2, e3, hA1, hA2⟩
    · subst e0 e1 e2 e3 e4
      have hS := HS1.out
      have y0 := hS.cell 0
      have y1 := hS.cell 1
      have yl := hS.lt
      simp only [List.getElem?_toArray, List.getElem?_cons_zero, List.getElem?_cons_succ] at y0 y1
      clear hS HK
      rw [← hrl] at hk
      clear hrl
      by_cases hk1 : k < 0
      · have hk3 : decide (k < 0) = true := decide_eq_true hk1
        clear hk hk1
        go_wp2
        go_ret
        exact ⟨rfl, hw1⟩
      · have hk2 : decide ((rs.length : Int) ≤ k) = true := decide_eq_true (by omega)
        have hk3 : decide (k < 0) = false := decide_eq_false hk1
        clear hk hk1
        go_wp2
        go_ret
        exact ⟨rfl, hw1⟩
    · subst e0 e3
      have HE2 := Lib.hid e2
      clear e2
      obtain ⟨hmC, hme⟩ := List.getElem?_eq_some_iff.1 e1
      have hmx : m < rs.length := by rw [hrl]; exact hmC
      have hrq : rs[m].l = l := by
        have h1 : (rs.map (·.l))[m]? = C[m]? := by rw [HRS.out]
        rw [List.getElem?_map, List.getElem?_eq_getElem hmx, e1] at h1
        exact Option.some.inj h1
      obtain ⟨bA, oA, hAe, hbA, hxx⟩ := HCC.out.at_ (by rw [List.length_map]; omega)
      clear hxx
      have hc0 := HCC.out
      rw [hAe] at hc0
      have c0 := hc0.get (k := m) (v := chV rs[m]) (by rw [List.getElem?_map, List.getElem?_eq_getElem hmx]; rfl)
      have HCQ := Lib.hid ((HCE.out rs[m] (List.getElem_mem hmx)).1)
      unfold chV at c0
      rw [hrq] at c0 HCQ
      have hmi : (m : Int) < rs.length := by omega
      have hm0 : ¬ ((m : Int) < 0) := by omega
      have hm1 : ¬ ((rs.length : Int) ≤ m) := by omega
      have HA1 := Lib.hid (fun (W : World) (hw : Below w1.heap.size w1 W) => hA1 rs[m].A rs[m].c W (ba_via hw hw1) ((HCQ.out.below hw).mono hw.size))
      have HA2 := Lib.hid (fun (W : World) (hw : Below w1.heap.size w1 W) => hA2 rs[m].A rs[m].c W (ba_via hw hw1) ((HCQ.out.below hw).mono hw.size))
      subst hAe
      clear hA1 hA2 e1 hme hmC hrq hc0 HK hrl HCC HCE HRS
      generalize rs[m].A = rA at *
      generalize rs[m].c = rc at *
      generalize rs.length = rl at *
      generalize l.length = ll at *
      go_upto_region 19 with fail
      refine wp_region_mixF 3 [0, 4] [8] _ 45 #[.int .i64 0, .int .i64 0] (by kernel_rfl) (by kernel_rfl) (of_decide_eq_true (by kernel_rfl)) rfl rfl (fun _ _ => by kernel_rfl) (by intro c a d v w h; cases d <;> exact h) ?_
      try simp only [wpSegsF, List.take_succ_cons, List.take_zero, List.drop_succ_cons, List.drop_zero, List.take_nil, List.drop_nil]
      repeat (go_big_quiet_step (fail))
      refine wpQuiet_nil ?_
      intro wA hCwA hGwA
      have hbA' : Below w1.heap.size w1 wA := ba_via hGwA (ba_drew (Below.refl _ _))
      clear hCwA hGwA
      have hRGA := (HD1.out.via hbA').range
      go_wp2_with ((refine wpList_load_mid rfl 34 (.tmp 3) rfl _ _ rfl _ _ hRGA Tryz.underlying34 rfl (by kernel_rfl) ?_))
      refine segF_next (show Below _ _ _ from belr) ?_
      clear hRGA
      try simp only [wpSegsF, List.take_succ_cons, List.take_zero, List.drop_succ_cons, List.drop_zero, List.take_nil, List.drop_nil]
      repeat (go_big_quiet_step (fail))
      refine wpQuiet_nil ?_
      intro wB hCwB hGwB
      have hbB : Below w1.heap.size w1 wB := ba_via hGwB hbA'
      clear hCwB hGwB
      go_wp2_with ((go_at_call 44; (with_reducible refine (HA1.out _ belr).mono ?_); rintro e w2 ⟨rfl, hbw2⟩))
      refine segF_next (show Below _ _ _ from belr) ?_
      try simp only [wpSegsF, endAt, List.take_succ_cons, List.take_zero, List.drop_succ_cons, List.drop_zero, List.take_nil, List.drop_nil]
      repeat (go_big_quiet_step (fail))
      refine wpQuiet_nil ?_
      intro b1 wD hOwD hGwD hLb1 hKb1
      simp only [endAt, List.drop_succ_cons, List.drop_zero, Nat.reduceAdd]
      have hbD2 : Below w1.heap.size w1 wD := ba_via hGwD belr
      have hbl1 : b1 < wD.heap.size := hKb1.lt
      have y0 := hKb1.cell 0
      have y1 := hKb1.cell 1
      have x0 := hKb1.frozen 0
      have x1 := hKb1.frozen 1
      simp only [List.getElem?_toArray, List.getElem?_cons_zero, List.getElem?_cons_succ] at y0 y1
      clear hOwD hGwD
      go_upto_region 20 with fail
      obtain ⟨W2, eW2, hW2, hB2⟩ := legs_set2 hbD2 hLb1 hKb1 (.int .i64 s0) (.int .i64 s1)
      rw [eW2]
      clear eW2 y0 y1 x0 x1 hKb1 hbl1 hbD2 hbB hbA' hbw2
      clear wD w2 wB wA
      have y0 := hB2.cell 0
      have y1 := hB2.cell 1
      have bl := hB2.lt
      have hS2 := HS1.out.via hW2
      have v0 := hS2.cell 0
      have v1 := hS2.cell 1
      have vl := hS2.lt
      simp only [List.getElem?_toArray, List.getElem?_cons_zero, List.getElem?_cons_succ] at y0 y1 v0 v1
      have c0' := (hW2.cell (p := ⟨bA, oA + m, none⟩) hbA).trans c0
      have hbAl2 : bA < W2.heap.size := by have := hW2.size; omega
      have HD2 := Lib.hid (HD1.out.via hW2)
      have HR2 := Lib.hid (fun (W : World) (hw : Below W2.heap.size W2 W) => HA2.out W (ba_via hw hW2))
      clear c0 hB2 hS2 HA1 HA2
      cases t
      · have e5 : f = 12 := HE2.out
        clear HE2
        subst e5
        refine wp_region_mix 6 [23] (by kernel_rfl) (by kernel_rfl) (of_decide_eq_true (by kernel_rfl)) ?_
        try simp only [wpSegs, List.take_succ_cons, List.take_zero, List.drop_succ_cons, List.drop_zero, List.take_nil, List.drop_nil]
        repeat (first | (refine quietLoad (by rfl) 34 (.tmp 3) rfl _ _ rfl _ _ (quietBy fun W hw => (HD2.out.via hw).range) Tryz.underlying34 rfl (by kernel_rfl) ?_; intro aQ hQ; simp only [go_sem, List.setIfInBounds_toArray, List.set_cons_succ, List.set_cons_zero] at hQ; subst hQ) | go_big_quiet_step (fail))
        refine wpQuiet_nil ?_
        show wpList _ _ _ _ _ _
        go_wp2_with ((go_at_call 45; (with_reducible refine (HR2.out _ belr).mono ?_); rintro e w3 ⟨rfl, hbw3⟩))
        refine seg_next (grow_to belr) ?_
        try simp only [wpSegs, List.take_succ_cons, List.take_zero, List.drop_succ_cons, List.drop_zero, List.take_nil, List.drop_nil]
        repeat (go_big_quiet_step (fail))
        refine wpQuiet_nil ?_
        show wpList _ _ _ _ _ _
        go_wp2
        go_ret
        exact ⟨rfl, ba_via hbw3 (ba_via (ba_drew hW2) hw1)⟩
      · have e5 : f = 0 := HE2.out
        clear HE2
        subst e5
        refine wp_region_mix 6 [23] (by kernel_rfl) (by kernel_rfl) (of_decide_eq_true (by kernel_rfl)) ?_
        try simp only [wpSegs, List.take_succ_cons, List.take_zero, List.drop_succ_cons, List.drop_zero, List.take_nil, List.drop_nil]
        repeat (first | (refine quietLoad (by rfl) 34 (.tmp 3) rfl _ _ rfl _ _ (quietBy fun W hw => (HD2.out.via hw).range) Tryz.underlying34 rfl (by kernel_rfl) ?_; intro aQ hQ; simp only [go_sem, List.setIfInBounds_toArray, List.set_cons_succ, List.set_cons_zero] at hQ; subst hQ) | go_big_quiet_step (fail))
        refine wpQuiet_nil ?_
        show wpList _ _ _ _ _ _
        go_wp2_with ((go_at_call 45; (with_reducible refine (HR2.out _ belr).mono ?_); rintro e w3 ⟨rfl, hbw3⟩))
        refine seg_next (grow_to belr) ?_
        try simp only [wpSegs, List.take_succ_cons, List.take_zero, List.drop_succ_cons, List.drop_zero, List.take_nil, List.drop_nil]
        repeat (go_big_quiet_step (fail))
        refine wpQuiet_nil ?_
        show wpList _ _ _ _ _ _
        go_wp2
        go_ret
        exact ⟨rfl, ba_via hbw3 (ba_via (ba_drew hW2) hw1)⟩)
section
variable {x : Dt} {ds : List Dm} {w : World}
theorem leg_says (h : DtOk w x ds) (hlk : S.look x (S.dems ds) = true) {rs : List Rod} (hrs : RodsOf x (S.nOf x) rs) (i : Int) :
    ∃ (G : Bx) (er : Int), LegSays x i (S.nOf x) G er w ∧ ∀ W, Below w.heap.size w W → Calls Tryz.prog 39 #[dtV x, .int .i64 i] W fun e w' => e = .returned (.tuple #[boxV G, .int .i64 er]) ∧ Below W.heap.size W w' := by
  have g := look_ok hlk
  have h2 : ∀ (hr : i < 0 ∨ (S.nOf x : Int) ≤ i), ∀ W, Below w.heap.size w W → Calls Tryz.prog 39 #[dtV x, .int .i64 i] W fun e w' => e = .returned (.tuple #[boxV S.zbox, .int .i64 2]) ∧ Below W.heap.size W w' := fun hr W hw => by
    have := bad_Leg h i (.inr hr) W hw
    rw [if_neg (by rw [hlk]; simp)] at this
    exact this
  by_cases h0 : i < 0
  · exact ⟨S.zbox, 2, .inl ⟨decide_eq_true h0, rfl, rfl⟩, h2 (.inl h0)⟩
  · by_cases h1 : (S.nOf x : Int) ≤ i
    · exact ⟨S.zbox, 2, .inr (.inl ⟨decide_eq_false h0, decide_eq_true h1, rfl, rfl⟩), h2 (.inr h1)⟩
    · obtain ⟨m, rfl⟩ : ∃ m : Nat, i = (m : Int) := ⟨i.toNat, by omega⟩
      have hm : m < rs.length := by rw [hrs.len]; omega
      have hg := List.getElem?_eq_getElem hm
      have hL := good_Leg h hlk hrs hg
      have hM : ∀ W, Below w.heap.size w W → Calls Tryz.prog 43 #[dtV x, .int .i64 m] W fun e w' => e = .returned (.tuple #[boxV (S.mlegOf rs[m]), .bool (!decide (rs[m].main < 0))]) ∧ Below W.heap.size W w' := fun W hw => rmain_rod x rs w.heap.size W hw.size (h.at_.at_ (Nat.le_refl _) hw) g.laid hrs hg
      unfold S.mlegOf at hM
      by_cases hn : rs[m].main < 0
      · rw [if_pos hn, if_pos hn] at hL
        rw [if_pos hn, decide_eq_true hn] at hM
        exact ⟨_, _, .inr (.inr (.inr ⟨decide_eq_false h0, decide_eq_false h1, rfl, hM⟩)), hL⟩
      · rw [if_neg hn, if_neg hn] at hL
        rw [if_neg hn, decide_eq_false hn] at hM
        exact ⟨_, _, .inr (.inr (.inl ⟨decide_eq_false h0, decide_eq_false h1, rfl, hM⟩)), hL⟩
theorem anc_says (h : DtOk w x ds) (hlk : S.look x (S.dems ds) = true) {rs : List Rod} (hrs : RodsOf x (S.nOf x) rs) (k : Int) :
    ∃ (s0 s1 f n g : Int), AncSays x k (S.cOf x) s0 s1 f n g w ∧ (∀ W, Below w.heap.size w W → Calls Tryz.prog 40 #[dtV x, .int .i64 k] W fun e w' => e = .returned (.tuple #[.agg #[.int .i64 s0, .int .i64 s1], .int .i64 f]) ∧ Below W.heap.size W w') ∧
      ∀ W, Below w.heap.size w W → Calls Tryz.prog 41 #[dtV x, .int .i64 k] W fun e w' => e = .returned (.tuple #[.int .i64 n, .int .i64 g]) ∧ Below W.heap.size W w' := by
  have g := look_ok hlk
  by_cases hr : k < 0 ∨ ((S.cOf x).length : Int) ≤ k
  · refine ⟨0, 0, 2, 0, 2, .inl ⟨hr, rfl, rfl, rfl, rfl, rfl⟩, fun W hw => ?_, fun W hw => ?_⟩
    · have := bad_Anch h k (.inr hr) W hw
      rw [if_neg (by rw [hlk]; simp)] at this
      exact this
    · have := bad_Area h k (.inr hr) W hw
      rw [if_neg (by rw [hlk]; simp)] at this
      exact this
  · obtain ⟨m, rfl⟩ : ∃ m : Nat, k = (m : Int) := ⟨k.toNat, by omega⟩
    have hm : m < (S.cOf x).length := by omega
    have hmem := List.getElem_mem hm
    obtain ⟨c0, c1, c2⟩ := g.cin _ hmem
    refine ⟨_, _, _, _, 0, .inr ⟨m, (S.spanL x rs (S.cOf x)[m]).2.2, _, rfl, List.getElem?_eq_getElem hm, rfl, rfl, fun A c W hw hs => ?_, fun A c W hw hs => ?_⟩, good_Anch h hlk hm hrs, good_Area h hlk hm hrs⟩
    · exact ranch_any x rs _ A c w.heap.size W hw.size (h.at_.at_ (Nat.le_refl _) hw) g.laid g.rule g.mem hrs c0 c1 c2 hs
    · exact rarea_any x rs _ A c w.heap.size W hw.size (h.at_.at_ (Nat.le_refl _) hw) g.laid hrs c0 c1 c2 hs
end
theorem legs_walk (x : Dt) (ds : List Dm) (d p : Int) (w : World) (h : DtOk w x ds) :
    Calls Tryz.prog 8 #[dtV x, .int .i64 d, .int .i64 p] w fun e w' => e = .returned (.bool true) ∧ Below w.heap.size w w' := by
  have HSM : ∀ W, Below w.heap.size w W → Calls Tryz.prog 29 #[dtV x] W fun e w' => e = .returned (.bool (S.small25 x ds)) ∧ Below W.heap.size W w' := fun W hw =>
    few_any x (S.small25 x ds) W (fun V hV => small25_any x ds w.heap.size V (hw.trans (hV.mono hw.size)).size (h.at_.at_ (Nat.le_refl _) (hw.trans (hV.mono hw.size))) (h.dems.at_ (Nat.le_refl _) (hw.trans (hV.mono hw.size))))
  have HLK : ∀ W, Below w.heap.size w W → Calls Tryz.prog 14 #[dtV x] W fun e w' => e = .returned (.bool (S.look x (S.dems ds))) ∧ Below W.heap.size W w' := fun W hw => rlook_any x ds w.heap.size W hw.size (h.at_.at_ (Nat.le_refl _) hw) (h.dems.at_ (Nat.le_refl _) hw)
  cases hsm : S.small25 x ds
  · rw [hsm] at HSM
    exact legsLaw_big x d p w HSM
  · rw [hsm] at HSM
    by_cases hlk : S.look x (S.dems ds) = false
    · refine legsLaw_no x d p w HSM (fun W hw => ?_) (fun W hw => ?_) (fun W hw => ?_) (hlk ▸ HLK)
      · have := bad_Leg h d (.inl hlk) W hw
        rw [if_pos hlk] at this
        exact this
      · have := bad_Anch h p (.inl hlk) W hw
        rw [if_pos hlk] at this
        exact this
      · have := bad_Area h p (.inl hlk) W hw
        rw [if_pos hlk] at this
        exact this
    · have hlk2 : S.look x (S.dems ds) = true := by simpa using hlk
      have g := look_ok hlk2
      obtain ⟨rs, hrs⟩ := rods_ex g.laid
      obtain ⟨G, er, l1, l2⟩ := leg_says h hlk2 hrs d
      obtain ⟨s0, s1, f, n, gg, a1, a2, a3⟩ := anc_says h hlk2 hrs p
      exact legsLaw_yes x d p (S.nOf x) (S.cOf x) G er s0 s1 f n gg w l1 a1 HSM l2 a2 a3 (hlk2 ▸ HLK) (good_rcount h hlk2) (good_rchains h hlk2)
end Go.Proofs.YtffkmgjmlahfpaaGreat
