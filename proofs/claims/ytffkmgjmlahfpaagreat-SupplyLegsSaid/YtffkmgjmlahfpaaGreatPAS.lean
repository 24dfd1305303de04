/- Contracts: supply.at, supply.At. Plain: laid bars and chains of a detail without their addresses. Plain: the steps of a supply are valid. Contract: supply.Bars. -/
import Derived.Test.YtffkmgjmlahfpaaGreatPAP
import Derived.Test.YtffkmgjmlahfpaaGreatPAQ
set_option linter.unusedVariables false
set_option linter.unusedSimpArgs false
namespace Go.Proofs.YtffkmgjmlahfpaaGreat
open Go.RowKit
def S.supAt (z : Bx) (p : Int) (rs : List Rod) (c : SCh) : Bool := S.atPl p c && S.sup rs z c
set_option maxHeartbeats 2000000 in
theorem at_any (x : Dt) (C : List (List Int)) (n : Nat) (z : Bx) (k : Nat) (p : Int) (w : World) (hC : C.length ≤ 2000) (hp : -1048576 ≤ p) (hp' : p ≤ 1048576)
    (hSU : ∀ W, Below w.heap.size w W → Calls Tryz.prog 83 #[dtV x, .int .i64 k] W (GivesSups x C n (fun rs => S.sup rs z) W)) :
    Calls Tryz.prog 81 #[dtV x, .int .i64 k, .int .i64 p] w (GivesSups x C n (S.supAt z p) w) := by
  have HSU := Lib.hid hSU
  clear hSU
  unfold dtV at HSU
  unfold dtV
  have hDB := (Blk.new w 34 #[.string x.m.name, .slice x.mA x.mn x.mc, .slice x.hA x.hn x.hc, .int .i64 x.m.cover, .int .i64 x.m.aggr, .int .i64 x.m.poker, .slice x.bA x.bn x.bc, .slice x.rA x.rn x.rc, .slice x.jA x.jn x.jc, .slice x.dA x.dn x.dc, .int .i64 x.rule.num, .int .i64 x.rule.den, .int .i64 x.rule.pnum, .int .i64 x.rule.pden, .int .i64 x.rule.bnum, .int .i64 x.rule.bden, .int .i64 x.rule.lnum, .int .i64 x.rule.lden, .int .i64 x.rule.least]).alloc (.cells #[.int .i64 p] 3)
  have hPB := Blk.new (w.alloc (.cells #[.string x.m.name, .slice x.mA x.mn x.mc, .slice x.hA x.hn x.hc, .int .i64 x.m.cover, .int .i64 x.m.aggr, .int .i64 x.m.poker, .slice x.bA x.bn x.bc, .slice x.rA x.rn x.rc, .slice x.jA x.jn x.jc, .slice x.dA x.dn x.dc, .int .i64 x.rule.num, .int .i64 x.rule.den, .int .i64 x.rule.pnum, .int .i64 x.rule.pden, .int .i64 x.rule.bnum, .int .i64 x.rule.bden, .int .i64 x.rule.lnum, .int .i64 x.rule.lden, .int .i64 x.rule.least] 34)) 3 #[.int .i64 p]
  have hW1 : Below w.heap.size w ((w.alloc (.cells #[.string x.m.name, .slice x.mA x.mn x.mc, .slice x.hA x.hn x.hc, .int .i64 x.m.cover, .int .i64 x.m.aggr, .int .i64 x.m.poker, .slice x.bA x.bn x.bc, .slice x.rA x.rn x.rc, .slice x.jA x.jn x.jc, .slice x.dA x.dn x.dc, .int .i64 x.rule.num, .int .i64 x.rule.den, .int .i64 x.rule.pnum, .int .i64 x.rule.pden, .int .i64 x.rule.bnum, .int .i64 x.rule.bden, .int .i64 x.rule.lnum, .int .i64 x.rule.lden, .int .i64 x.rule.least] 34)).alloc (.cells #[.int .i64 p] 3)) := ba_alloc (ba_alloc (Below.refl _ _) _) _
  go_enter Tryz.func81, Tryz.ntmps81
  go_upto_region 1 with fail
  rw [show (w.alloc (.cells #[.string x.m.name, .slice x.mA x.mn x.mc, .slice x.hA x.hn x.hc, .int .i64 x.m.cover, .int .i64 x.m.aggr, .int .i64 x.m.poker, .slice x.bA x.bn x.bc, .slice x.rA x.rn x.rc, .slice x.jA x.jn x.jc, .slice x.dA x.dn x.dc, .int .i64 x.rule.num, .int .i64 x.rule.den, .int .i64 x.rule.pnum, .int .i64 x.rule.pden, .int .i64 x.rule.bnum, .int .i64 x.rule.bden, .int .i64 x.rule.lnum, .int .i64 x.rule.lden, .int .i64 x.rule.least] 34)).heap.size = w.heap.size + 1 by simp] at hPB
  generalize ((w.alloc (.cells #[.string x.m.name, .slice x.mA x.mn x.mc, .slice x.hA x.hn x.hc, .int .i64 x.m.cover, .int .i64 x.m.aggr, .int .i64 x.m.poker, .slice x.bA x.bn x.bc, .slice x.rA x.rn x.rc, .slice x.jA x.jn x.jc, .slice x.dA x.dn x.dc, .int .i64 x.rule.num, .int .i64 x.rule.den, .int .i64 x.rule.pnum, .int .i64 x.rule.pden, .int .i64 x.rule.bnum, .int .i64 x.rule.bden, .int .i64 x.rule.lnum, .int .i64 x.rule.lden, .int .i64 x.rule.least] 34)).alloc (.cells #[.int .i64 p] 3)) = W1 at *
  have HDB := Lib.hid hDB
  have HPB := Lib.hid hPB
  clear hDB hPB
  go_upto_region 2 with (first
    | ((with_reducible refine at_load 34 3 ?_); refine wpList_load_mid rfl 34 (.tmp 3) rfl _ _ rfl _ _ (HDB.out.via belr).range Tryz.underlying34 rfl (by kernel_rfl) ?_)
    | (go_at_call 83; (with_reducible refine (HSU.out _ belr).mono ?_); rintro e w2 ⟨A1, c1, rs, A2, c2, cs, b2, rfl, hrl, hok, hb1, hb2, hRC, hRL, hOW, hcl, hsch, hcc, hbw2⟩; have HRL := Lib.hid hrl; have HOK := Lib.hid hok; have HRC := Lib.hid hRC; have HRG := Lib.hid hRL; have HOW := Lib.hid hOW; have HCL := Lib.hid hcl; have HSC := Lib.hid hsch; have HCC := Lib.hid hcc; clear hrl hok hRC hRL hOW hcl hsch hcc))
  have hs1 := hW1.size
  have hs2 := hbw2.size
  have hPB2 := HPB.out.via hbw2
  have p0 := hPB2.cell 0
  have pl := hPB2.lt
  have pl1 := HPB.out.lt
  simp only [List.getElem?_toArray, List.getElem?_cons_zero, List.getElem?_cons_succ] at p0
  have hfl := List.length_filter_le (S.sup rs z) cs
  have hfl2 : (cs.filter (S.sup rs z)).length ≤ 2000 := by rw [HCL.out] at hfl; omega
  have HDF := Lib.hid (fun (W : World) (hw : Below w2.heap.size w2 W) => delf_own (cs.filter (S.sup rs z)) p (w.heap.size + 1) A2 (cs.filter (S.sup rs z)).length c2 b2 W (own_kept HOW.out (fun k hk => hw.block k (HOW.out.lt k hk).2)) hfl2 ((hw.cell (p := ⟨w.heap.size + 1, 0, none⟩) pl).trans p0) (Nat.lt_of_lt_of_le pl hw.size) (fun h => by have := (HOW.out.lt _ h).1; omega))
  have HFF := Lib.hid (show (cs.filter (S.sup rs z)).filter (S.atPl p) = cs.filter (S.supAt z p rs) by rw [List.filter_filter]; rfl)
  rw [HFF.out] at HDF
  have hp1 : ¬ (p < -1048576) := by omega
  have hp2 : ¬ (1048576 < p) := by omega
  clear hfl hPB2 HSU HDB HPB
  go_wp2_with (go_at_call 137; (with_reducible refine (HDF.out _ belr).mono ?_); rintro e w3 ⟨rfl, hO3, hX3⟩; have HO3 := Lib.hid hO3; have HX3 := Lib.hid hX3; clear hO3 hX3)
  go_returns
  have hb3 : Below b2 w2 w3 := HX3.out.below hb2 (fun k hk => (HOW.out.lt k (by simpa using hk)).1)
  have hs3 := HX3.out.size
  exact ⟨A1, c1, rs, A2, c2, cs, b2, rfl, HRL.out, HOK.out, Nat.le_trans hs1 hb1, Nat.le_trans hb2 hs3, HRC.out.below hb3, fun r hr => (HRG.out r hr).below hb3, HO3.out, HCL.out, HSC.out, fun c hc => (HCC.out c hc).below hb3, (ba_via hbw2 hW1).trans (hb3.mono (Nat.le_trans hs1 hb1))⟩
theorem at_far (x : Dt) (C : List (List Int)) (n : Nat) (z : Bx) (k : Nat) (p : Int) (w : World) (hp : p < -1048576 ∨ 1048576 < p)
    (hSU : ∀ W, Below w.heap.size w W → Calls Tryz.prog 83 #[dtV x, .int .i64 k] W (GivesSups x C n (fun rs => S.sup rs z) W)) :
    Calls Tryz.prog 81 #[dtV x, .int .i64 k, .int .i64 p] w fun e w' => e = .returned (.tuple #[.slice none 0 0, .slice none 0 0, .int .i64 2]) ∧ Below w.heap.size w w' := by
  have HSU := Lib.hid hSU
  clear hSU
  unfold dtV at HSU
  unfold dtV
  have hDB := (Blk.new w 34 #[.string x.m.name, .slice x.mA x.mn x.mc, .slice x.hA x.hn x.hc, .int .i64 x.m.cover, .int .i64 x.m.aggr, .int .i64 x.m.poker, .slice x.bA x.bn x.bc, .slice x.rA x.rn x.rc, .slice x.jA x.jn x.jc, .slice x.dA x.dn x.dc, .int .i64 x.rule.num, .int .i64 x.rule.den, .int .i64 x.rule.pnum, .int .i64 x.rule.pden, .int .i64 x.rule.bnum, .int .i64 x.rule.bden, .int .i64 x.rule.lnum, .int .i64 x.rule.lden, .int .i64 x.rule.least]).alloc (.cells #[.int .i64 p] 3)
  have hPB := Blk.new (w.alloc (.cells #[.string x.m.name, .slice x.mA x.mn x.mc, .slice x.hA x.hn x.hc, .int .i64 x.m.cover, .int .i64 x.m.aggr, .int .i64 x.m.poker, .slice x.bA x.bn x.bc, .slice x.rA x.rn x.rc, .slice x.jA x.jn x.jc, .slice x.dA x.dn x.dc, .int .i64 x.rule.num, .int .i64 x.rule.den, .int .i64 x.rule.pnum, .int .i64 x.rule.pden, .int .i64 x.rule.bnum, .int .i64 x.rule.bden, .int .i64 x.rule.lnum, .int .i64 x.rule.lden, .int .i64 x.rule.least] 34)) 3 #[.int .i64 p]
  have hW1 : Below w.heap.size w ((w.alloc (.cells #[.string x.m.name, .slice x.mA x.mn x.mc, .slice x.hA x.hn x.hc, .int .i64 x.m.cover, .int .i64 x.m.aggr, .int .i64 x.m.poker, .slice x.bA x.bn x.bc, .slice x.rA x.rn x.rc, .slice x.jA x.jn x.jc, .slice x.dA x.dn x.dc, .int .i64 x.rule.num, .int .i64 x.rule.den, .int .i64 x.rule.pnum, .int .i64 x.rule.pden, .int .i64 x.rule.bnum, .int .i64 x.rule.bden, .int .i64 x.rule.lnum, .int .i64 x.rule.lden, .int .i64 x.rule.least] 34)).alloc (.cells #[.int .i64 p] 3)) := ba_alloc (ba_alloc (Below.refl _ _) _) _
  go_enter Tryz.func81, Tryz.ntmps81
  go_upto_region 1 with fail
  rw [show (w.alloc (.cells #[.string x.m.name, .slice x.mA x.mn x.mc, .slice x.hA x.hn x.hc, .int .i64 x.m.cover, .int .i64 x.m.aggr, .int .i64 x.m.poker, .slice x.bA x.bn x.bc, .slice x.rA x.rn x.rc, .slice x.jA x.jn x.jc, .slice x.dA x.dn x.dc, .int .i64 x.rule.num, .int .i64 x.rule.den, .int .i64 x.rule.pnum, .int .i64 x.rule.pden, .int .i64 x.rule.bnum, .int .i64 x.rule.bden, .int .i64 x.rule.lnum, .int .i64 x.rule.lden, .int .i64 x.rule.least] 34)).heap.size = w.heap.size + 1 by simp] at hPB
  generalize ((w.alloc (.cells #[.string x.m.name, .slice x.mA x.mn x.mc, .slice x.hA x.hn x.hc, .int .i64 x.m.cover, .int .i64 x.m.aggr, .int .i64 x.m.poker, .slice x.bA x.bn x.bc, .slice x.rA x.rn x.rc, .slice x.jA x.jn x.jc, .slice x.dA x.dn x.dc, .int .i64 x.rule.num, .int .i64 x.rule.den, .int .i64 x.rule.pnum, .int .i64 x.rule.pden, .int .i64 x.rule.bnum, .int .i64 x.rule.bden, .int .i64 x.rule.lnum, .int .i64 x.rule.lden, .int .i64 x.rule.least] 34)).alloc (.cells #[.int .i64 p] 3)) = W1 at *
  have HDB := Lib.hid hDB
  have HPB := Lib.hid hPB
  clear hDB hPB
  go_upto_region 2 with (first
    | ((with_reducible refine at_load 34 3 ?_); refine wpList_load_mid rfl 34 (.tmp 3) rfl _ _ rfl _ _ (HDB.out.via belr).range Tryz.underlying34 rfl (by kernel_rfl) ?_)
    | (go_at_call 83; (with_reducible refine (HSU.out _ belr).mono ?_); rintro e w2 ⟨A1, c1, rs, A2, c2, cs, b2, rfl, hrl, hok, hb1, hb2, hRC, hRL, hOW, hcl, hsch, hcc, hbw2⟩; clear hrl hok hRC hRL hOW hcl hsch hcc))
  have hPB2 := HPB.out.via hbw2
  have p0 := hPB2.cell 0
  have pl := hPB2.lt
  simp only [List.getElem?_toArray, List.getElem?_cons_zero, List.getElem?_cons_succ] at p0
  clear hPB2 HSU HDB HPB
  by_cases h1 : p < -1048576
  · go_wp2
    go_returns
    exact ⟨rfl, bel⟩
  · have h2 : 1048576 < p := by omega
    go_wp2
    go_returns
    exact ⟨rfl, bel⟩
theorem at_err (x : Dt) (k : Int) (p : Int) (er : Int) (w : World) (he : (er == 0) = false)
    (hSU : ∀ W, Below w.heap.size w W → Calls Tryz.prog 83 #[dtV x, .int .i64 k] W fun e w' => e = .returned (.tuple #[.slice none 0 0, .slice none 0 0, .int .i64 er]) ∧ Below W.heap.size W w') :
    Calls Tryz.prog 81 #[dtV x, .int .i64 k, .int .i64 p] w fun e w' => e = .returned (.tuple #[.slice none 0 0, .slice none 0 0, .int .i64 er]) ∧ Below w.heap.size w w' := by
  have HSU := Lib.hid hSU
  have he2 : ¬ (er = 0) := by simpa using he
  clear hSU
  unfold dtV at HSU
  unfold dtV
  have hDB := (Blk.new w 34 #[.string x.m.name, .slice x.mA x.mn x.mc, .slice x.hA x.hn x.hc, .int .i64 x.m.cover, .int .i64 x.m.aggr, .int .i64 x.m.poker, .slice x.bA x.bn x.bc, .slice x.rA x.rn x.rc, .slice x.jA x.jn x.jc, .slice x.dA x.dn x.dc, .int .i64 x.rule.num, .int .i64 x.rule.den, .int .i64 x.rule.pnum, .int .i64 x.rule.pden, .int .i64 x.rule.bnum, .int .i64 x.rule.bden, .int .i64 x.rule.lnum, .int .i64 x.rule.lden, .int .i64 x.rule.least]).alloc (.cells #[.int .i64 p] 3)
  have hW1 : Below w.heap.size w ((w.alloc (.cells #[.string x.m.name, .slice x.mA x.mn x.mc, .slice x.hA x.hn x.hc, .int .i64 x.m.cover, .int .i64 x.m.aggr, .int .i64 x.m.poker, .slice x.bA x.bn x.bc, .slice x.rA x.rn x.rc, .slice x.jA x.jn x.jc, .slice x.dA x.dn x.dc, .int .i64 x.rule.num, .int .i64 x.rule.den, .int .i64 x.rule.pnum, .int .i64 x.rule.pden, .int .i64 x.rule.bnum, .int .i64 x.rule.bden, .int .i64 x.rule.lnum, .int .i64 x.rule.lden, .int .i64 x.rule.least] 34)).alloc (.cells #[.int .i64 p] 3)) := ba_alloc (ba_alloc (Below.refl _ _) _) _
  go_enter Tryz.func81, Tryz.ntmps81
  go_upto_region 1 with fail
  generalize ((w.alloc (.cells #[.string x.m.name, .slice x.mA x.mn x.mc, .slice x.hA x.hn x.hc, .int .i64 x.m.cover, .int .i64 x.m.aggr, .int .i64 x.m.poker, .slice x.bA x.bn x.bc, .slice x.rA x.rn x.rc, .slice x.jA x.jn x.jc, .slice x.dA x.dn x.dc, .int .i64 x.rule.num, .int .i64 x.rule.den, .int .i64 x.rule.pnum, .int .i64 x.rule.pden, .int .i64 x.rule.bnum, .int .i64 x.rule.bden, .int .i64 x.rule.lnum, .int .i64 x.rule.lden, .int .i64 x.rule.least] 34)).alloc (.cells #[.int .i64 p] 3)) = W1 at *
  have HDB := Lib.hid hDB
  clear hDB
  go_wp2_with (first
    | ((with_reducible refine at_load 34 3 ?_); refine wpList_load_mid rfl 34 (.tmp 3) rfl _ _ rfl _ _ (HDB.out.via belr).range Tryz.underlying34 rfl (by kernel_rfl) ?_)
    | (go_at_call 83; (with_reducible refine (HSU.out _ belr).mono ?_); rintro e w2 ⟨rfl, hbw2⟩))
  go_returns
  exact ⟨rfl, bel⟩
theorem At_any (x : Dt) (C : List (List Int)) (n : Nat) (z : Bx) (k : Nat) (p : Int) (w : World) (hC : C.length ≤ 2000) (har : ∀ (rs : List Rod) (l : List Int) (c : SCh), (∀ (i : Nat) (hi : i < rs.length), RodOk x i rs[i]) → rs.length = n → l ∈ C → SchOk x rs l c → 0 ≤ c.area ∧ c.area ≤ 1000000)
    (hAT : ∀ W, Below w.heap.size w W → Calls Tryz.prog 81 #[dtV x, .int .i64 k, .int .i64 p] W (GivesSups x C n (S.supAt z p) W)) :
    Calls Tryz.prog 30 #[dtV x, .int .i64 k, .int .i64 p] w fun e w' => ∃ (rs : List Rod) (cs : List SCh), e = .returned (.tuple #[.int .i64 (S.valueAt p (cs.filter (S.supAt z p rs))), .int .i64 0]) ∧ rs.length = n ∧ (∀ (i : Nat) (hi : i < rs.length), RodOk x i rs[i]) ∧ cs.length = C.length ∧ (∀ (i : Nat) (hi : i < cs.length) (hj : i < C.length), SchOk x rs C[i] cs[i]) ∧ Below w.heap.size w w' := by
  have HAT := Lib.hid hAT
  have HAR := Lib.hid har
  clear hAT har
  unfold dtV at HAT
  unfold dtV
  have hDB := Blk.new w 34 #[.string x.m.name, .slice x.mA x.mn x.mc, .slice x.hA x.hn x.hc, .int .i64 x.m.cover, .int .i64 x.m.aggr, .int .i64 x.m.poker, .slice x.bA x.bn x.bc, .slice x.rA x.rn x.rc, .slice x.jA x.jn x.jc, .slice x.dA x.dn x.dc, .int .i64 x.rule.num, .int .i64 x.rule.den, .int .i64 x.rule.pnum, .int .i64 x.rule.pden, .int .i64 x.rule.bnum, .int .i64 x.rule.bden, .int .i64 x.rule.lnum, .int .i64 x.rule.lden, .int .i64 x.rule.least]
  have hW1 : Below w.heap.size w (w.alloc (.cells #[.string x.m.name, .slice x.mA x.mn x.mc, .slice x.hA x.hn x.hc, .int .i64 x.m.cover, .int .i64 x.m.aggr, .int .i64 x.m.poker, .slice x.bA x.bn x.bc, .slice x.rA x.rn x.rc, .slice x.jA x.jn x.jc, .slice x.dA x.dn x.dc, .int .i64 x.rule.num, .int .i64 x.rule.den, .int .i64 x.rule.pnum, .int .i64 x.rule.pden, .int .i64 x.rule.bnum, .int .i64 x.rule.bden, .int .i64 x.rule.lnum, .int .i64 x.rule.lden, .int .i64 x.rule.least] 34)) := ba_alloc (Below.refl _ _) _
  go_enter Tryz.func30, Tryz.ntmps30
  go_upto_region 1 with fail
  generalize (w.alloc (.cells #[.string x.m.name, .slice x.mA x.mn x.mc, .slice x.hA x.hn x.hc, .int .i64 x.m.cover, .int .i64 x.m.aggr, .int .i64 x.m.poker, .slice x.bA x.bn x.bc, .slice x.rA x.rn x.rc, .slice x.jA x.jn x.jc, .slice x.dA x.dn x.dc, .int .i64 x.rule.num, .int .i64 x.rule.den, .int .i64 x.rule.pnum, .int .i64 x.rule.pden, .int .i64 x.rule.bnum, .int .i64 x.rule.bden, .int .i64 x.rule.lnum, .int .i64 x.rule.lden, .int .i64 x.rule.least] 34)) = W1 at *
  have HDB := Lib.hid hDB
  clear hDB
  go_upto_region 2 with (first
    | ((with_reducible refine at_load 34 3 ?_); refine wpList_load_mid rfl 34 (.tmp 3) rfl _ _ rfl _ _ (HDB.out.via belr).range Tryz.underlying34 rfl (by kernel_rfl) ?_)
    | (go_at_call 81; (with_reducible refine (HAT.out _ belr).mono ?_); rintro e w2 ⟨A1, c1, rs, A2, c2, cs, b2, rfl, hrl, hok, hb1, hb2, hRC, hRL, hOW, hcl, hsch, hcc, hbw2⟩; have HRL := Lib.hid hrl; have HOK := Lib.hid hok; have HOW := Lib.hid hOW; have HCL := Lib.hid hcl; have HSC := Lib.hid hsch; clear hrl hok hRC hRL hOW hcl hsch hcc))
  have hfl := List.length_filter_le (S.supAt z p rs) cs
  have hfl2 : (cs.filter (S.supAt z p rs)).length ≤ 2000 := by rw [HCL.out] at hfl; omega
  have HV := Lib.hid (fun (W : World) (hw : Below w2.heap.size w2 W) => value_any (cs.filter (S.supAt z p rs)) A2 (cs.filter (S.supAt z p rs)).length c2 p w2.heap.size W hw.size rfl hfl2 ((own_cells HOW.out (by unfold maxLen; omega)).1.below hw) (fun c hc => by
    obtain ⟨i, hi, rfl⟩ := List.getElem_of_mem (List.mem_filter.1 hc).1
    exact HAR.out rs _ _ HOK.out HRL.out (List.getElem_mem _) (HSC.out i hi (by rw [← HCL.out]; exact hi))))
  clear hfl HDB HAT
  go_wp2_with (go_at_call 82; (with_reducible refine (HV.out _ belr).mono ?_); rintro e w3 ⟨rfl, hbw3⟩)
  go_ret2
  exact ⟨rs, cs, rfl, HRL.out, HOK.out, HCL.out, HSC.out, bel⟩
theorem At_err (x : Dt) (k : Int) (p : Int) (er : Int) (w : World) (he : (er == 0) = false)
    (hAT : ∀ W, Below w.heap.size w W → Calls Tryz.prog 81 #[dtV x, .int .i64 k, .int .i64 p] W fun e w' => e = .returned (.tuple #[.slice none 0 0, .slice none 0 0, .int .i64 er]) ∧ Below W.heap.size W w') :
    Calls Tryz.prog 30 #[dtV x, .int .i64 k, .int .i64 p] w fun e w' => e = .returned (.tuple #[.int .i64 0, .int .i64 er]) ∧ Below w.heap.size w w' := by
  have HAT := Lib.hid hAT
  have he2 : ¬ (er = 0) := by simpa using he
  clear hAT
  unfold dtV at HAT
  unfold dtV
  have hDB := Blk.new w 34 #[.string x.m.name, .slice x.mA x.mn x.mc, .slice x.hA x.hn x.hc, .int .i64 x.m.cover, .int .i64 x.m.aggr, .int .i64 x.m.poker, .slice x.bA x.bn x.bc, .slice x.rA x.rn x.rc, .slice x.jA x.jn x.jc, .slice x.dA x.dn x.dc, .int .i64 x.rule.num, .int .i64 x.rule.den, .int .i64 x.rule.pnum, .int .i64 x.rule.pden, .int .i64 x.rule.bnum, .int .i64 x.rule.bden, .int .i64 x.rule.lnum, .int .i64 x.rule.lden, .int .i64 x.rule.least]
  have hW1 : Below w.heap.size w (w.alloc (.cells #[.string x.m.name, .slice x.mA x.mn x.mc, .slice x.hA x.hn x.hc, .int .i64 x.m.cover, .int .i64 x.m.aggr, .int .i64 x.m.poker, .slice x.bA x.bn x.bc, .slice x.rA x.rn x.rc, .slice x.jA x.jn x.jc, .slice x.dA x.dn x.dc, .int .i64 x.rule.num, .int .i64 x.rule.den, .int .i64 x.rule.pnum, .int .i64 x.rule.pden, .int .i64 x.rule.bnum, .int .i64 x.rule.bden, .int .i64 x.rule.lnum, .int .i64 x.rule.lden, .int .i64 x.rule.least] 34)) := ba_alloc (Below.refl _ _) _
  go_enter Tryz.func30, Tryz.ntmps30
  go_upto_region 1 with fail
  generalize (w.alloc (.cells #[.string x.m.name, .slice x.mA x.mn x.mc, .slice x.hA x.hn x.hc, .int .i64 x.m.cover, .int .i64 x.m.aggr, .int .i64 x.m.poker, .slice x.bA x.bn x.bc, .slice x.rA x.rn x.rc, .slice x.jA x.jn x.jc, .slice x.dA x.dn x.dc, .int .i64 x.rule.num, .int .i64 x.rule.den, .int .i64 x.rule.pnum, .int .i64 x.rule.pden, .int .i64 x.rule.bnum, .int .i64 x.rule.bden, .int .i64 x.rule.lnum, .int .i64 x.rule.lden, .int .i64 x.rule.least] 34)) = W1 at *
  have HDB := Lib.hid hDB
  clear hDB
  go_wp2_with (first
    | ((with_reducible refine at_load 34 3 ?_); refine wpList_load_mid rfl 34 (.tmp 3) rfl _ _ rfl _ _ (HDB.out.via belr).range Tryz.underlying34 rfl (by kernel_rfl) ?_)
    | (go_at_call 81; (with_reducible refine (HAT.out _ belr).mono ?_); rintro e w2 ⟨rfl, hbw2⟩))
  go_ret2
  exact ⟨rfl, bel⟩
theorem rod_same {x : Dt} {i : Nat} {r r' : Rod} (h : RodOk x i r) (h' : RodOk x i r') : r.bar = r'.bar ∧ r.legs = r'.legs ∧ r.main = r'.main := by
  obtain ⟨k, j, k0, hL, he⟩ := h.ex
  obtain ⟨k', j', k0', hL', he'⟩ := h'.ex
  obtain ⟨e1, e2, e3, e4⟩ := lies_unique hL hL'
  have hl : r.legs = r'.legs := by
    rw [he, he']
    subst e1 e2
    exact congrArg (fun b => S.legsL (S.laidPath b (x.rs[k]'hL.st.lt) j)) (congrArg BarR.b e4)
  exact ⟨e4, hl, by rw [h.main, h'.main, hl]⟩
structure RodsOf (x : Dt) (n : Nat) (rs : List Rod) : Prop where
  len : rs.length = n
  ok : ∀ (i : Nat) (hi : i < rs.length), RodOk x i rs[i]
theorem rods_ex {x : Dt} (h : S.laid (bars x.bs) x.rs = true) : ∃ rs, RodsOf x (S.mains (bars x.bs) x.rs).length rs := by
  have key : ∀ m, m ≤ (S.mains (bars x.bs) x.rs).length → ∃ rs, RodsOf x m rs := by
    intro m
    induction m with
    | zero => intro _; exact ⟨[], rfl, fun i hi => absurd hi (by simp)⟩
    | succ m ih =>
      intro hm
      obtain ⟨rs, hr⟩ := ih (by omega)
      obtain ⟨k, j, k0, r, hL⟩ := lies_of h (show m < _ by omega)
      refine ⟨rs ++ [⟨r, S.legsL (S.laidPath r.b (x.rs[k]'hL.st.lt) j), none, 0, idxf (S.legsL (S.laidPath r.b (x.rs[k]'hL.st.lt) j)) S.isMainB⟩], by simp [hr.len], fun i hi => ?_⟩
      by_cases hi2 : i < rs.length
      · rw [List.getElem_append_left hi2]
        exact hr.ok i hi2
      · have hi3 : i = rs.length := by simp at hi; omega
        subst hi3
        rw [List.getElem_append_right (Nat.le_refl _)]
        simp only [Nat.sub_self, List.getElem_cons_zero]
        exact ⟨⟨k, j, k0, by rw [hr.len]; exact hL, rfl⟩, rfl⟩
  exact key _ (Nat.le_refl _)
theorem rods_at {x : Dt} {n : Nat} {rs rs' : List Rod} (h : RodsOf x n rs) (h' : RodsOf x n rs') (k : Nat) : (rs[k]? = none ∧ rs'[k]? = none) ∨ ∃ r r', rs[k]? = some r ∧ rs'[k]? = some r' ∧ r.bar = r'.bar ∧ r.legs = r'.legs ∧ r.main = r'.main := by
  by_cases hk : k < n
  · have h1 : k < rs.length := by rw [h.len]; exact hk
    have h2 : k < rs'.length := by rw [h'.len]; exact hk
    exact .inr ⟨rs[k], rs'[k], List.getElem?_eq_getElem h1, List.getElem?_eq_getElem h2, rod_same (h.ok k h1) (h'.ok k h2)⟩
  · exact .inl ⟨List.getElem?_eq_none (by rw [h.len]; omega), List.getElem?_eq_none (by rw [h'.len]; omega)⟩
theorem sizeI_same {x : Dt} {n : Nat} {rs rs' : List Rod} (h : RodsOf x n rs) (h' : RodsOf x n rs') : S.sizeI rs = S.sizeI rs' := by
  funext i
  unfold S.sizeI
  rcases rods_at h h' i.toNat with ⟨e1, e2⟩ | ⟨r, r', e1, e2, e3, _⟩
  · rw [e1, e2]
  · rw [e1, e2]
    show r.bar.b.size = r'.bar.b.size
    rw [e3]
theorem outI_same {x : Dt} {n : Nat} {rs rs' : List Rod} (h : RodsOf x n rs) (h' : RodsOf x n rs') (z : Bx) : S.outI rs z = S.outI rs' z := by
  funext i
  unfold S.outI
  rcases rods_at h h' i.toNat with ⟨e1, e2⟩ | ⟨r, r', e1, e2, e3, e4, e5⟩
  · rw [e1, e2]
  · rw [e1, e2]
    show S.outside r z = S.outside r' z
    unfold S.outside
    rw [e4, e5]
theorem spanOf_same {x : Dt} {a a' b b' : Rod} (h1 : a.bar = a'.bar) (h2 : a.legs = a'.legs) (h3 : a.main = a'.main) (h4 : b.bar = b'.bar) (h5 : b.legs = b'.legs) (h6 : b.main = b'.main) : S.spanOf x a b = S.spanOf x a' b' := by
  unfold S.spanOf S.lowOf S.upOf S.legOf
  rw [h1, h2, h3, h4, h5, h6]
def S.spanL (x : Dt) (rs : List Rod) (l : List Int) : Int × Int × Bool :=
  match rs[(l.headD 0).toNat]?, rs[(l.getLastD 0).toNat]? with
  | some a, some b => S.spanOf x a b
  | _, _ => (0, 0, false)
def S.schOf (x : Dt) (rs : List Rod) (l : List Int) : SCh := ⟨none, 0, l, (S.spanL x rs l).1, (S.spanL x rs l).2.1, (S.spanL x rs l).2.2, S.steelArea (S.sizeI rs (minBy (S.sizeI rs) l))⟩
def SCh.bare (c : SCh) : SCh := ⟨none, 0, c.l, c.lo, c.hi, c.is, c.area⟩
theorem sch_bare {x : Dt} {n : Nat} {rs rs0 : List Rod} {l : List Int} {c : SCh} (h : RodsOf x n rs) (h0 : RodsOf x n rs0) (hc : SchOk x rs l c) : c.bare = S.schOf x rs0 l := by
  obtain ⟨a, b, h1, h2, h3⟩ := hc.span
  have hsp : S.spanL x rs0 l = (c.lo, c.hi, c.is) := by
    unfold S.spanL
    rcases rods_at h h0 (l.headD 0).toNat with ⟨e1, _⟩ | ⟨r, r', e1, e2, e3, e4, e5⟩
    · rw [h1] at e1; cases e1
    · rcases rods_at h h0 (l.getLastD 0).toNat with ⟨f1, _⟩ | ⟨s, s', f1, f2, f3, f4, f5⟩
      · rw [h2] at f1; cases f1
      · rw [h1] at e1
        rw [h2] at f1
        injection e1 with e1
        injection f1 with f1
        subst e1 f1
        rw [e2, f2, h3]
        exact (spanOf_same e3 e4 e5 f3 f4 f5).symm
  unfold SCh.bare S.schOf
  rw [hsp, hc.bars, hc.area, sizeI_same h h0]
theorem chs_bare {x : Dt} {n : Nat} {rs rs0 : List Rod} {C : List (List Int)} {cs : List SCh} (h : RodsOf x n rs) (h0 : RodsOf x n rs0) (hl : cs.length = C.length) (hc : ∀ (i : Nat) (hi : i < cs.length) (hj : i < C.length), SchOk x rs C[i] cs[i]) : cs.map SCh.bare = C.map (S.schOf x rs0) := by
  apply List.ext_getElem
  · simp [hl]
  · intro i h1 h2
    rw [List.getElem_map, List.getElem_map]
    rw [List.length_map] at h1 h2
    exact sch_bare h h0 (hc i h1 h2)
theorem filter_bare (p q : SCh → Bool) (h : ∀ c, p c = q c.bare) (cs : List SCh) : (cs.filter p).map SCh.bare = (cs.map SCh.bare).filter q := by
  induction cs with
  | nil => rfl
  | cons c t ih =>
    rw [List.filter_cons, List.map_cons, List.filter_cons, ← h c]
    split
    · rw [List.map_cons, ih]
    · exact ih
theorem value_bare (p : Int) (cs : List SCh) : S.valueAt p (cs.map SCh.bare) = S.valueAt p cs := by
  unfold S.valueAt
  rw [List.foldl_map]
  rfl
theorem sup_bare {x : Dt} {n : Nat} {rs rs0 : List Rod} (h : RodsOf x n rs) (h0 : RodsOf x n rs0) (z : Bx) (c : SCh) : S.sup rs z c = S.sup rs0 z c.bare := by
  unfold S.sup SCh.bare
  rw [outI_same h h0]
theorem supAt_bare {x : Dt} {n : Nat} {rs rs0 : List Rod} (h : RodsOf x n rs) (h0 : RodsOf x n rs0) (z : Bx) (p : Int) (c : SCh) : S.supAt z p rs c = S.supAt z p rs0 c.bare := by
  unfold S.supAt
  rw [sup_bare h h0]
  rfl
def S.supplyAt (x : Dt) (rs : List Rod) (C : List (List Int)) (z : Bx) (p : Int) : Int := S.valueAt p ((C.map (S.schOf x rs)).filter (S.supAt z p rs))
theorem supplyAt_same {x : Dt} {n : Nat} {rs rs0 : List Rod} {C : List (List Int)} {cs : List SCh} (h : RodsOf x n rs) (h0 : RodsOf x n rs0) (hl : cs.length = C.length) (hc : ∀ (i : Nat) (hi : i < cs.length) (hj : i < C.length), SchOk x rs C[i] cs[i]) (z : Bx) (p : Int) :
    S.valueAt p (cs.filter (S.supAt z p rs)) = S.supplyAt x rs0 C z p := by
  unfold S.supplyAt
  rw [← value_bare, filter_bare _ _ (supAt_bare h h0 z p), chs_bare h h0 hl hc]
theorem ends2_bare (cs : List SCh) : S.ends2 (cs.map SCh.bare) = S.ends2 cs := by
  unfold S.ends2
  rw [List.flatMap_map]
  rfl
theorem ofL_bare (cs : List SCh) : S.ofL (cs.map SCh.bare) = S.ofL cs := by
  unfold S.ofL S.places
  rw [ends2_bare]
  unfold S.ofF
  simp only [value_bare]
def S.supplyOf (x : Dt) (rs : List Rod) (C : List (List Int)) (z : Bx) : List Stp := S.shortSt (S.ofL ((C.map (S.schOf x rs)).filter (S.sup rs z)))
theorem supplyOf_same {x : Dt} {n : Nat} {rs rs0 : List Rod} {C : List (List Int)} {cs : List SCh} (h : RodsOf x n rs) (h0 : RodsOf x n rs0) (hl : cs.length = C.length) (hc : ∀ (i : Nat) (hi : i < cs.length) (hj : i < C.length), SchOk x rs C[i] cs[i]) (z : Bx) :
    S.shortSt (S.ofL (cs.filter (S.sup rs z))) = S.supplyOf x rs0 C z := by
  unfold S.supplyOf
  rw [← ofL_bare, filter_bare _ _ (sup_bare h h0 z), chs_bare h h0 hl hc]
def ChIn (C : List (List Int)) (n : Nat) : Prop := ∀ l, l ∈ C → 0 < l.length ∧ l.length ≤ 2001 ∧ ∀ i, i ∈ l → 0 ≤ i ∧ i < (n : Int)
theorem sizeI_at {rs : List Rod} {i : Int} (hk : i.toNat < rs.length) : S.sizeI rs i = rs[i.toNat].bar.b.size := by
  unfold S.sizeI
  rw [List.getElem?_eq_getElem hk]
theorem area_bd {x : Dt} {n : Nat} {C : List (List Int)} (hI : ChIn C n) (hla : S.laid (bars x.bs) x.rs = true) (rs : List Rod) (l : List Int) (c : SCh) (h : RodsOf x n rs) (hl : l ∈ C) (hc : SchOk x rs l c) : 0 ≤ c.area ∧ c.area ≤ 1000000 := by
  obtain ⟨h0, _, h1⟩ := hI l hl
  have hm := minBy_mem (S.sizeI rs) (xs := l) (k := l.length) h0 (Nat.le_refl _)
  rw [List.take_length] at hm
  obtain ⟨h2, h3⟩ := h1 _ hm
  have hk : (minBy (S.sizeI rs) l).toNat < rs.length := by rw [h.len]; omega
  have hs : S.sizeI rs (minBy (S.sizeI rs) l) = rs[(minBy (S.sizeI rs) l).toNat].bar.b.size := sizeI_at hk
  rw [hc.area, hs]
  have hb := bar_size (rod_fit (h.ok _ hk) hla).bar
  generalize rs[(minBy (S.sizeI rs) l).toNat].bar.b.size = d at hb
  rcases size_cases hb with h | h | h | h | h | h | h | h | h <;> (subst h; decide)
theorem compactUpTo_inv (d : Array Int) (hs : ∀ i j, i < j → j < d.size → d[i]! ≤ d[j]!) : ∀ m, m ≤ d.size → (Go.Lib.compactUpTo d m).Pairwise (· < ·) ∧ (∀ x, x ∈ Go.Lib.compactUpTo d m → ∃ j, j < m ∧ x = d[j]!) ∧ (∀ j, j < m → d[j]! ∈ Go.Lib.compactUpTo d m) := by
  intro m
  induction m with
  | zero => intro _; exact ⟨by simp [Go.Lib.compactUpTo], fun x hx => by simp [Go.Lib.compactUpTo] at hx, fun j hj => by omega⟩
  | succ m ih =>
    intro hm
    obtain ⟨h1, h2, h3⟩ := ih (by omega)
    rw [Go.Lib.compactUpTo_succ]
    cases hk : Go.Lib.keeps d m
    · simp only [Bool.false_eq_true, if_false, List.append_nil]
      have hk2 : m ≠ 0 ∧ d[m]! = d[m - 1]! := by
        unfold Go.Lib.keeps at hk
        rw [decide_eq_false_iff_not] at hk
        refine ⟨fun h => hk (.inl h), Classical.byContradiction fun h => hk (.inr h)⟩
      refine ⟨h1, fun x hx => ?_, fun j hj => ?_⟩
      · obtain ⟨j, hj, rfl⟩ := h2 x hx
        exact ⟨j, by omega, rfl⟩
      · by_cases hjm : j = m
        · subst hjm
          rw [hk2.2]
          exact h3 _ (by omega)
        · exact h3 j (by omega)
    · simp only [if_true]
      have hlt : ∀ j, j < m → d[j]! < d[m]! := fun j hj => by
        unfold Go.Lib.keeps at hk
        rw [decide_eq_true_eq] at hk
        rcases hk with h | h
        · omega
        · have h4 := hs (m - 1) m (by omega) (by omega)
          by_cases hjm : j = m - 1
          · subst hjm
            have : d[m - 1]! ≠ d[m]! := fun he => h he.symm
            omega
          · have h5 := hs j (m - 1) (by omega) (by omega)
            have : d[m - 1]! ≠ d[m]! := fun he => h he.symm
            omega
      refine ⟨List.pairwise_append.2 ⟨h1, by simp, fun x hx y hy => ?_⟩, fun x hx => ?_, fun j hj => ?_⟩
      · rw [List.mem_singleton] at hy
        subst hy
        obtain ⟨j, hj, rfl⟩ := h2 x hx
        exact hlt j hj
      · rcases List.mem_append.1 hx with hx | hx
        · obtain ⟨j, hj, rfl⟩ := h2 x hx
          exact ⟨j, by omega, rfl⟩
        · rw [List.mem_singleton] at hx
          exact ⟨m, by omega, hx⟩
      · by_cases hjm : j = m
        · subst hjm; simp
        · exact List.mem_append_left _ (h3 j (by omega))
theorem sortI_mem {zs : List Int} {x : Int} : x ∈ S.sortI zs ↔ x ∈ zs := by unfold S.sortI; exact List.mem_mergeSort
theorem sortI_sorted (zs : List Int) : (S.sortI zs).Pairwise (· ≤ ·) := by
  have := List.pairwise_mergeSort (le := fun x y : Int => decide (x ≤ y)) (fun a b c h1 h2 => by simp only [decide_eq_true_eq] at *; omega) (fun a b => by simp only [Bool.or_eq_true, decide_eq_true_eq]; omega) zs
  unfold S.sortI
  exact this.imp (fun h => by simpa using h)
theorem places_inv (l : List SCh) : (S.places l).Pairwise (· < ·) ∧ ∀ x, x ∈ S.places l ↔ x ∈ S.ends2 l := by
  have hs : ∀ i j, i < j → j < (S.sortI (S.ends2 l)).toArray.size → (S.sortI (S.ends2 l)).toArray[i]! ≤ (S.sortI (S.ends2 l)).toArray[j]! := fun i j hij hj => by
    rw [getElem!_pos _ i (by omega), getElem!_pos _ j hj]
    simp only [List.getElem_toArray]
    exact List.pairwise_iff_getElem.1 (sortI_sorted (S.ends2 l)) i j _ _ hij
  obtain ⟨h1, h2, h3⟩ := compactUpTo_inv _ hs (S.sortI (S.ends2 l)).length (by simp)
  refine ⟨h1, fun x => ⟨fun hx => ?_, fun hx => ?_⟩⟩
  · obtain ⟨j, hj, rfl⟩ := h2 x hx
    rw [getElem!_pos _ j (by simpa using hj)]
    simp only [List.getElem_toArray]
    exact sortI_mem.1 (List.getElem_mem _)
  · obtain ⟨j, hj, rfl⟩ := List.getElem_of_mem (sortI_mem.2 hx)
    have := h3 j hj
    rw [getElem!_pos _ j (by simpa using hj)] at this
    unfold S.places Go.Lib.compact
    simpa using this
theorem ofF_inv (l : List SCh) (ps : List Int) : ((S.ofF l ps).2.map (·.fro)).Sublist ps ∧ ∀ s, s ∈ (S.ofF l ps).2 → s.val = S.valueAt s.fro l := by
  suffices hs : ∀ (ps : List Int) (x : Int × List Stp), (((ps.foldl (fun x p => if S.valueAt p l = x.1 then x else (S.valueAt p l, x.2 ++ [⟨p, S.valueAt p l⟩])) x).2.map (·.fro)).Sublist (x.2.map (·.fro) ++ ps)) ∧ ((∀ s, s ∈ x.2 → s.val = S.valueAt s.fro l) → ∀ s, s ∈ (ps.foldl (fun x p => if S.valueAt p l = x.1 then x else (S.valueAt p l, x.2 ++ [⟨p, S.valueAt p l⟩])) x).2 → s.val = S.valueAt s.fro l) by
    have := hs ps (0, [])
    exact ⟨by simpa [S.ofF] using this.1, this.2 (fun s hs => by cases hs)⟩
  intro ps
  induction ps with
  | nil => intro x; exact ⟨by simp, fun h => h⟩
  | cons a t ih =>
    intro x
    rw [List.foldl_cons]
    obtain ⟨h1, h2⟩ := ih (if S.valueAt a l = x.1 then x else (S.valueAt a l, x.2 ++ [⟨a, S.valueAt a l⟩]))
    refine ⟨h1.trans ?_, fun h => h2 ?_⟩
    · split
      · exact List.Sublist.append (List.Sublist.refl _) (List.sublist_cons_self _ _)
      · simp
    · split
      · exact h
      · intro s hs
        rcases List.mem_append.1 hs with hs | hs
        · exact h s hs
        · rw [List.mem_singleton] at hs
          subst hs
          rfl
theorem steps_ok (l : List SCh) (hlen : l.length ≤ 100) (har : ∀ c, c ∈ l → 0 ≤ c.area ∧ c.area ≤ 1000000) (hpl : ∀ c, c ∈ l → S.place c.lo = true ∧ S.place c.hi = true) : S.steps (S.ofL l) = true := by
  obtain ⟨h1, h2⟩ := ofF_inv l (S.places l)
  obtain ⟨h3, h4⟩ := places_inv l
  have hl : (S.ofL l).length ≤ 200 := by
    have a := ofF_len l (S.places l)
    have b := places_len l
    unfold S.ofL
    omega
  refine rng_yes (p := S.stepAt (S.ofL l)) (by simpa using hl) (fun j hj => ?_)
  have hpw : ((S.ofL l).map (·.fro)).Pairwise (· < ·) := h3.sublist h1
  have hm := List.getElem_mem hj
  have hv := h2 _ hm
  have hp : (S.ofL l)[j].fro ∈ S.places l := h1.subset (List.mem_map.2 ⟨_, hm, rfl⟩)
  have hpp : S.place (S.ofL l)[j].fro = true := by
    have := (h4 _).1 hp
    unfold S.ends2 at this
    obtain ⟨c, hc, hx⟩ := List.mem_flatMap.1 this
    obtain ⟨e1, e2⟩ := hpl c hc
    simp only [List.mem_cons, List.not_mem_nil, or_false] at hx
    rcases hx with hx | hx
    · rw [hx]; exact e1
    · rw [hx]; exact e2
  have hvb := value_bd (S.ofL l)[j].fro har
  unfold S.stepAt
  rw [List.getElem?_eq_getElem hj]
  simp only [Bool.and_eq_true, decide_eq_true_eq]
  refine ⟨⟨⟨hpp, by rw [hv]; omega⟩, by rw [hv]; omega⟩, ?_⟩
  cases j with
  | zero => rfl
  | succ i =>
    simp only []
    rw [List.getElem?_eq_getElem (show i < (S.ofL l).length by omega)]
    simp only [decide_eq_true_eq]
    have := List.pairwise_iff_getElem.1 hpw i (i + 1) (by simp; omega) (by simp; omega) (by omega)
    simpa using this
theorem span_in {x : Dt} {a b : Rod} {lo hi : Int} (hr : S.rule x.rule = true) (ha : RodFit x a) (hb : RodFit x b) (h : (lo, hi, true) = S.spanOf x a b) : -1048576 ≤ lo ∧ lo < hi ∧ hi ≤ 1048576 := by
  unfold S.spanOf at h
  split at h
  · cases h
  · rename_i h1
    split at h
    · cases h
    · rename_i h2
      split at h
      · rename_i h3
        simp only [Prod.mk.injEq, and_true] at h
        obtain ⟨rfl, rfl⟩ := h
        obtain ⟨ja, hja, hjae, _⟩ := idxf_some (xs := a.legs) (p := S.isMainB) (by rw [← ha.main]; omega)
        obtain ⟨jb, hjb, hjbe, _⟩ := idxf_some (xs := b.legs) (p := S.isMainB) (by rw [← hb.main]; omega)
        have hLa : S.legOf a = a.legs[ja] := by unfold S.legOf; rw [ha.main, hjae]; simp [List.getD_eq_getElem?_getD, hja]
        have hLb : S.legOf b = b.legs[jb] := by unfold S.legOf; rw [hb.main, hjbe]; simp [List.getD_eq_getElem?_getD, hjb]
        have e1 := boxOk_x (ha.legs _ (List.getElem_mem hja))
        have e2 := boxOk_x (hb.legs _ (List.getElem_mem hjb))
        rw [← hLa] at e1
        rw [← hLb] at e2
        have e3 := endLen_bd x a hr ha (S.legOf a).lo
        have e4 := endLen_bd x b hr hb (S.legOf b).hi
        change 0 ≤ S.lowOf x a ∧ _ at e3
        change 0 ≤ S.upOf x b ∧ _ at e4
        omega
      · cases h
theorem sch_in {x : Dt} {n : Nat} {rs : List Rod} {l : List Int} {c : SCh} (hla : S.laid (bars x.bs) x.rs = true) (hr : S.rule x.rule = true) (h : RodsOf x n rs) (hc : SchOk x rs l c) (hi : c.is = true) : -1048576 ≤ c.lo ∧ c.lo < c.hi ∧ c.hi ≤ 1048576 := by
  obtain ⟨a, b, h1, h2, h3⟩ := hc.span
  rw [hi] at h3
  obtain ⟨k1, e1⟩ := List.getElem?_eq_some_iff.1 h1
  obtain ⟨k2, e2⟩ := List.getElem?_eq_some_iff.1 h2
  exact span_in hr (e1 ▸ rod_fit (h.ok _ k1) hla) (e2 ▸ rod_fit (h.ok _ k2) hla) h3
theorem of_steps {x : Dt} {n : Nat} {C : List (List Int)} (hC : C.length ≤ 100) (hI : ChIn C n) (hla : S.laid (bars x.bs) x.rs = true) (hr : S.rule x.rule = true) (z : Bx) (rs : List Rod) (cs : List SCh) (h : RodsOf x n rs) (hl : cs.length = C.length) (hc : ∀ (i : Nat) (hi : i < cs.length) (hj : i < C.length), SchOk x rs C[i] cs[i]) :
    S.steps (S.ofL (cs.filter (S.sup rs z))) = true := by
  have hm : ∀ c, c ∈ cs → ∃ l, l ∈ C ∧ SchOk x rs l c := fun c hc' => by
    obtain ⟨i, hi, rfl⟩ := List.getElem_of_mem hc'
    exact ⟨_, List.getElem_mem _, hc i hi (by rw [← hl]; exact hi)⟩
  refine steps_ok _ ?_ (fun c hc' => ?_) (fun c hc' => ?_)
  · have := List.length_filter_le (S.sup rs z) cs
    omega
  · obtain ⟨l, h1, h2⟩ := hm c (List.mem_filter.1 hc').1
    exact area_bd hI hla rs l c h h1 h2
  · obtain ⟨h0, h5⟩ := List.mem_filter.1 hc'
    obtain ⟨l, h1, h2⟩ := hm c h0
    have his : c.is = true := by
      unfold S.sup at h5
      rw [Bool.and_eq_true] at h5
      exact h5.1
    obtain ⟨a1, a2, a3⟩ := sch_in hla hr h h2 his
    unfold S.place
    simp only [Bool.and_eq_true, decide_eq_true_eq]
    omega
def S.overP (rs : List Rod) (p i : Int) : Bool := match rs[i.toNat]? with | some r => decide ((S.legOf r).lo.x ≤ p) && decide (p ≤ (S.legOf r).hi.x) | none => false
def S.barsL (rs : List Rod) (p : Int) (l : List SCh) : List Int := l.flatMap fun c => c.l.filter (S.overP rs p)
theorem barsL_next (rs : List Rod) (p : Int) {l : List SCh} {k : Nat} (h : k < l.length) : S.barsL rs p (l.take (k + 1)) = S.barsL rs p (l.take k) ++ l[k].l.filter (S.overP rs p) := by
  have e : l.take (k + 1) = l.take k ++ [l[k]] := by rw [List.take_add_one, List.getElem?_eq_getElem h]; rfl
  unfold S.barsL
  rw [e, List.flatMap_append]
  simp
theorem barsL_len (rs : List Rod) (p : Int) (l : List SCh) (h : ∀ c, c ∈ l → c.l.length ≤ 2001) : (S.barsL rs p l).length ≤ l.length * 2001 := by
  unfold S.barsL
  induction l with
  | nil => simp
  | cons a t ih =>
    rw [List.flatMap_cons, List.length_append, List.length_cons]
    have h1 := List.length_filter_le (S.overP rs p) a.l
    have h2 := h a (by simp)
    have h3 := ih (fun c hc => h c (by simp [hc]))
    omega
set_option maxRecDepth 20000 in
set_option maxHeartbeats 8000000 in
theorem Bars_any (x : Dt) (C : List (List Int)) (n : Nat) (z : Bx) (k : Nat) (p : Int) (w : World) (hC : C.length ≤ 100) (hn : n ≤ 2000) (hI : ChIn C n) (hla : S.laid (bars x.bs) x.rs = true)
    (hAT : ∀ W, Below w.heap.size w W → Calls Tryz.prog 81 #[dtV x, .int .i64 k, .int .i64 p] W (GivesSups x C n (S.supAt z p) W)) :
    Calls Tryz.prog 36 #[dtV x, .int .i64 k, .int .i64 p] w fun e w' => ∃ (A : Option Addr) (c : Nat) (rs : List Rod) (cs : List SCh), e = .returned (.tuple #[.slice A (S.sortI (S.barsL rs p (cs.filter (S.supAt z p rs)))).length c, .int .i64 0]) ∧ RodsOf x n rs ∧ cs.length = C.length ∧ (∀ (i : Nat) (hi : i < cs.length) (hj : i < C.length), SchOk x rs C[i] cs[i]) ∧
      w'.ownsRow w.heap.size 3 1 (.slice A (S.sortI (S.barsL rs p (cs.filter (S.supAt z p rs)))).length c) (S.sortI (S.barsL rs p (cs.filter (S.supAt z p rs)))).length (i64s (S.sortI (S.barsL rs p (cs.filter (S.supAt z p rs))))) ∧ Below w.heap.size w w' := by
  have HAT := Lib.hid hAT
  have HI := Lib.hid hI
  clear hAT hI
  unfold dtV at HAT
  unfold dtV
  have hDB := Blk.new w 34 #[.string x.m.name, .slice x.mA x.mn x.mc, .slice x.hA x.hn x.hc, .int .i64 x.m.cover, .int .i64 x.m.aggr, .int .i64 x.m.poker, .slice x.bA x.bn x.bc, .slice x.rA x.rn x.rc, .slice x.jA x.jn x.jc, .slice x.dA x.dn x.dc, .int .i64 x.rule.num, .int .i64 x.rule.den, .int .i64 x.rule.pnum, .int .i64 x.rule.pden, .int .i64 x.rule.bnum, .int .i64 x.rule.bden, .int .i64 x.rule.lnum, .int .i64 x.rule.lden, .int .i64 x.rule.least]
  have hW1 : Below w.heap.size w (w.alloc (.cells #[.string x.m.name, .slice x.mA x.mn x.mc, .slice x.hA x.hn x.hc, .int .i64 x.m.cover, .int .i64 x.m.aggr, .int .i64 x.m.poker, .slice x.bA x.bn x.bc, .slice x.rA x.rn x.rc, .slice x.jA x.jn x.jc, .slice x.dA x.dn x.dc, .int .i64 x.rule.num, .int .i64 x.rule.den, .int .i64 x.rule.pnum, .int .i64 x.rule.pden, .int .i64 x.rule.bnum, .int .i64 x.rule.bden, .int .i64 x.rule.lnum, .int .i64 x.rule.lden, .int .i64 x.rule.least] 34)) := ba_alloc (Below.refl _ _) _
  go_enter Tryz.func36, Tryz.ntmps36
  go_upto_region 1 with fail
  generalize (w.alloc (.cells #[.string x.m.name, .slice x.mA x.mn x.mc, .slice x.hA x.hn x.hc, .int .i64 x.m.cover, .int .i64 x.m.aggr, .int .i64 x.m.poker, .slice x.bA x.bn x.bc, .slice x.rA x.rn x.rc, .slice x.jA x.jn x.jc, .slice x.dA x.dn x.dc, .int .i64 x.rule.num, .int .i64 x.rule.den, .int .i64 x.rule.pnum, .int .i64 x.rule.pden, .int .i64 x.rule.bnum, .int .i64 x.rule.bden, .int .i64 x.rule.lnum, .int .i64 x.rule.lden, .int .i64 x.rule.least] 34)) = W1 at *
  have HDB := Lib.hid hDB
  clear hDB
  go_upto_region 2 with (first
    | ((with_reducible refine at_load 34 3 ?_); refine wpList_load_mid rfl 34 (.tmp 3) rfl _ _ rfl _ _ (HDB.out.via belr).range Tryz.underlying34 rfl (by kernel_rfl) ?_)
    | (go_at_call 81; (with_reducible refine (HAT.out _ belr).mono ?_); rintro e w2 ⟨A1, c1, rs, A2, c2, cs, b2, rfl, hrl, hok, hb1, hb2, hRC, hRL, hOW, hcl, hsch, hcc, hbw2⟩; have HRL := Lib.hid hrl; have HOK := Lib.hid hok; have HRC := Lib.hid hRC; have HRG := Lib.hid hRL; have HOW := Lib.hid hOW; have HCL := Lib.hid hcl; have HSC := Lib.hid hsch; have HCC := Lib.hid hcc; clear hrl hok hRC hRL hOW hcl hsch hcc))
  have hw2 : Below w.heap.size w w2 := ba_via hbw2 hW1
  have hs2 := hw2.size
  have hfl := List.length_filter_le (S.supAt z p rs) cs
  have hfl2 : (cs.filter (S.supAt z p rs)).length ≤ 100 := by rw [HCL.out] at hfl; omega
  -- what is known of a kept chain's bars
  have HKB := Lib.hid (fun (c : SCh) (hc : c ∈ cs.filter (S.supAt z p rs)) => show c.l.length ≤ 2001 ∧ Cells w2 b2 c.A (i64s c.l) ∧ ∀ i, i ∈ c.l → ∃ (m : Nat) (r : Rod), i = (m : Int) ∧ rs[m]? = some r ∧ RodFit x r ∧ r ∈ rs ∧ ¬ r.main < 0 from by
    obtain ⟨h0, h5⟩ := List.mem_filter.1 hc
    obtain ⟨q, hq, rfl⟩ := List.getElem_of_mem h0
    have hqC : q < C.length := by rw [← HCL.out]; exact hq
    have hSq := HSC.out q hq hqC
    obtain ⟨_, h2, h3⟩ := HI.out C[q] (List.getElem_mem hqC)
    rw [← hSq.bars] at h2 h3
    refine ⟨h2, HCC.out _ h0, fun i hi => ?_⟩
    obtain ⟨h6, h7⟩ := h3 i hi
    obtain ⟨m, rfl⟩ := Int.eq_ofNat_of_zero_le h6
    have hm : m < rs.length := by have := HRL.out; omega
    refine ⟨m, rs[m], rfl, List.getElem?_eq_getElem hm, rod_fit (HOK.out m hm) hla, List.getElem_mem hm, fun hneg => ?_⟩
    unfold S.supAt S.sup at h5
    simp only [Bool.and_eq_true, Bool.not_eq_true'] at h5
    have h9 : S.outI rs z (m : Int) = true := by
      unfold S.outI
      rw [Int.toNat_natCast, List.getElem?_eq_getElem hm]
      show S.outside rs[m] z = true
      unfold S.outside
      rw [if_pos hneg]
    obtain ⟨u, hu, he⟩ := List.getElem_of_mem hi
    have h8 : anyb cs[q].l (S.outI rs z) = true := anyb_of (p := S.outI rs z) hu (by rw [he]; exact h9)
    rw [h5.2.2] at h8
    cases h8)
  have HCS := Lib.hid (own_cells HOW.out (by unfold maxLen; omega)).1
  have HRO := Lib.hid (show RodsOf x n rs from ⟨HRL.out, HOK.out⟩)
  have HEX := Lib.hid (show cs.length = C.length ∧ ∀ (i : Nat) (hi : i < cs.length) (hj : i < C.length), SchOk x rs C[i] cs[i] from ⟨HCL.out, HSC.out⟩)
  have HFL := Lib.hid (fun (y : Nat) => barsL_len rs p ((cs.filter (S.supAt z p rs)).take y) (fun c hc => (HKB.out c (List.mem_of_mem_take hc)).1))
  clear hfl HCL HSC HCC HOK HAT HDB HOW HI
  generalize hclg : cs.filter (S.supAt z p rs) = cl at *
  have HCLG := Lib.hid hclg
  clear hclg
  have hrl2 : rs.length ≤ 2000 := by have := HRL.out; omega
  have hcli : (cl.length : Int) ≤ 100 := by omega
  have hb22 : b2 ≤ w2.heap.size := hb2
  go_wp2
  go_loopw [11, 30] (fun v i wr => ∃ q : Nat, q ≤ cl.length ∧ i = .int .i64 q ∧ wr.ownsRow w2.heap.size 3 1 v (S.barsL rs p (cl.take q)).length (i64s (S.barsL rs p (cl.take q))) ∧ Below w2.heap.size w2 wr) (fun _ i _ => cl.length - (intOf i).toNat)
  case atStart => exact ⟨0, Nat.zero_le _, rfl, World.ownsRow_nil _ _ _ _, Below.refl _ _⟩
  case round =>
    obtain ⟨q, hq, rfl, hO, hbr⟩ := hrel
    have HO := Lib.hid hO
    clear hO
    by_cases hlt : q < cl.length
    · have hqi : (q : Int) < cl.length := by omega
      have hCS := HCS.out.below hbr
      obtain ⟨b3, o3, hA3, hbb3, hxx⟩ := hCS.at_ (by rw [flat_len schC 5 schC_len]; omega)
      clear hxx
      subst hA3
      have c0 := hCS.row0 schC_len hlt rfl
      have c1' := hCS.rowj schC_len hlt 1 rfl
      have c2' := hCS.rowj schC_len hlt 2 rfl
      have c3' := hCS.rowj schC_len hlt 3 rfl
      have c4' := hCS.rowj schC_len hlt 4 rfl
      have hsr := hbr.size
      have hb3l : b3 < wr.heap.size := by omega
      have HNX := Lib.hid (barsL_next rs p hlt)
      obtain ⟨hll, hcc, hki⟩ := HKB.out cl[q] (List.getElem_mem hlt)
      have HCB := Lib.hid hcc
      have HKI := Lib.hid hki
      have hfq := HFL.out q
      rw [List.length_take] at hfq
      have hfq2 : (S.barsL rs p (cl.take q)).length ≤ 200100 := by omega
      clear hCS hcc hki hfq
      generalize cl[q] = c at *
      go_upto_region 8 with fail
      have hC12 := Blk.new wr 152 #[.slice c.A c.l.length c.c, .int .i64 c.lo, .int .i64 c.hi, .bool c.is, .int .i64 c.area]
      have hb12 : Below wr.heap.size wr (wr.alloc (.cells #[.slice c.A c.l.length c.c, .int .i64 c.lo, .int .i64 c.hi, .bool c.is, .int .i64 c.area] 152)) := ba_alloc (Below.refl _ _) _
      generalize (wr.alloc (.cells #[.slice c.A c.l.length c.c, .int .i64 c.lo, .int .i64 c.hi, .bool c.is, .int .i64 c.area] 152)) = W12 at *
      clear c0 c1' c2' c3' c4'
      have h12s := hb12.size
      have HO12 := Lib.hid (own_kept HO.out (fun k hk => hb12.block k (HO.out.lt k hk).2))
      have HB12 := Lib.hid (hbr.trans (hb12.mono hsr))
      have t0 := hC12.cell 0
      have tl := hC12.lt
      simp only [List.getElem?_toArray, List.getElem?_cons_zero, List.getElem?_cons_succ] at t0
      clear hC12 hb12 HO
      obtain ⟨lc, hlc⟩ : ∃ lc, lc = c.l.length := ⟨_, rfl⟩
      have HLC := Lib.hid hlc
      rw [← hlc] at hll t0
      clear hlc
      go_wp2
      go_loopw [11, 37] (fun v i wr => ∃ m : Nat, m ≤ lc ∧ i = .int .i64 m ∧ wr.ownsRow w2.heap.size 3 1 v (S.barsL rs p (cl.take q) ++ (c.l.take m).filter (S.overP rs p)).length (i64s (S.barsL rs p (cl.take q) ++ (c.l.take m).filter (S.overP rs p))) ∧ Below w2.heap.size w2 wr) (fun _ i _ => lc - (intOf i).toNat)
      case atStart => exact ⟨0, Nat.zero_le _, rfl, by simpa using HO12.out, HB12.out⟩
      case round =>
        obtain ⟨m, hm, rfl, hO, hby⟩ := hrel
        have HO := Lib.hid hO
        clear hO
        by_cases hlm : m < lc
        · have hmx : m < c.l.length := by rw [← HLC.out]; exact hlm
          have hmi : (m : Int) < lc := by omega
          have hsy := hby.size
          obtain ⟨bI, oI, hAI, hbI, hcI⟩ := ((HCB.out.mono hb22).below hby).at_ (by simp; omega)
          rw [hAI]
          have hck := hcI m _ (i64s_get hmx)
          obtain ⟨r, rod, hre, hrg, hrf, hrm, hrn⟩ := HKI.out c.l[m] (List.getElem_mem hmx)
          have HFN := Lib.hid (filter_next (S.overP rs p) hmx)
          have hov : S.overP rs p c.l[m] = (decide ((S.legOf rod).lo.x ≤ p) && decide (p ≤ (S.legOf rod).hi.x)) := by unfold S.overP; rw [hre, Int.toNat_natCast, hrg]
          rw [hov] at HFN
          rw [hre] at hck HFN
          have hfm := List.length_filter_le (S.overP rs p) (c.l.take m)
          rw [List.length_take] at hfm
          have hol : (S.barsL rs p (cl.take q) ++ (c.l.take m).filter (S.overP rs p)).length ≤ 300000 := by rw [List.length_append]; omega
          clear hcI hre hov hfm
          have hbIw : bI < wr.heap.size := by omega
          obtain ⟨hrx, hrd⟩ := List.getElem?_eq_some_iff.1 hrg
          obtain ⟨bR, oR, hAR, hbR, hxx⟩ := ((HRC.out.mono hb22).below hby).at_ (by rw [flat_len rodC 7 rodC_len]; omega)
          clear hxx
          have hRC := ((HRC.out.mono hb22).below hby)
          rw [hAR] at hRC ⊢
          have m0 := hRC.row0 rodC_len hrx rfl
          have m1 := hRC.rowj rodC_len hrx 1 rfl
          have m2 := hRC.rowj rodC_len hrx 2 rfl
          have m3 := hRC.rowj rodC_len hrx 3 rfl
          have m4 := hRC.rowj rodC_len hrx 4 rfl
          have m5 := hRC.rowj rodC_len hrx 5 rfl
          have m6 := hRC.rowj rodC_len hrx 6 rfl
          rw [hrd] at m0 m1 m2 m3 m4 m5 m6
          have hbRw : bR < wr.heap.size := by omega
          have hrli : (r : Int) < rs.length := by omega
          obtain ⟨ja, hja, hjae, hjam⟩ := idxf_some (xs := rod.legs) (p := S.isMainB) (by rw [← hrf.main]; omega)
          have hma : rod.main = (ja : Int) := hrf.main.trans hjae
          have hLa : S.legOf rod = rod.legs[ja] := by unfold S.legOf; rw [hma]; simp [List.getD_eq_getElem?_getD, hja]
          have HG1 := Lib.hid (rleg_any rod ja (S.legOf rod) w2.heap.size wr hsy (by rw [hLa]; exact List.getElem?_eq_getElem hja) hma (((HRG.out rod hrm).mono hb22).below hby))
          unfold boxV rodV at HG1
          have HAI := Lib.hid hAI
          have HAR := Lib.hid hAR
          clear hja hjae hjam hma hLa hRC hrd hrg hrf hrm hrn hAI hAR
          generalize S.legOf rod = L at *
          go_upto_region 12 with (go_at_call 90; (with_reducible refine HG1.out.mono ?_); rintro e w5 ⟨rfl, hb5⟩)
          have hS := Blk.new w5 89 #[.int .i64 L.lo.x, .int .i64 L.lo.y, .int .i64 L.lo.z, .int .i64 L.hi.x, .int .i64 L.hi.y, .int .i64 L.hi.z]
          have hb6 : Below wr.heap.size wr (w5.alloc (.cells #[.int .i64 L.lo.x, .int .i64 L.lo.y, .int .i64 L.lo.z, .int .i64 L.hi.x, .int .i64 L.hi.y, .int .i64 L.hi.z] 89)) := ba_alloc hb5 _
          generalize (w5.alloc (.cells #[.int .i64 L.lo.x, .int .i64 L.lo.y, .int .i64 L.lo.z, .int .i64 L.hi.x, .int .i64 L.hi.y, .int .i64 L.hi.z] 89)) = W6 at *
          have s0 := hS.cell 0
          have s3 := hS.cell 3
          have sl := hS.lt
          simp only [List.getElem?_toArray, List.getElem?_cons_zero, List.getElem?_cons_succ] at s0 s3
          have HO6 := Lib.hid (own_kept HO.out (fun k hk => hb6.block k (HO.out.lt k hk).2))
          have HB6 := Lib.hid (hby.trans (hb6.mono hsy))
          have h6s := hb6.size
          generalize w5.heap.size = g6 at *
          clear hb5 hb6 HG1 m0 m1 m2 m3 m4 m5 m6 hck HO
          have hbE1 : w2.heap.size ≤ W6.heap.size := by omega
          by_cases h1 : L.lo.x ≤ p
          · by_cases h2 : p ≤ L.hi.x
            · have HFE := Lib.hid (show (c.l.take (m + 1)).filter (S.overP rs p) = (c.l.take m).filter (S.overP rs p) ++ [(r : Int)] by rw [HFN.out]; simp [h1, h2])
              go_wp2_with (at_builtin; refine wpList_push rfl (.tmp 58) (.tmp 60) _ rfl elemInt ((show Row W6 W6 u11.ownBlock w2.heap.size 3 1 u11 (S.barsL rs p (cl.take q) ++ (c.l.take m).filter (S.overP rs p)).length (i64s (S.barsL rs p (cl.take q) ++ (c.l.take m).filter (S.overP rs p))) from ⟨HO6.out, fun k hk => .inl hk.symm⟩).alloc _) ((Exc.refl u11.ownBlock.toList W6).alloc _) (by intro k hk; simp [hk]) hbE1 rfl W6.heap.size 1 1 [.int .i64 r] rfl rfl ?_ (by simp [Value.oneCell']) (by unfold maxLen; omega) (by omega) ?_; (· intro j u hu; exact one_new _ _ _ _ j u hu); intro v2 wE hRE hXE hOE)
              have hown := hRE.own
              have hbE : Below w2.heap.size w2 wE := HB6.out.trans (hXE.below (by omega) (fun g hg => (HO6.out.lt g (by simpa using hg)).1))
              go_roundw
              case rel => exact ⟨m + 1, by omega, by go_num, by rw [HFE.out, ← List.append_assoc, i64s_snoc, List.length_append]; exact hown, hbE⟩
              case measure => simp [intOf]; omega
            · have HFE := Lib.hid (show (c.l.take (m + 1)).filter (S.overP rs p) = (c.l.take m).filter (S.overP rs p) by rw [HFN.out]; simp [h1]; omega)
              go_wp2
              go_roundw
              case rel => exact ⟨m + 1, by omega, by go_num, by rw [HFE.out]; exact HO6.out, HB6.out⟩
              case measure => simp [intOf]; omega
          · have HFE := Lib.hid (show (c.l.take (m + 1)).filter (S.overP rs p) = (c.l.take m).filter (S.overP rs p) by rw [HFN.out]; simp [h1])
            go_wp2
            go_roundw
            case rel => exact ⟨m + 1, by omega, by go_num, by rw [HFE.out]; exact HO6.out, HB6.out⟩
            case measure => simp [intOf]; omega
        · have hmn : m = lc := by omega
          have hmi : ¬ ((m : Int) < lc) := by omega
          have hO := HO.out
          rw [hmn, HLC.out, List.take_length, ← HNX.out] at hO
          have HO := Lib.hid hO
          clear hO
          go_wp2
          go_roundw
          case rel => exact ⟨q + 1, by omega, by go_num, HO.out, hby⟩
          case measure => simp [intOf]; omega
    · have hqn : q = cl.length := by omega
      have hO := HO.out
      rw [hqn, List.take_length] at hO
      have hfq := HFL.out cl.length
      rw [List.take_length] at hfq
      have hfq2 : (S.barsL rs p cl).length ≤ 300000 := by omega
      have hqi : ¬ ((q : Int) < cl.length) := by omega
      clear hfq hqn
      have hsr := hbr.size
      have HSO := Lib.hid (sort_own (S.barsL rs p cl) u11 (S.barsL rs p cl).length w2.heap.size wr hO (by omega))
      have HOr := Lib.hid hO
      clear hO HO
      go_upto_region 17 with (go_at_call 84; (with_reducible refine HSO.out.mono ?_); rintro e w3 ⟨rfl, hO3, hX3⟩)
      have hb3 : Below w2.heap.size wr w3 := hX3.below (by omega) (fun k hk => (HOr.out.lt k (by simpa using hk)).1)
      obtain ⟨A3, c3, hu, _, _, _⟩ := own_form hO3 (by unfold maxLen; omega)
      subst hu
      have HO3 := Lib.hid hO3
      have HE3 := Lib.hid (sortI_len (S.barsL rs p cl))
      have HBF := Lib.hid (hw2.trans ((hbr.trans hb3).mono hs2))
      clear hO3 hX3 HSO HOr hb3
      go_wp2
      go_ret2
      refine ⟨A3, c3, rs, cs, by rw [HCLG.out, HE3.out]; rfl, HRO.out, HEX.out.1, HEX.out.2, ?_, HBF.out⟩
      rw [HCLG.out, HE3.out]
      exact own_mono HO3.out hs2
end Go.Proofs.YtffkmgjmlahfpaaGreat
