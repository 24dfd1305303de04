/- Contracts: supply.chains, supply.suppliers that refuse; supply.Anchored, supply.Area, supply.Leg. Contract: supply.Leg. -/
import Derived.Test.YtffkmgjmlahfpaaGreatPAP
set_option linter.unusedVariables false
set_option linter.unusedSimpArgs false
namespace Go.Proofs.YtffkmgjmlahfpaaGreat
open Go.RowKit
set_option maxRecDepth 20000 in
theorem schains_no (x : Dt) (w : World)
    (hLV : ∀ W, Below w.heap.size w W → Calls Tryz.prog 87 #[dtV x] W fun e w' => e = .returned (.bool false) ∧ Below W.heap.size W w') :
    Calls Tryz.prog 93 #[dtV x] w fun e w' => e = .returned (.tuple #[.slice none 0 0, .slice none 0 0, .int .i64 1]) ∧ Below w.heap.size w w' := by
  have HLV := Lib.hid hLV
  clear hLV
  unfold dtV at HLV
  unfold dtV
  have hDB := Blk.new w 34 #[.string x.m.name, .slice x.mA x.mn x.mc, .slice x.hA x.hn x.hc, .int .i64 x.m.cover, .int .i64 x.m.aggr, .int .i64 x.m.poker, .slice x.bA x.bn x.bc, .slice x.rA x.rn x.rc, .slice x.jA x.jn x.jc, .slice x.dA x.dn x.dc, .int .i64 x.rule.num, .int .i64 x.rule.den, .int .i64 x.rule.pnum, .int .i64 x.rule.pden, .int .i64 x.rule.bnum, .int .i64 x.rule.bden, .int .i64 x.rule.lnum, .int .i64 x.rule.lden, .int .i64 x.rule.least]
  have hW1 : Below w.heap.size w (w.alloc (.cells #[.string x.m.name, .slice x.mA x.mn x.mc, .slice x.hA x.hn x.hc, .int .i64 x.m.cover, .int .i64 x.m.aggr, .int .i64 x.m.poker, .slice x.bA x.bn x.bc, .slice x.rA x.rn x.rc, .slice x.jA x.jn x.jc, .slice x.dA x.dn x.dc, .int .i64 x.rule.num, .int .i64 x.rule.den, .int .i64 x.rule.pnum, .int .i64 x.rule.pden, .int .i64 x.rule.bnum, .int .i64 x.rule.bden, .int .i64 x.rule.lnum, .int .i64 x.rule.lden, .int .i64 x.rule.least] 34)) := ba_alloc (Below.refl _ _) _
  go_enter Tryz.func93, Tryz.ntmps93
  go_upto_region 1 with fail
  generalize (w.alloc (.cells #[.string x.m.name, .slice x.mA x.mn x.mc, .slice x.hA x.hn x.hc, .int .i64 x.m.cover, .int .i64 x.m.aggr, .int .i64 x.m.poker, .slice x.bA x.bn x.bc, .slice x.rA x.rn x.rc, .slice x.jA x.jn x.jc, .slice x.dA x.dn x.dc, .int .i64 x.rule.num, .int .i64 x.rule.den, .int .i64 x.rule.pnum, .int .i64 x.rule.pden, .int .i64 x.rule.bnum, .int .i64 x.rule.bden, .int .i64 x.rule.lnum, .int .i64 x.rule.lden, .int .i64 x.rule.least] 34)) = W1 at *
  have HDB := Lib.hid hDB
  clear hDB
  go_wp2_with (first
    | ((with_reducible refine at_load 34 1 ?_); refine wpList_load_mid rfl 34 (.tmp 1) rfl _ _ rfl _ _ (HDB.out.via belr).range Tryz.underlying34 rfl (by kernel_rfl) ?_)
    | (go_at_call 87; (with_reducible refine (HLV.out _ belr).mono ?_); rintro e w2 ⟨rfl, hbw2⟩))
  go_returns
  exact ⟨rfl, bel⟩
theorem sups_err (x : Dt) (k : Int) (er : Int) (w : World) (he : (er == 0) = false)
    (hCH : ∀ W, Below w.heap.size w W → Calls Tryz.prog 93 #[dtV x] W fun e w' => e = .returned (.tuple #[.slice none 0 0, .slice none 0 0, .int .i64 er]) ∧ Below W.heap.size W w') :
    Calls Tryz.prog 83 #[dtV x, .int .i64 k] w fun e w' => e = .returned (.tuple #[.slice none 0 0, .slice none 0 0, .int .i64 er]) ∧ Below w.heap.size w w' := by
  have HCH := Lib.hid hCH
  have he2 : ¬ (er = 0) := by simpa using he
  clear hCH
  unfold dtV at HCH
  unfold dtV
  have hDB := (Blk.new w 34 #[.string x.m.name, .slice x.mA x.mn x.mc, .slice x.hA x.hn x.hc, .int .i64 x.m.cover, .int .i64 x.m.aggr, .int .i64 x.m.poker, .slice x.bA x.bn x.bc, .slice x.rA x.rn x.rc, .slice x.jA x.jn x.jc, .slice x.dA x.dn x.dc, .int .i64 x.rule.num, .int .i64 x.rule.den, .int .i64 x.rule.pnum, .int .i64 x.rule.pden, .int .i64 x.rule.bnum, .int .i64 x.rule.bden, .int .i64 x.rule.lnum, .int .i64 x.rule.lden, .int .i64 x.rule.least]).alloc (.cells #[.int .i64 k] 3)
  have hW1 : Below w.heap.size w ((w.alloc (.cells #[.string x.m.name, .slice x.mA x.mn x.mc, .slice x.hA x.hn x.hc, .int .i64 x.m.cover, .int .i64 x.m.aggr, .int .i64 x.m.poker, .slice x.bA x.bn x.bc, .slice x.rA x.rn x.rc, .slice x.jA x.jn x.jc, .slice x.dA x.dn x.dc, .int .i64 x.rule.num, .int .i64 x.rule.den, .int .i64 x.rule.pnum, .int .i64 x.rule.pden, .int .i64 x.rule.bnum, .int .i64 x.rule.bden, .int .i64 x.rule.lnum, .int .i64 x.rule.lden, .int .i64 x.rule.least] 34)).alloc (.cells #[.int .i64 k] 3)) := ba_alloc (ba_alloc (Below.refl _ _) _) _
  go_enter Tryz.func83, Tryz.ntmps83
  go_upto_region 1 with fail
  generalize ((w.alloc (.cells #[.string x.m.name, .slice x.mA x.mn x.mc, .slice x.hA x.hn x.hc, .int .i64 x.m.cover, .int .i64 x.m.aggr, .int .i64 x.m.poker, .slice x.bA x.bn x.bc, .slice x.rA x.rn x.rc, .slice x.jA x.jn x.jc, .slice x.dA x.dn x.dc, .int .i64 x.rule.num, .int .i64 x.rule.den, .int .i64 x.rule.pnum, .int .i64 x.rule.pden, .int .i64 x.rule.bnum, .int .i64 x.rule.bden, .int .i64 x.rule.lnum, .int .i64 x.rule.lden, .int .i64 x.rule.least] 34)).alloc (.cells #[.int .i64 k] 3)) = W1 at *
  have HDB := Lib.hid hDB
  clear hDB
  go_wp2_with (first
    | ((with_reducible refine at_load 34 2 ?_); refine wpList_load_mid rfl 34 (.tmp 2) rfl _ _ rfl _ _ (HDB.out.via belr).range Tryz.underlying34 rfl (by kernel_rfl) ?_)
    | (go_at_call 93; (with_reducible refine (HCH.out _ belr).mono ?_); rintro e w2 ⟨rfl, hbw2⟩))
  go_returns
  exact ⟨rfl, bel⟩
theorem sups_range (x : Dt) (C : List (List Int)) (n : Nat) (k : Int) (w : World) (hk : k < 0 ∨ (x.dn : Int) ≤ k)
    (hCH : ∀ W, Below w.heap.size w W → Calls Tryz.prog 93 #[dtV x] W (GivesSup x C n W)) :
    Calls Tryz.prog 83 #[dtV x, .int .i64 k] w fun e w' => e = .returned (.tuple #[.slice none 0 0, .slice none 0 0, .int .i64 2]) ∧ Below w.heap.size w w' := by
  have HCH := Lib.hid hCH
  clear hCH
  unfold dtV at HCH
  unfold dtV
  have hDB := (Blk.new w 34 #[.string x.m.name, .slice x.mA x.mn x.mc, .slice x.hA x.hn x.hc, .int .i64 x.m.cover, .int .i64 x.m.aggr, .int .i64 x.m.poker, .slice x.bA x.bn x.bc, .slice x.rA x.rn x.rc, .slice x.jA x.jn x.jc, .slice x.dA x.dn x.dc, .int .i64 x.rule.num, .int .i64 x.rule.den, .int .i64 x.rule.pnum, .int .i64 x.rule.pden, .int .i64 x.rule.bnum, .int .i64 x.rule.bden, .int .i64 x.rule.lnum, .int .i64 x.rule.lden, .int .i64 x.rule.least]).alloc (.cells #[.int .i64 k] 3)
  have hKB := Blk.new (w.alloc (.cells #[.string x.m.name, .slice x.mA x.mn x.mc, .slice x.hA x.hn x.hc, .int .i64 x.m.cover, .int .i64 x.m.aggr, .int .i64 x.m.poker, .slice x.bA x.bn x.bc, .slice x.rA x.rn x.rc, .slice x.jA x.jn x.jc, .slice x.dA x.dn x.dc, .int .i64 x.rule.num, .int .i64 x.rule.den, .int .i64 x.rule.pnum, .int .i64 x.rule.pden, .int .i64 x.rule.bnum, .int .i64 x.rule.bden, .int .i64 x.rule.lnum, .int .i64 x.rule.lden, .int .i64 x.rule.least] 34)) 3 #[.int .i64 k]
  have hW1 : Below w.heap.size w ((w.alloc (.cells #[.string x.m.name, .slice x.mA x.mn x.mc, .slice x.hA x.hn x.hc, .int .i64 x.m.cover, .int .i64 x.m.aggr, .int .i64 x.m.poker, .slice x.bA x.bn x.bc, .slice x.rA x.rn x.rc, .slice x.jA x.jn x.jc, .slice x.dA x.dn x.dc, .int .i64 x.rule.num, .int .i64 x.rule.den, .int .i64 x.rule.pnum, .int .i64 x.rule.pden, .int .i64 x.rule.bnum, .int .i64 x.rule.bden, .int .i64 x.rule.lnum, .int .i64 x.rule.lden, .int .i64 x.rule.least] 34)).alloc (.cells #[.int .i64 k] 3)) := ba_alloc (ba_alloc (Below.refl _ _) _) _
  go_enter Tryz.func83, Tryz.ntmps83
  go_upto_region 1 with fail
  rw [show (w.alloc (.cells #[.string x.m.name, .slice x.mA x.mn x.mc, .slice x.hA x.hn x.hc, .int .i64 x.m.cover, .int .i64 x.m.aggr, .int .i64 x.m.poker, .slice x.bA x.bn x.bc, .slice x.rA x.rn x.rc, .slice x.jA x.jn x.jc, .slice x.dA x.dn x.dc, .int .i64 x.rule.num, .int .i64 x.rule.den, .int .i64 x.rule.pnum, .int .i64 x.rule.pden, .int .i64 x.rule.bnum, .int .i64 x.rule.bden, .int .i64 x.rule.lnum, .int .i64 x.rule.lden, .int .i64 x.rule.least] 34)).heap.size = w.heap.size + 1 by simp] at hKB
  generalize ((w.alloc (.cells #[.string x.m.name, .slice x.mA x.mn x.mc, .slice x.hA x.hn x.hc, .int .i64 x.m.cover, .int .i64 x.m.aggr, .int .i64 x.m.poker, .slice x.bA x.bn x.bc, .slice x.rA x.rn x.rc, .slice x.jA x.jn x.jc, .slice x.dA x.dn x.dc, .int .i64 x.rule.num, .int .i64 x.rule.den, .int .i64 x.rule.pnum, .int .i64 x.rule.pden, .int .i64 x.rule.bnum, .int .i64 x.rule.bden, .int .i64 x.rule.lnum, .int .i64 x.rule.lden, .int .i64 x.rule.least] 34)).alloc (.cells #[.int .i64 k] 3)) = W1 at *
  have HDB := Lib.hid hDB
  have HKB := Lib.hid hKB
  clear hDB hKB
  go_upto_region 2 with (first
    | ((with_reducible refine at_load 34 2 ?_); refine wpList_load_mid rfl 34 (.tmp 2) rfl _ _ rfl _ _ (HDB.out.via belr).range Tryz.underlying34 rfl (by kernel_rfl) ?_)
    | (go_at_call 93; (with_reducible refine (HCH.out _ belr).mono ?_); rintro e w2 ⟨A1, c1, rs, A2, c2, cs, rfl, hrl, hok, hRA, hOW, hcl, hsch, hcc, hbw2⟩; clear hrl hok hRA hOW hcl hsch hcc))
  have hb2 : Below w2.heap.size w2 (w2.alloc (.cells #[.slice A1 rs.length c1] 145)) := ba_alloc (Below.refl _ _) _
  have HD3 := Lib.hid ((HDB.out.via hbw2).via hb2)
  have HK3 := Lib.hid ((HKB.out.via hbw2).via hb2)
  have hw3 : Below w.heap.size w (w2.alloc (.cells #[.slice A1 rs.length c1] 145)) := ba_alloc (ba_via hbw2 hW1) _
  have hwl : w.heap.size < W1.heap.size := HDB.out.lt
  have hwl1 : w.heap.size + 1 < W1.heap.size := HKB.out.lt
  generalize (w2.alloc (.cells #[.slice A1 rs.length c1] 145)) = W3 at *
  have d9 := HD3.out.cell 9
  have k0 := HK3.out.cell 0
  have dl := HD3.out.lt
  have kl := HK3.out.lt
  simp only [List.getElem?_toArray, List.getElem?_cons_zero, List.getElem?_cons_succ] at d9 k0
  by_cases h1 : k < 0
  · go_wp2
    go_returns
    exact ⟨rfl, bel⟩
  · have h2 : (x.dn : Int) ≤ k := by omega
    go_wp2
    go_returns
    exact ⟨rfl, bel⟩
set_option maxHeartbeats 1000000 in
theorem Area_any (x : Dt) (C : List (List Int)) (n : Nat) (k : Nat) (w : World) (hC : C.length ≤ 2000) (hk : k < C.length)
    (hCH : ∀ W, Below w.heap.size w W → Calls Tryz.prog 93 #[dtV x] W (GivesSup x C n W)) :
    Calls Tryz.prog 41 #[dtV x, .int .i64 k] w fun e w' => ∃ (rs : List Rod) (c : SCh), e = .returned (.tuple #[.int .i64 c.area, .int .i64 0]) ∧ rs.length = n ∧ (∀ (i : Nat) (hi : i < rs.length), RodOk x i rs[i]) ∧ SchOk x rs C[k] c ∧ Below w.heap.size w w' := by
  have HCH := Lib.hid hCH
  clear hCH
  unfold dtV at HCH
  unfold dtV
  have hDB := Blk.new w 34 #[.string x.m.name, .slice x.mA x.mn x.mc, .slice x.hA x.hn x.hc, .int .i64 x.m.cover, .int .i64 x.m.aggr, .int .i64 x.m.poker, .slice x.bA x.bn x.bc, .slice x.rA x.rn x.rc, .slice x.jA x.jn x.jc, .slice x.dA x.dn x.dc, .int .i64 x.rule.num, .int .i64 x.rule.den, .int .i64 x.rule.pnum, .int .i64 x.rule.pden, .int .i64 x.rule.bnum, .int .i64 x.rule.bden, .int .i64 x.rule.lnum, .int .i64 x.rule.lden, .int .i64 x.rule.least]
  have hW1 : Below w.heap.size w (w.alloc (.cells #[.string x.m.name, .slice x.mA x.mn x.mc, .slice x.hA x.hn x.hc, .int .i64 x.m.cover, .int .i64 x.m.aggr, .int .i64 x.m.poker, .slice x.bA x.bn x.bc, .slice x.rA x.rn x.rc, .slice x.jA x.jn x.jc, .slice x.dA x.dn x.dc, .int .i64 x.rule.num, .int .i64 x.rule.den, .int .i64 x.rule.pnum, .int .i64 x.rule.pden, .int .i64 x.rule.bnum, .int .i64 x.rule.bden, .int .i64 x.rule.lnum, .int .i64 x.rule.lden, .int .i64 x.rule.least] 34)) := ba_alloc (Below.refl _ _) _
  go_enter Tryz.func41, Tryz.ntmps41
  go_upto_region 1 with fail
  generalize (w.alloc (.cells #[.string x.m.name, .slice x.mA x.mn x.mc, .slice x.hA x.hn x.hc, .int .i64 x.m.cover, .int .i64 x.m.aggr, .int .i64 x.m.poker, .slice x.bA x.bn x.bc, .slice x.rA x.rn x.rc, .slice x.jA x.jn x.jc, .slice x.dA x.dn x.dc, .int .i64 x.rule.num, .int .i64 x.rule.den, .int .i64 x.rule.pnum, .int .i64 x.rule.pden, .int .i64 x.rule.bnum, .int .i64 x.rule.bden, .int .i64 x.rule.lnum, .int .i64 x.rule.lden, .int .i64 x.rule.least] 34)) = W1 at *
  have HDB := Lib.hid hDB
  clear hDB
  go_upto_region 2 with (first
    | ((with_reducible refine at_load 34 2 ?_); refine wpList_load_mid rfl 34 (.tmp 2) rfl _ _ rfl _ _ (HDB.out.via belr).range Tryz.underlying34 rfl (by kernel_rfl) ?_)
    | (go_at_call 93; (with_reducible refine (HCH.out _ belr).mono ?_); rintro e w2 ⟨A1, c1, rs, A2, c2, cs, rfl, hrl, hok, hRA, hOW, hcl, hsch, hcc, hbw2⟩; have HRL := Lib.hid hrl; have HOK := Lib.hid hok; have HOW := Lib.hid hOW; have HCL := Lib.hid hcl; have HSC := Lib.hid hsch; clear hrl hok hRA hOW hcl hsch hcc))
  have hkx : k < cs.length := by rw [HCL.out]; exact hk
  have hCS := (own_cells HOW.out (by have := HCL.out; unfold maxLen; omega)).1
  obtain ⟨b2, o2, hA2, hbb2, hxx⟩ := hCS.at_ (by rw [flat_len schC 5 schC_len]; omega)
  clear hxx
  subst hA2
  have c3' := hCS.rowj schC_len hkx 4 rfl
  have HK := Lib.hid (HSC.out k hkx hk)
  have hki : (k : Int) < cs.length := by omega
  have hk0 : ¬ ((k : Int) < 0) := by omega
  have hk1 : ¬ ((cs.length : Int) ≤ k) := by omega
  clear hCS HOW HSC HCH HDB
  generalize cs[k] = c at *
  go_wp2
  go_ret2
  exact ⟨rs, c, rfl, HRL.out, HOK.out, HK.out, bel⟩
abbrev zbxC : Array Value := #[.int .i64 0, .int .i64 0, .int .i64 0, .int .i64 0, .int .i64 0, .int .i64 0]
theorem ba_set6 {w W : World} {g : Nat} (h : Below w.heap.size w W) (hg : w.heap.size ≤ g) (v0 v1 v2 v3 v4 v5 : Value) : Below w.heap.size w ((((((W.setCell ⟨g, 0, none⟩ v0).setCell ⟨g, 1, none⟩ v1).setCell ⟨g, 2, none⟩ v2).setCell ⟨g, 3, none⟩ v3).setCell ⟨g, 4, none⟩ v4).setCell ⟨g, 5, none⟩ v5) :=
  ba_set (ba_set (ba_set (ba_set (ba_set (ba_set h hg _) hg _) hg _) hg _) hg _) hg _
set_option maxHeartbeats 4000000 in
theorem Leg_any (x : Dt) (n i : Nat) (w : World) (hi : i < n) (hn : n ≤ 2000) (hl : S.laid (bars x.bs) x.rs = true)
    (hLV : ∀ W, Below w.heap.size w W → Calls Tryz.prog 87 #[dtV x] W fun e w' => e = .returned (.bool true) ∧ Below W.heap.size W w')
    (hRD : ∀ W, Below w.heap.size w W → Calls Tryz.prog 92 #[dtV x] W (GivesRods x n W)) :
    Calls Tryz.prog 39 #[dtV x, .int .i64 i] w fun e w' => ∃ r, RodOk x i r ∧ e = .returned (.tuple #[boxV (if r.main < 0 then S.zbox else S.legOf r), .int .i64 (if r.main < 0 then 12 else 0)]) ∧ Below w.heap.size w w' := by
  have HLV := Lib.hid hLV
  have HRD := Lib.hid hRD
  clear hLV hRD
  unfold dtV at HLV HRD
  unfold dtV
  have hDB := (Blk.new w 34 #[.string x.m.name, .slice x.mA x.mn x.mc, .slice x.hA x.hn x.hc, .int .i64 x.m.cover, .int .i64 x.m.aggr, .int .i64 x.m.poker, .slice x.bA x.bn x.bc, .slice x.rA x.rn x.rc, .slice x.jA x.jn x.jc, .slice x.dA x.dn x.dc, .int .i64 x.rule.num, .int .i64 x.rule.den, .int .i64 x.rule.pnum, .int .i64 x.rule.pden, .int .i64 x.rule.bnum, .int .i64 x.rule.bden, .int .i64 x.rule.lnum, .int .i64 x.rule.lden, .int .i64 x.rule.least]).alloc (.cells zbxC 89)
  have hSB := Blk.newN (W := w.alloc (.cells #[.string x.m.name, .slice x.mA x.mn x.mc, .slice x.hA x.hn x.hc, .int .i64 x.m.cover, .int .i64 x.m.aggr, .int .i64 x.m.poker, .slice x.bA x.bn x.bc, .slice x.rA x.rn x.rc, .slice x.jA x.jn x.jc, .slice x.dA x.dn x.dc, .int .i64 x.rule.num, .int .i64 x.rule.den, .int .i64 x.rule.pnum, .int .i64 x.rule.pden, .int .i64 x.rule.bnum, .int .i64 x.rule.bden, .int .i64 x.rule.lnum, .int .i64 x.rule.lden, .int .i64 x.rule.least] 34)) (n := w.heap.size + 1) (by simp) 89 zbxC
  have hW1 : Below w.heap.size w ((w.alloc (.cells #[.string x.m.name, .slice x.mA x.mn x.mc, .slice x.hA x.hn x.hc, .int .i64 x.m.cover, .int .i64 x.m.aggr, .int .i64 x.m.poker, .slice x.bA x.bn x.bc, .slice x.rA x.rn x.rc, .slice x.jA x.jn x.jc, .slice x.dA x.dn x.dc, .int .i64 x.rule.num, .int .i64 x.rule.den, .int .i64 x.rule.pnum, .int .i64 x.rule.pden, .int .i64 x.rule.bnum, .int .i64 x.rule.bden, .int .i64 x.rule.lnum, .int .i64 x.rule.lden, .int .i64 x.rule.least] 34)).alloc (.cells zbxC 89)) := ba_alloc (ba_alloc (Below.refl _ _) _) _
  go_enter Tryz.func39, Tryz.ntmps39
  go_upto_region 1 with fail
  generalize ((w.alloc (.cells #[.string x.m.name, .slice x.mA x.mn x.mc, .slice x.hA x.hn x.hc, .int .i64 x.m.cover, .int .i64 x.m.aggr, .int .i64 x.m.poker, .slice x.bA x.bn x.bc, .slice x.rA x.rn x.rc, .slice x.jA x.jn x.jc, .slice x.dA x.dn x.dc, .int .i64 x.rule.num, .int .i64 x.rule.den, .int .i64 x.rule.pnum, .int .i64 x.rule.pden, .int .i64 x.rule.bnum, .int .i64 x.rule.bden, .int .i64 x.rule.lnum, .int .i64 x.rule.lden, .int .i64 x.rule.least] 34)).alloc (.cells zbxC 89)) = W1 at *
  have HDB := Lib.hid hDB
  have HSB := Lib.hid hSB
  clear hDB hSB
  go_upto_region 4 with (first
    | ((with_reducible refine at_load 34 2 ?_); refine wpList_load_mid rfl 34 (.tmp 2) rfl _ _ rfl _ _ (HDB.out.via belr).range Tryz.underlying34 rfl (by kernel_rfl) ?_)
    | (go_at_call 87; (with_reducible refine (HLV.out _ belr).mono ?_); rintro e w1 ⟨rfl, hbw1⟩)
    | (go_at_call 92; (with_reducible refine (HRD.out _ belr).mono ?_); rintro e w2 ⟨A1, c1, rs, rfl, hrl, hok, hRA, hbw2⟩; have HRL := Lib.hid hrl; have HOK := Lib.hid hok; have HRA := Lib.hid hRA; clear hrl hok hRA))
  have hw2 : Below w.heap.size w w2 := ba_via hbw2 (ba_via hbw1 hW1)
  have hb12 : Below W1.heap.size W1 w2 := ba_via hbw2 hbw1
  have hS2 := HSB.out.via hb12
  have s0 := hS2.cell 0
  have s1 := hS2.cell 1
  have s2 := hS2.cell 2
  have s3 := hS2.cell 3
  have s4 := hS2.cell 4
  have s5 := hS2.cell 5
  have f0 := hS2.frozen 0
  have f1 := hS2.frozen 1
  have f2 := hS2.frozen 2
  have f3 := hS2.frozen 3
  have f4 := hS2.frozen 4
  have f5 := hS2.frozen 5
  have sl := hS2.lt
  simp only [List.getElem?_toArray, List.getElem?_cons_zero, List.getElem?_cons_succ] at s0 s1 s2 s3 s4 s5
  have hix : i < rs.length := by have := HRL.out; omega
  have hRO := HOK.out i hix
  have hF := rod_fit hRO hl
  have hRC := (own_cells HRA.out.own (by have := HRL.out; unfold maxLen; omega)).1
  have HLG := Lib.hid (HRA.out.each _ (List.getElem_mem hix)).cells
  obtain ⟨b1, o1, hA1, hb1, hxx⟩ := hRC.at_ (by rw [flat_len rodC 7 rodC_len]; omega)
  clear hxx
  subst hA1
  have m0 := hRC.row0 rodC_len hix rfl
  have m1 := hRC.rowj rodC_len hix 1 rfl
  have m2 := hRC.rowj rodC_len hix 2 rfl
  have m3 := hRC.rowj rodC_len hix 3 rfl
  have m4 := hRC.rowj rodC_len hix 4 rfl
  have m5 := hRC.rowj rodC_len hix 5 rfl
  have m6 := hRC.rowj rodC_len hix 6 rfl
  have hii : (i : Int) < rs.length := by omega
  have hi0 : ¬ ((i : Int) < 0) := by omega
  have hi1 : ¬ ((rs.length : Int) ≤ i) := by omega
  clear hRC HRA HOK HLV HRD HDB HSB hbw1 hbw2
  have HF := Lib.hid hF
  have HRO := Lib.hid hRO
  clear hF hRO
  generalize rs[i] = r at *
  by_cases h1 : r.main < 0
  · have hbF := ba_set6 (g := w.heap.size + 1) hw2 (Nat.le_succ _) (.int .i64 0) (.int .i64 0) (.int .i64 0) (.int .i64 0) (.int .i64 0) (.int .i64 0)
    go_wp2
    exact bodyPost_ret (v := .tuple #[.agg zbxC, .int .i64 12]) (by simp [results, Tryz.results39, go_sem, *]) rfl ⟨r, HRO.out, by rw [if_pos h1, if_pos h1]; rfl, hbF⟩
  · obtain ⟨ja, hja, hjae, hjam⟩ := idxf_some (xs := r.legs) (p := S.isMainB) (by rw [← HF.out.main]; omega)
    have hma : r.main = (ja : Int) := HF.out.main.trans hjae
    have hLa : S.legOf r = r.legs[ja] := by unfold S.legOf; rw [hma]; simp [List.getD_eq_getElem?_getD, hja]
    have HG1 := Lib.hid (rleg_any r ja (S.legOf r) w2.heap.size w2 (Nat.le_refl _) (by rw [hLa]; exact List.getElem?_eq_getElem hja) hma HLG.out)
    unfold boxV rodV at HG1
    clear hja hjae hjam hma hLa
    generalize hLL : S.legOf r = L at *
    have HLL := Lib.hid hLL
    clear hLL
    go_upto_region 10 with fail
    go_wp2_with (go_at_call 90; (with_reducible refine HG1.out.mono ?_); rintro e w3 ⟨rfl, hb3⟩; have hS3 := hS2.via hb3; have s0 := hS3.cell 0; have s1 := hS3.cell 1; have s2 := hS3.cell 2; have s3 := hS3.cell 3; have s4 := hS3.cell 4; have s5 := hS3.cell 5; have f0 := hS3.frozen 0; have f1 := hS3.frozen 1; have f2 := hS3.frozen 2; have f3 := hS3.frozen 3; have f4 := hS3.frozen 4; have f5 := hS3.frozen 5; have sl3 := hS3.lt; have hw3 : Below w.heap.size w w3 := ba_via hb3 hw2; simp only [List.getElem?_toArray, List.getElem?_cons_zero, List.getElem?_cons_succ] at s0 s1 s2 s3 s4 s5)
    have hbF := ba_set6 (g := w.heap.size + 1) hw3 (Nat.le_succ _) (.int .i64 L.lo.x) (.int .i64 L.lo.y) (.int .i64 L.lo.z) (.int .i64 L.hi.x) (.int .i64 L.hi.y) (.int .i64 L.hi.z)
    exact bodyPost_ret (v := .tuple #[.agg #[.int .i64 L.lo.x, .int .i64 L.lo.y, .int .i64 L.lo.z, .int .i64 L.hi.x, .int .i64 L.hi.y, .int .i64 L.hi.z], .int .i64 0]) (by simp [results, Tryz.results39, go_sem, *]) rfl ⟨r, HRO.out, by rw [if_neg (show ¬ r.main < 0 by omega), if_neg (show ¬ r.main < 0 by omega), HLL.out], hbF⟩
end Go.Proofs.YtffkmgjmlahfpaaGreat
