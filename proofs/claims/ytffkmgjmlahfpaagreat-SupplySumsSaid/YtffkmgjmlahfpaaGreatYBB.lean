/- Lemmas. -/
import Derived.Test.YtffkmgjmlahfpaaGreatRows
import Derived.WalkKit
import Derived.ProofKit
import Derived.Lib.Hide
import Derived.BigQuiet
import Derived.Handy
import Derived.StillTail
import Derived.Maps.AppendAt
import Derived.BigRegion
import Derived.Deep.CutRange
import Derived.Deep.RegionHeld3
import Derived.Maps.OwnOps
import Derived.Maps.OwnSet
import Derived.Deep.MidRow
import Derived.Deep.LoopGhost
import Derived.RangeFuncNested
import Derived.RangeFuncBound
import Derived.RangeFuncCalls
import Derived.RangeFuncLeaves
import Derived.RangeFuncFrom
import Derived.OwnWalkIn
import Derived.TacticsInMore
import Derived.LoopNIn
import Derived.LoopIn
import Derived.Shelf.Abstract
import Derived.Deep.Cut
import Derived.Shelf.Sort.Plain
import Derived.Shelf.Slices.CompactI
import Derived.Shelf.Slices.In.SortNone
import Derived.Sort.OwnSortedInts
import Derived.Lib.RowBridge
import Derived.Ground.NamesProg
import Derived.Ground.Names2Prog
import Derived.OrdersHeld
import Derived.Test.YtffkmgjmlahfpaaGreatYX
import Derived.Test.YtffkmgjmlahfpaaGreatYW
import Derived.Test.YtffkmgjmlahfpaaGreatYQ
import Derived.Test.YtffkmgjmlahfpaaGreatYM
import Derived.Test.YtffkmgjmlahfpaaGreatYL
import Derived.Test.YtffkmgjmlahfpaaGreatYI
import Derived.Test.YtffkmgjmlahfpaaGreatYG
import Derived.Test.YtffkmgjmlahfpaaGreatYF
import Derived.Test.YtffkmgjmlahfpaaGreatYB
import Derived.Test.YtffkmgjmlahfpaaGreatYA
import Derived.Test.YtffkmgjmlahfpaaGreatYC
import Derived.Test.YtffkmgjmlahfpaaGreatYH
import Derived.Test.YtffkmgjmlahfpaaGreatYD
import Derived.Test.YtffkmgjmlahfpaaGreatYE
import Derived.Test.YtffkmgjmlahfpaaGreatYJ
import Derived.Test.YtffkmgjmlahfpaaGreatYK
import Derived.Test.YtffkmgjmlahfpaaGreatYP
import Derived.Test.YtffkmgjmlahfpaaGreatYO
import Derived.Test.YtffkmgjmlahfpaaGreatYN
import Derived.Test.YtffkmgjmlahfpaaGreatYAA
import Derived.Test.YtffkmgjmlahfpaaGreatYAM
import Derived.Test.YtffkmgjmlahfpaaGreatYAH
import Derived.Test.YtffkmgjmlahfpaaGreatYY
import Derived.Test.YtffkmgjmlahfpaaGreatYT
import Derived.Test.YtffkmgjmlahfpaaGreatYR
import Derived.Test.YtffkmgjmlahfpaaGreatYAE
import Derived.Test.YtffkmgjmlahfpaaGreatYAC
import Derived.Test.YtffkmgjmlahfpaaGreatYAF
import Derived.Test.YtffkmgjmlahfpaaGreatYAG
import Derived.Test.YtffkmgjmlahfpaaGreatYAI
import Derived.Test.YtffkmgjmlahfpaaGreatYAN
import Derived.Test.YtffkmgjmlahfpaaGreatYAP
import Derived.Test.YtffkmgjmlahfpaaGreatYAO
import Derived.Test.YtffkmgjmlahfpaaGreatYAQ
import Derived.Test.YtffkmgjmlahfpaaGreatYAS
import Derived.Test.YtffkmgjmlahfpaaGreatYAX
import Derived.Test.YtffkmgjmlahfpaaGreatYAU
import Derived.Test.YtffkmgjmlahfpaaGreatYAJ
set_option linter.unusedVariables false
set_option linter.unusedSimpArgs false
namespace Go.Proofs.YtffkmgjmlahfpaaGreat
open Go.RowKit
theorem wpList_load_gdF {P : Program} {ops : Array Oper} {rest : List Oper} {op : Oper} {a : Act} {w : World} {Q : Exit → Act → World → Prop} (hw : Region.wanted op (yielded ops a.tmps) = true) (ty : TypeId) (x : Operand) (ho : op.op = .load ty x)
    (b o : Nat) (hx : a.eval x = .pointer (some ⟨b, o, none⟩)) (cs : List Value) (d : TypeDesc) (hc : w.rangeAt b o cs)
    (hu : P.underlying ty = some d) (hd : d.isRow = true) (hi : (P.info? ty).map (·.size) = some cs.length)
    (h : wpList P ops Q rest (a.put op.dst (.agg cs.toArray)) w) : wpList P ops Q (op :: rest) a w := by
  unfold wpList
  rw [if_pos hw]
  exact .inl (wp_load_mid ty x ho b o hx cs d hc hu hd hi h)
theorem at_far (x : Dt) (C : List (List Int)) (n : Nat) (z : Bx) (k : Nat) (p : Int) (w : World) (hp : p < -1048576 ∨ 1048576 < p)
    (hSU : ∀ W, Below w.heap.size w W → Calls Tryz.prog 83 #[dtV x, .int .i64 k] W (GivesSups x C n (fun rs => S.sup rs z) W)) :
    Calls Tryz.prog 81 #[dtV x, .int .i64 k, .int .i64 p] w fun e w' => e = .returned (.tuple #[.slice none 0 0, .slice none 0 0, .int .i64 2]) ∧ Below w.heap.size w w' := by
  have HSU := Lib.hid hSU
  clear hSU
  unfold dtV at HSU
  unfold dtV
  have hDB := (Blk.new w 34 #[.string x.m.name, .slice x.mA x.mn x.mc, .slice x.hA x.hn x.hc, .int .i64 x.m.cover, .int .i64 x.m.aggr, .int .i64 x.m.poker, .slice x.bA x.bn x.bc, .slice x.rA x.rn x.rc, .slice x.jA x.jn x.jc, .slice x.dA x.dn x.dc, .int .i64 x.rule.num, .int .i64 x.rule.den, .int .i64 x.rule.pnum, .int .i64 x.rule.pden, .int .i64 x.rule.bnum, .int .i64 x.rule.bden, .int .i64 x.rule.lnum, .int .i64 x.rule.lden, .int .i64 x.rule.least]).alloc (.cells #[.int .i64 p] 3)
  have hPB := Blk.new (w.alloc (.cells #[.string x.m.name, .slice x.mA x.mn x.mc, .slice x.hA x.hn x.hc, .int .i64 x.m.cover, .int .i64 x.m.aggr, .int .i64 x.m.poker, .slice x.bA x.bn x.bc, .slice x.rA x.rn x.rc, .slice x.jA x.jn x.jc, .slice x.dA x.dn x.dc, .int .i64 x.rule.num, .int .i64 x.rule.den, .int .i64 x.rule.pnum, .int .i64 x.rule.pden, .int .i64 x.rule.bnum, .int .i64 x.rule.bden, .int .i64 x.rule.lnum, .int .i64 x.rule.lden, .int .i64 x.rule.least] 34)) 3 #[.int .i64 p]
  have hW1 : Below w.heap.size w ((w.alloc (.cells #[.string x.m.name, .slice x.mA x.mn x.mc, .slice x.hA x.hn x.hc, .int .i64 x.m.cover, .int .i64 x.m.aggr, .int .i64 x.m.poker, .slice x.bA x.bn x.bc, .slice x.rA x.rn x.rc, .slice x.jA x.jn x.jc, .slice x.dA x.dn x.dc, .int .i64 x.rule.num, .int .i64 x.rule.den, .int .i64 x.rule.pnum, .int .i64 x.rule.pden, .int .i64 x.rule.bnum, .int .i64 x.rule.bden, .int .i64 x.rule.lnum, .int .i64 x.rule.lden, .int .i64 x.rule.least] 34)).alloc (.cells #[.int .i64 p] 3)) := ba_alloc (ba_alloc (Below.refl _ _) _) _
  go_enter Tryz.func81, Tryz.ntmps81
  go_upto_region 1 with fail
  rw [show (w.alloc (.cells #[.string x.m.name, .slice x.mA x.mn x.mc, .slice x.hA x.hn x.hc, .int .i64 x.m.cover, .int .i64 x.m.aggr, .int .i64 x.m.poker, .slice x.bA x.bn x.bc, .slice x.rA x.rn x.rc, .slice x.jA x.jn x.jc, .slice x.dA x.dn x.dc, .int .i64 x.rule.num, .int .i64 x.rule.den, .int .i64 x.rule.pnum, .int .i64 x.rule.pden, .int .i64 x.rule.bnum, .int .i64 x.rule.bden, .int .i64 x.rule.lnum, .int .i64 x.rule.lden, .int .i64 x.rule.least] 34)).heap.size = w.heap.size + 1 by simp] at hPB
  generalize ((w.alloc (.cells #[.string x.m.name, .slice x.mA x.mn x.mc, .slice x.hA x.hn x.hc, .int .i64 x.m.cover, .int .i64 x.m.aggr, .int .i64 x.m.poker, .slice x.bA x.bn x.bc, .slice x.rA x.rn x.rc, .slice x.jA x.jn x.jc, .slice x.dA x.dn x.dc, .int .i64 x.rule.num, .int .i64 x.rule.den, .int .i64 x.rule.pnum, .int .i64 x.rule.pden, .int .i64 x.rule.bnum, .int .i64 x.rule.bden, .int .i64 x.rule.lnum, .int .i64 x.rule.lden, .int .i64 x.rule.least] 34)).alloc (.cells #[.int .i64 p] 3)) = W1 at *
  have HDB := Lib.hid hDB
  have HPB := Lib.hid hPB
  clear hDB hPB
  go_upto_region 2 with (first
    | ((with_reducible refine at_load 34 3 ?_); refine wpList_load_mid rfl 34 (.tmp 3) rfl _ _ rfl _ _ (HDB.out.via belr).range Tryz.underlying34 rfl (by kernel_rfl) ?_)
    | (go_at_call 83; (with_reducible refine (HSU.out _ belr).mono ?_); rintro e w2 ⟨A1, c1, rs, A2, c2, cs, b2, rfl, hrl, hok, hb1, hb2, hRC, hRL, hOW, hcl, hsch, hcc, hbw2⟩; clear hrl hok hRC hRL hOW hcl hsch hcc))
  have hPB2 := HPB.out.via hbw2
  have p0 := hPB2.cell 0
  have pl := hPB2.lt
  simp only [List.getElem?_toArray, List.getElem?_cons_zero, List.getElem?_cons_succ] at p0
  clear hPB2 HSU HDB HPB
  by_cases h1 : p < -1048576
  · go_wp2
    go_returns
    exact ⟨rfl, bel⟩
  · have h2 : 1048576 < p := by omega
    go_wp2
    go_returns
    exact ⟨rfl, bel⟩
theorem at_err (x : Dt) (k : Int) (p : Int) (er : Int) (w : World) (he : (er == 0) = false)
    (hSU : ∀ W, Below w.heap.size w W → Calls Tryz.prog 83 #[dtV x, .int .i64 k] W fun e w' => e = .returned (.tuple #[.slice none 0 0, .slice none 0 0, .int .i64 er]) ∧ Below W.heap.size W w') :
    Calls Tryz.prog 81 #[dtV x, .int .i64 k, .int .i64 p] w fun e w' => e = .returned (.tuple #[.slice none 0 0, .slice none 0 0, .int .i64 er]) ∧ Below w.heap.size w w' := by
  have HSU := Lib.hid hSU
  have he2 : ¬ (er = 0) := by simpa using he
  clear hSU
  unfold dtV at HSU
  unfold dtV
  have hDB := (Blk.new w 34 #[.string x.m.name, .slice x.mA x.mn x.mc, .slice x.hA x.hn x.hc, .int .i64 x.m.cover, .int .i64 x.m.aggr, .int .i64 x.m.poker, .slice x.bA x.bn x.bc, .slice x.rA x.rn x.rc, .slice x.jA x.jn x.jc, .slice x.dA x.dn x.dc, .int .i64 x.rule.num, .int .i64 x.rule.den, .int .i64 x.rule.pnum, .int .i64 x.rule.pden, .int .i64 x.rule.bnum, .int .i64 x.rule.bden, .int .i64 x.rule.lnum, .int .i64 x.rule.lden, .int .i64 x.rule.least]).alloc (.cells #[.int .i64 p] 3)
  have hW1 : Below w.heap.size w ((w.alloc (.cells #[.string x.m.name, .slice x.mA x.mn x.mc, .slice x.hA x.hn x.hc, .int .i64 x.m.cover, .int .i64 x.m.aggr, .int .i64 x.m.poker, .slice x.bA x.bn x.bc, .slice x.rA x.rn x.rc, .slice x.jA x.jn x.jc, .slice x.dA x.dn x.dc, .int .i64 x.rule.num, .int .i64 x.rule.den, .int .i64 x.rule.pnum, .int .i64 x.rule.pden, .int .i64 x.rule.bnum, .int .i64 x.rule.bden, .int .i64 x.rule.lnum, .int .i64 x.rule.lden, .int .i64 x.rule.least] 34)).alloc (.cells #[.int .i64 p] 3)) := ba_alloc (ba_alloc (Below.refl _ _) _) _
  go_enter Tryz.func81, Tryz.ntmps81
  go_upto_region 1 with fail
  generalize ((w.alloc (.cells #[.string x.m.name, .slice x.mA x.mn x.mc, .slice x.hA x.hn x.hc, .int .i64 x.m.cover, .int .i64 x.m.aggr, .int .i64 x.m.poker, .slice x.bA x.bn x.bc, .slice x.rA x.rn x.rc, .slice x.jA x.jn x.jc, .slice x.dA x.dn x.dc, .int .i64 x.rule.num, .int .i64 x.rule.den, .int .i64 x.rule.pnum, .int .i64 x.rule.pden, .int .i64 x.rule.bnum, .int .i64 x.rule.bden, .int .i64 x.rule.lnum, .int .i64 x.rule.lden, .int .i64 x.rule.least] 34)).alloc (.cells #[.int .i64 p] 3)) = W1 at *
  have HDB := Lib.hid hDB
  clear hDB
  go_wp2_with (first
    | ((with_reducible refine at_load 34 3 ?_); refine wpList_load_mid rfl 34 (.tmp 3) rfl _ _ rfl _ _ (HDB.out.via belr).range Tryz.underlying34 rfl (by kernel_rfl) ?_)
    | (go_at_call 83; (with_reducible refine (HSU.out _ belr).mono ?_); rintro e w2 ⟨rfl, hbw2⟩))
  go_returns
  exact ⟨rfl, bel⟩
theorem At_err (x : Dt) (k : Int) (p : Int) (er : Int) (w : World) (he : (er == 0) = false)
    (hAT : ∀ W, Below w.heap.size w W → Calls Tryz.prog 81 #[dtV x, .int .i64 k, .int .i64 p] W fun e w' => e = .returned (.tuple #[.slice none 0 0, .slice none 0 0, .int .i64 er]) ∧ Below W.heap.size W w') :
    Calls Tryz.prog 30 #[dtV x, .int .i64 k, .int .i64 p] w fun e w' => e = .returned (.tuple #[.int .i64 0, .int .i64 er]) ∧ Below w.heap.size w w' := by
  have HAT := Lib.hid hAT
  have he2 : ¬ (er = 0) := by simpa using he
  clear hAT
  unfold dtV at HAT
  unfold dtV
  have hDB := Blk.new w 34 #[.string x.m.name, .slice x.mA x.mn x.mc, .slice x.hA x.hn x.hc, .int .i64 x.m.cover, .int .i64 x.m.aggr, .int .i64 x.m.poker, .slice x.bA x.bn x.bc, .slice x.rA x.rn x.rc, .slice x.jA x.jn x.jc, .slice x.dA x.dn x.dc, .int .i64 x.rule.num, .int .i64 x.rule.den, .int .i64 x.rule.pnum, .int .i64 x.rule.pden, .int .i64 x.rule.bnum, .int .i64 x.rule.bden, .int .i64 x.rule.lnum, .int .i64 x.rule.lden, .int .i64 x.rule.least]
  have hW1 : Below w.heap.size w (w.alloc (.cells #[.string x.m.name, .slice x.mA x.mn x.mc, .slice x.hA x.hn x.hc, .int .i64 x.m.cover, .int .i64 x.m.aggr, .int .i64 x.m.poker, .slice x.bA x.bn x.bc, .slice x.rA x.rn x.rc, .slice x.jA x.jn x.jc, .slice x.dA x.dn x.dc, .int .i64 x.rule.num, .int .i64 x.rule.den, .int .i64 x.rule.pnum, .int .i64 x.rule.pden, .int .i64 x.rule.bnum, .int .i64 x.rule.bden, .int .i64 x.rule.lnum, .int .i64 x.rule.lden, .int .i64 x.rule.least] 34)) := ba_alloc (Below.refl _ _) _
  go_enter Tryz.func30, Tryz.ntmps30
  go_upto_region 1 with fail
  generalize (w.alloc (.cells #[.string x.m.name, .slice x.mA x.mn x.mc, .slice x.hA x.hn x.hc, .int .i64 x.m.cover, .int .i64 x.m.aggr, .int .i64 x.m.poker, .slice x.bA x.bn x.bc, .slice x.rA x.rn x.rc, .slice x.jA x.jn x.jc, .slice x.dA x.dn x.dc, .int .i64 x.rule.num, .int .i64 x.rule.den, .int .i64 x.rule.pnum, .int .i64 x.rule.pden, .int .i64 x.rule.bnum, .int .i64 x.rule.bden, .int .i64 x.rule.lnum, .int .i64 x.rule.lden, .int .i64 x.rule.least] 34)) = W1 at *
  have HDB := Lib.hid hDB
  clear hDB
  go_wp2_with (first
    | ((with_reducible refine at_load 34 3 ?_); refine wpList_load_mid rfl 34 (.tmp 3) rfl _ _ rfl _ _ (HDB.out.via belr).range Tryz.underlying34 rfl (by kernel_rfl) ?_)
    | (go_at_call 81; (with_reducible refine (HAT.out _ belr).mono ?_); rintro e w2 ⟨rfl, hbw2⟩))
  go_ret2
  exact ⟨rfl, bel⟩
set_option maxHeartbeats 1000000 in
theorem Area_any (x : Dt) (C : List (List Int)) (n : Nat) (k : Nat) (w : World) (hC : C.length ≤ 2000) (hk : k < C.length)
    (hCH : ∀ W, Below w.heap.size w W → Calls Tryz.prog 93 #[dtV x] W (GivesSup x C n W)) :
    Calls Tryz.prog 41 #[dtV x, .int .i64 k] w fun e w' => ∃ (rs : List Rod) (c : SCh), e = .returned (.tuple #[.int .i64 c.area, .int .i64 0]) ∧ rs.length = n ∧ (∀ (i : Nat) (hi : i < rs.length), RodOk x i rs[i]) ∧ SchOk x rs C[k] c ∧ Below w.heap.size w w' := by
  have HCH := Lib.hid hCH
  clear hCH
  unfold dtV at HCH
  unfold dtV
  have hDB := Blk.new w 34 #[.string x.m.name, .slice x.mA x.mn x.mc, .slice x.hA x.hn x.hc, .int .i64 x.m.cover, .int .i64 x.m.aggr, .int .i64 x.m.poker, .slice x.bA x.bn x.bc, .slice x.rA x.rn x.rc, .slice x.jA x.jn x.jc, .slice x.dA x.dn x.dc, .int .i64 x.rule.num, .int .i64 x.rule.den, .int .i64 x.rule.pnum, .int .i64 x.rule.pden, .int .i64 x.rule.bnum, .int .i64 x.rule.bden, .int .i64 x.rule.lnum, .int .i64 x.rule.lden, .int .i64 x.rule.least]
  have hW1 : Below w.heap.size w (w.alloc (.cells #[.string x.m.name, .slice x.mA x.mn x.mc, .slice x.hA x.hn x.hc, .int .i64 x.m.cover, .int .i64 x.m.aggr, .int .i64 x.m.poker, .slice x.bA x.bn x.bc, .slice x.rA x.rn x.rc, .slice x.jA x.jn x.jc, .slice x.dA x.dn x.dc, .int .i64 x.rule.num, .int .i64 x.rule.den, .int .i64 x.rule.pnum, .int .i64 x.rule.pden, .int .i64 x.rule.bnum, .int .i64 x.rule.bden, .int .i64 x.rule.lnum, .int .i64 x.rule.lden, .int .i64 x.rule.least] 34)) := ba_alloc (Below.refl _ _) _
  go_enter Tryz.func41, Tryz.ntmps41
  go_upto_region 1 with fail
  generalize (w.alloc (.cells #[.string x.m.name, .slice x.mA x.mn x.mc, .slice x.hA x.hn x.hc, .int .i64 x.m.cover, .int .i64 x.m.aggr, .int .i64 x.m.poker, .slice x.bA x.bn x.bc, .slice x.rA x.rn x.rc, .slice x.jA x.jn x.jc, .slice x.dA x.dn x.dc, .int .i64 x.rule.num, .int .i64 x.rule.den, .int .i64 x.rule.pnum, .int .i64 x.rule.pden, .int .i64 x.rule.bnum, .int .i64 x.rule.bden, .int .i64 x.rule.lnum, .int .i64 x.rule.lden, .int .i64 x.rule.least] 34)) = W1 at *
  have HDB := Lib.hid hDB
  clear hDB
  go_upto_region 2 with (first
    | ((with_reducible refine at_load 34 2 ?_); refine wpList_load_mid rfl 34 (.tmp 2) rfl _ _ rfl _ _ (HDB.out.via belr).range Tryz.underlying34 rfl (by kernel_rfl) ?_)
    | (go_at_call 93; (with_reducible refine (HCH.out _ belr).mono ?_); rintro e w2 ⟨A1, c1, rs, A2, c2, cs, rfl, hrl, hok, hRA, hOW, hcl, hsch, hcc, hbw2⟩; have HRL := Lib.hid hrl; have HOK := Lib.hid hok; have HOW := Lib.hid hOW; have HCL := Lib.hid hcl; have HSC := Lib.hid hsch; clear hrl hok hRA hOW hcl hsch hcc))
  have hkx : k < cs.length := by rw [HCL.out]; exact hk
  have hCS := (own_cells HOW.out (by have := HCL.out; unfold maxLen; omega)).1
  obtain ⟨b2, o2, hA2, hbb2, hxx⟩ := hCS.at_ (by rw [flat_len schC 5 schC_len]; omega)
  clear hxx
  subst hA2
  have c3' := hCS.rowj schC_len hkx 4 rfl
  have HK := Lib.hid (HSC.out k hkx hk)
  have hki : (k : Int) < cs.length := by omega
  have hk0 : ¬ ((k : Int) < 0) := by omega
  have hk1 : ¬ ((cs.length : Int) ≤ k) := by omega
  clear hCS HOW HSC HCH HDB
  generalize cs[k] = c at *
  go_wp2
  go_ret2
  exact ⟨rs, c, rfl, HRL.out, HOK.out, HK.out, bel⟩
section
variable {x : Dt} {ds : List Dm} {w : World}
theorem bad_at (h : DtOk w x ds) (d p : Int) (hg : S.given26 x ds d p ≠ 0) : ∀ W, Below w.heap.size w W → Calls Tryz.prog 81 #[dtV x, .int .i64 d, .int .i64 p] W fun e w' => e = .returned (.tuple #[.slice none 0 0, .slice none 0 0, .int .i64 (S.given26 x ds d p)]) ∧ Below W.heap.size W w' := fun W hw => by
  by_cases hg0 : S.given26 x ds d 0 = 0
  · unfold S.given26 at hg hg0 ⊢
    by_cases hlk : S.look x (S.dems ds) = false
    · rw [if_pos hlk] at hg0; cases hg0
    · rw [if_neg hlk] at hg hg0 ⊢
      have hlk2 : S.look x (S.dems ds) = true := by simpa using hlk
      by_cases hr : d < 0 ∨ (ds.length : Int) ≤ d ∨ S.place p = false
      · rw [if_pos hr]
        by_cases hr0 : d < 0 ∨ (ds.length : Int) ≤ d ∨ S.place 0 = false
        · rw [if_pos hr0] at hg0; cases hg0
        · obtain ⟨m, rfl⟩ := Int.eq_ofNat_of_zero_le (show 0 ≤ d by omega)
          have hml : m < ds.length := by omega
          refine at_far x (S.cOf x) (S.nOf x) ds[m].zone m p W ?_ (fun V hV => good_sups h hlk2 (List.getElem?_eq_getElem hml) V (hw.trans (hV.mono hw.size)))
          have hpl : S.place p = false := by
            rcases hr with h1 | h1 | h1
            · omega
            · omega
            · exact h1
          unfold S.place at hpl
          rw [Bool.and_eq_false_iff, decide_eq_false_iff_not, decide_eq_false_iff_not] at hpl
          omega
      · rw [if_neg hr] at hg
        exact absurd rfl hg
  · have he : S.given26 x ds d p = S.given26 x ds d 0 := by
      unfold S.given26 at hg0 ⊢
      by_cases hlk : S.look x (S.dems ds) = false
      · rw [if_pos hlk, if_pos hlk]
      · rw [if_neg hlk] at hg0 ⊢
        rw [if_neg hlk]
        by_cases hr : d < 0 ∨ (ds.length : Int) ≤ d ∨ S.place 0 = false
        · have hr2 : d < 0 ∨ (ds.length : Int) ≤ d := by
            rcases hr with h1 | h1 | h1
            · exact .inl h1
            · exact .inr h1
            · exact absurd h1 (by decide)
          rw [if_pos hr, if_pos (by rcases hr2 with h1 | h1; exact .inl h1; exact .inr (.inl h1))]
        · rw [if_neg hr] at hg0
          exact absurd rfl hg0
    rw [he]
    refine at_err x d p _ W ?_ (fun V hV => bad_sups h d hg0 V (hw.trans (hV.mono hw.size)))
    simpa using hg0
theorem bad_At (h : DtOk w x ds) (d p : Int) (hg : S.given26 x ds d p ≠ 0) : ∀ W, Below w.heap.size w W → Calls Tryz.prog 30 #[dtV x, .int .i64 d, .int .i64 p] W fun e w' => e = .returned (.tuple #[.int .i64 0, .int .i64 (S.given26 x ds d p)]) ∧ Below W.heap.size W w' :=
  fun W hw => At_err x d p _ W (by simpa using hg) (fun V hV => bad_at h d p hg V (hw.trans (hV.mono hw.size)))
end
theorem area_mono {d e : Int} (h0 : 0 ≤ d) (h : d ≤ e) : S.steelArea d ≤ S.steelArea e := by
  unfold S.steelArea
  have h1 : d * d ≤ e * e := Int.mul_le_mul h h h0 (by omega)
  have e1 : 7854 * d * d = 7854 * (d * d) := Int.mul_assoc _ _ _
  have e2 : 7854 * e * e = 7854 * (e * e) := Int.mul_assoc _ _ _
  exact Int.ediv_le_ediv (by decide) (by omega)
theorem at_loadg {P : Program} {ops : Array Oper} {Q : Exit → Act → World → Prop} {rest : List Oper} {a : Act} {w : World} (ty : TypeId) (s : Nat) {dst : Option Nat} {t : TypeId} {pos : String} {after : Array Edge} {gd : Nat × Bool}
    (h : wpList P ops Q ({ dst := dst, op := .load ty (.tmp s), type := t, pos := pos, after := after, guard := some gd } :: rest) a w) : wpList P ops Q ({ dst := dst, op := .load ty (.tmp s), type := t, pos := pos, after := after, guard := some gd } :: rest) a w := h
section
variable {x : Dt} {ds : List Dm} {w : World}
theorem good_Area (h : DtOk w x ds) (hlk : S.look x (S.dems ds) = true) {k : Nat} (hk : k < (S.cOf x).length) {rs : List Rod} (hrs : RodsOf x (S.nOf x) rs) :
    ∀ W, Below w.heap.size w W → Calls Tryz.prog 41 #[dtV x, .int .i64 k] W fun e w' => e = .returned (.tuple #[.int .i64 (S.schOf x rs (S.cOf x)[k]).area, .int .i64 0]) ∧ Below W.heap.size W w' := fun W hw => by
  have g := look_ok hlk
  refine (Area_any x (S.cOf x) (S.nOf x) k W g.c2000 hk (fun V hV => good_chains h hlk V (hw.trans (hV.mono hw.size)))).mono ?_
  rintro e w' ⟨rs', c, rfl, h1, h2, h3, h4⟩
  refine ⟨?_, h4⟩
  have hb := sch_bare ⟨h1, h2⟩ hrs h3
  have e1 : c.bare.area = (S.schOf x rs (S.cOf x)[k]).area := congrArg SCh.area hb
  change c.area = _ at e1
  rw [e1]
end
def S.ascend (l : List Stp) : Prop := ∀ (i j : Nat) (hi : i < l.length) (hj : j < l.length), i < j → l[i].fro < l[j].fro
theorem steps_ascend {l : List Stp} (h : S.steps l = true) : S.ascend l := by
  simp only [S.steps, Bool.and_eq_true, List.all_eq_true, List.mem_range] at h
  have h1 : ∀ (j : Nat) (hj : j + 1 < l.length), l[j].fro < l[j + 1].fro := fun j hj => by
    have := h.2 (j + 1) hj
    unfold S.stepAt at this
    rw [List.getElem?_eq_getElem hj] at this
    simp only [List.getElem?_eq_getElem (show j < l.length by omega), Bool.and_eq_true, decide_eq_true_eq] at this
    exact this.2
  intro i j hi hj hij
  induction j with
  | zero => omega
  | succ j ih =>
    by_cases e : i = j
    · subst e; exact h1 i hj
    · have := ih (by omega) (by omega)
      have := h1 j hj
      omega
def S.upTo (x : Int) (l : List Stp) : Nat := l.countP (fun s => decide (s.fro ≤ x))
theorem upTo_eq {x : Int} {l : List Stp} {k : Nat} (hk : k ≤ l.length) (h1 : ∀ i (hi : i < l.length), i < k → l[i].fro ≤ x) (h2 : ∀ i (hi : i < l.length), k ≤ i → x < l[i].fro) : S.upTo x l = k := by
  have e : l = l.take k ++ l.drop k := (List.take_append_drop k l).symm
  unfold S.upTo
  rw [e, List.countP_append, List.countP_eq_length.2, List.countP_eq_zero.2, List.length_take]
  · omega
  · intro s hs
    obtain ⟨i, hi, rfl⟩ := List.mem_iff_getElem.1 hs
    rw [List.length_drop] at hi
    rw [List.getElem_drop]
    have := h2 (k + i) (by omega) (by omega)
    simpa using this
  · intro s hs
    obtain ⟨i, hi, rfl⟩ := List.mem_iff_getElem.1 hs
    rw [List.length_take] at hi
    rw [List.getElem_take]
    have := h1 i (by omega) (by omega)
    simpa using this
def S.valueOf (x : Int) (l : List Stp) : Int := match S.upTo x l with
  | 0 => 0
  | k + 1 => match l[k]? with | some s => s.val | none => 0
theorem at1_any (l : List Stp) (x : Int) (k : Nat) (hk : k < l.length) (g g2 : Nat) (A : Option Addr) (n c : Nat) (B : Nat) (w : World) (hB : B ≤ w.heap.size) (hn : l.length = n) (hg : w.cell? ⟨g, 0, none⟩ = some (.slice A n c)) (hg2 : w.cell? ⟨g2, 0, none⟩ = some (.int .i64 x)) (hl : g < w.heap.size) (hl2 : g2 < w.heap.size) (hs : Cells w B A (l.flatMap stC)) :
    Calls Tryz.prog 165 #[.int .i64 k, .pointer (some ⟨g, 0, none⟩), .pointer (some ⟨g2, 0, none⟩)] w fun e w' => e = .returned (.bool (decide (x < l[k].fro))) ∧ Below w.heap.size w w' := by
  obtain ⟨b, o, hA, hbB, hx⟩ := hs.at_ (by rw [flat_len stC 2 stC_len]; omega)
  clear hx
  rw [hA] at hs hg
  have c0 := hs.row0 stC_len hk rfl
  have hbl : b < w.heap.size := by omega
  have hki : (k : Int) < n := by omega
  generalize l[k] = r at *
  clear hs hA hn hk
  go_enter Tryz.func165, Tryz.ntmps165
  go_upto_region 1 with fail
  refine wp_region_mix 7 [] (by kernel_rfl) (by kernel_rfl) (of_decide_eq_true (by kernel_rfl)) ?_
  try simp only [wpSegs, List.take_succ_cons, List.take_zero, List.drop_succ_cons, List.drop_zero, List.take_nil, List.drop_nil]
  repeat (go_big_quiet_step (fail))
  refine wpQuiet_nil ?_
  show wpList _ _ _ _ _ _
  go_wp2
  go_ret
  exact ⟨rfl, bel⟩
set_option maxHeartbeats 1000000 in
theorem search_any (l : List Stp) (x : Int) (g g2 : Nat) (n : Nat) (w : World) (hn : l.length = n) (hm : n ≤ 1000000) (ha : S.ascend l)
    (hf : ∀ (k : Nat) (hk : k < l.length) (w' : World), Below w.heap.size w w' → Calls Tryz.prog 165 #[.int .i64 k, .pointer (some ⟨g, 0, none⟩), .pointer (some ⟨g2, 0, none⟩)] w' fun e w'' => e = .returned (.bool (decide (x < l[k].fro))) ∧ Below w'.heap.size w' w'') :
    Calls Tryz.prog 164 #[.int .i64 n, .func (.func 165) #[] #[.pointer (some ⟨g, 0, none⟩), .pointer (some ⟨g2, 0, none⟩)]] w fun e w' => e = .returned (.int .i64 (S.upTo x l)) ∧ Below w.heap.size w w' := by
  have HN := Lib.hid hn
  have HF := Lib.hid hf
  have HA := Lib.hid ha
  have hF := Tryz.call165
  clear hn hf ha
  go_enter Tryz.func164, Tryz.ntmps164
  go_wp2
  go_loopw [5, 6] (fun u v wr => ∃ i j : Nat, i ≤ j ∧ j ≤ n ∧ u = .int .i64 i ∧ v = .int .i64 j ∧ Hid (∀ q (hq : q < l.length), q < i → l[q].fro ≤ x) ∧ Hid (∀ q (hq : q < l.length), j ≤ q → x < l[q].fro) ∧ Below w.heap.size w wr) (fun u v _ => (intOf v).toNat - (intOf u).toNat)
  case atStart => exact ⟨0, n, Nat.zero_le _, Nat.le_refl _, rfl, rfl, Lib.hid fun q _ hq => absurd hq (by omega), Lib.hid fun q hq hnq => absurd hq (by have := HN.out; omega), Below.refl _ _⟩
  case round =>
    obtain ⟨i, j, hij, hj, rfl, rfl, h1, h2, hbr⟩ := hrel
    by_cases hlt : i < j
    · have hlti : (i : Int) < j := by omega
      obtain ⟨m, hmm⟩ : ∃ m : Nat, m = (i + j) / 2 := ⟨_, rfl⟩
      have hmi : i ≤ m := by omega
      have hmj : m < j := by omega
      have hml : m < l.length := by have := HN.out; omega
      have HFm := Lib.hid (fun (W : World) (hw : Below w.heap.size w W) => HF.out m hml W hw)
      have HM := Lib.hid hmm
      have hin : (m : Int) ≤ 1000000 := by omega
      go_upto_region 4 with fail
      rw [show ((i : Int) + (j : Int)) / 2 = (m : Int) by omega]
      have HAA := Lib.hid (fun q (hq : q < l.length) => HA.out q m hq hml)
      have HAB := Lib.hid (fun q (hq : q < l.length) => HA.out m q hml hq)
      clear hmm
      cases hc : decide (x < l[m].fro)
      · have HC := Lib.hid (of_decide_eq_false hc)
        rw [hc] at HFm
        clear hc
        go_wp2_with (first | (refine (HFm.out _ hbr).mono ?_; rintro e w1 ⟨rfl, hbw1⟩))
        go_roundw
        case rel =>
          refine ⟨m + 1, j, by omega, hj, by go_num, rfl, Lib.hid fun q hq hqm => ?_, h2, bel⟩
          have := HC.out
          by_cases e : q = m
          · subst e; omega
          · have := HAA.out q hq (by omega)
            omega
        case measure => simp [intOf]; omega
      · have HC := Lib.hid (of_decide_eq_true hc)
        rw [hc] at HFm
        clear hc
        go_wp2_with (first | (refine (HFm.out _ hbr).mono ?_; rintro e w1 ⟨rfl, hbw1⟩))
        go_roundw
        case rel =>
          refine ⟨i, m, hmi, by omega, rfl, rfl, h1, Lib.hid fun q hq hqm => ?_, bel⟩
          have := HC.out
          by_cases e : q = m
          · subst e; omega
          · have := HAB.out q hq (by omega)
            omega
        case measure => simp [intOf]; omega
    · have hE : i = j := by omega
      subst hE
      have HE := Lib.hid (upTo_eq (x := x) (l := l) (k := i) (by have := HN.out; omega) h1.out h2.out)
      go_wp2
      go_ret
      exact ⟨ret_i (by rw [HE.out]), hbr⟩
theorem stat_any (l : List Stp) (x : Int) (A : Option Addr) (n c : Nat) (B : Nat) (w : World) (hB : B ≤ w.heap.size) (hA : StepsAt w B A n l) (hm : n ≤ 1000000) (ha : S.ascend l) :
    Calls Tryz.prog 105 #[.slice A n c, .int .i64 x] w fun e w' => e = .returned (.int .i64 (S.valueOf x l)) ∧ Below w.heap.size w w' := by
  have HN := Lib.hid hA.len
  have hs := hA.cells
  have HS : Hid (∀ (W : World), Below ((w.alloc (.cells #[.slice A n c] 70)).alloc (.cells #[.int .i64 x] 3)).heap.size ((w.alloc (.cells #[.slice A n c] 70)).alloc (.cells #[.int .i64 x] 3)) W → Calls Tryz.prog 164 #[.int .i64 n, .func (.func 165) #[] #[.pointer (some ⟨w.heap.size, 0, none⟩), .pointer (some ⟨w.heap.size + 1, 0, none⟩)]] W fun e w' => e = .returned (.int .i64 (S.upTo x l)) ∧ Below W.heap.size W w') := Lib.hid (fun W hw =>
    search_any l x w.heap.size (w.heap.size + 1) n W hA.len hm ha (fun k hk V hV => at1_any l x k hk w.heap.size (w.heap.size + 1) A n c B V (by have := hw.size; have := hV.size; simp at *; omega) hA.len
      ((hV.cell (p := ⟨w.heap.size, 0, none⟩) (by have := hw.size; simp at *; omega)).trans ((hw.cell (p := ⟨w.heap.size, 0, none⟩) (by simp; omega)).trans (((Blk.new w 70 #[.slice A n c]).alloc (.cells #[.int .i64 x] 3)).cell 0)))
      ((hV.cell (p := ⟨w.heap.size + 1, 0, none⟩) (by have := hw.size; simp at *; omega)).trans ((hw.cell (p := ⟨w.heap.size + 1, 0, none⟩) (by simp)).trans (by simp)))
      (by have := hw.size; have := hV.size; simp at *; omega) (by have := hw.size; have := hV.size; simp at *; omega)
      (hs.below (((Below.refl B w).alloc hB _).alloc (by simp; omega) _ |>.trans ((hw.mono (by simp; omega)).trans (hV.mono (by have := hw.size; simp at *; omega)))))))
  have hle : S.upTo x l ≤ n := by unfold S.upTo; rw [← hA.len]; exact List.countP_le_length
  have HV := Lib.hid (show S.valueOf x l = (match S.upTo x l with | 0 => 0 | k + 1 => match l[k]? with | some s => s.val | none => 0) from rfl)
  clear hA
  generalize S.upTo x l = k at *
  rcases k with _ | k
  · have HV2 := Lib.hid (show S.valueOf x l = 0 from HV.out)
    go_enter Tryz.func105, Tryz.ntmps105
    go_wp2_with (first | (go_at_call 164; (with_reducible refine (HS.out _ belr).mono ?_); rintro e w1 ⟨rfl, hbw1⟩; obtain ⟨hcw1, hfw1⟩ := bcell hbw1; have hzw1_0 : w.heap.size < w1.heap.size := lt_via hbw1 (by first | omega | (simp; done) | (simp; omega)); have hzw1_1 : w.heap.size + 1 < w1.heap.size := lt_via hbw1 (by first | omega | (simp; done) | (simp; omega))))
    go_ret
    exact ⟨ret_i HV2.out.symm, bel⟩
  · have hkx : k < l.length := by have := HN.out; omega
    have HV2 := Lib.hid (show S.valueOf x l = l[k].val by rw [HV.out]; simp [hkx])
    obtain ⟨b, o, rfl, hbB, hx⟩ := hs.at_ (by rw [flat_len stC 2 stC_len]; omega)
    clear hx
    have c1 := hs.rowj stC_len hkx 1 rfl
    generalize l[k] = r at *
    have hbl : b < w.heap.size := by omega
    have hbl2 : b < w.heap.size + 1 := by omega
    have hbl3 : b < w.heap.size + 1 + 1 := by omega
    have hki : (k : Int) < n := by omega
    have e1 : IntKind.i64.wrap (((k + 1 : Nat) : Int) - 1) = (k : Int) := by rw [show (((k + 1 : Nat) : Int) - 1) = (k : Int) by omega]; exact IntWalk.i64_in _ (by omega)
    clear hs
    go_enter Tryz.func105, Tryz.ntmps105
    go_wp2_with (first | ((go_at_call 164; (with_reducible refine (HS.out _ belr).mono ?_); rintro e w1 ⟨rfl, hbw1⟩; obtain ⟨hcw1, hfw1⟩ := bcell hbw1; have hzw1_0 : w.heap.size < w1.heap.size := lt_via hbw1 (by first | omega | (simp; done) | (simp; omega)); have hzw1_1 : w.heap.size + 1 < w1.heap.size := lt_via hbw1 (by first | omega | (simp; done) | (simp; omega))); have hb1 : b < w1.heap.size := (by have := hbw1.size; simp at this; omega)))
    go_ret
    exact ⟨ret_i HV2.out.symm, bel⟩
theorem stAt_any (l : List Stp) (x : Int) (A : Option Addr) (n c : Nat) (B : Nat) (w : World) (hB : B ≤ w.heap.size) (hA : StepsAt w B A n l) (hm : n ≤ 1000000) (h : S.steps l = true) :
    Calls Tryz.prog 51 #[.slice A n c, .int .i64 x] w fun e w' => e = .returned (.tuple #[.int .i64 (S.valueOf x l), .int .i64 0]) ∧ Below w.heap.size w w' := by
  have HV := Lib.hid (fun (W : World) (hw : Below w.heap.size w W) => h ▸ steps_any l A n c B W (dsize hB hw) (hA.below (hw.mono hB)))
  have HT := Lib.hid (fun (W : World) (hw : Below w.heap.size w W) => stat_any l x A n c B W (dsize hB hw) (hA.below (hw.mono hB)) hm (steps_ascend h))
  clear hA h
  go_enter Tryz.func51, Tryz.ntmps51
  go_wp2_with (first
    | (go_at_call 104; (with_reducible refine (HV.out _ belr).mono ?_); rintro e w1 ⟨rfl, hbw1⟩; obtain ⟨hcw1, hfw1⟩ := bcell hbw1)
    | (go_at_call 105; (with_reducible refine (HT.out _ belr).mono ?_); rintro e w2 ⟨rfl, hbw2⟩; obtain ⟨hcw2, hfw2⟩ := bcell hbw2))
  go_ret2
  exact ⟨rfl, bel⟩
def S.valueV (v x : Int) (l : List Stp) : Int := match S.upTo x l with
  | 0 => v
  | k + 1 => match l[k]? with | some s => s.val | none => v
theorem upTo_cons (x : Int) (s : Stp) (l : List Stp) : S.upTo x (s :: l) = S.upTo x l + if s.fro ≤ x then 1 else 0 := by
  unfold S.upTo
  rw [List.countP_cons]
  simp
theorem upTo_none {x : Int} {l : List Stp} (h : ∀ s, s ∈ l → x < s.fro) : S.upTo x l = 0 := by
  unfold S.upTo
  rw [List.countP_eq_zero]
  intro s hs
  have := h s hs
  simp only [decide_eq_true_eq]
  omega
theorem valueV_cons {v x : Int} {s : Stp} {l : List Stp} (h : s.fro ≤ x) : S.valueV v x (s :: l) = S.valueV s.val x l := by
  unfold S.valueV
  rw [upTo_cons, if_pos h]
  cases hk : S.upTo x l with
  | zero => rfl
  | succ k =>
    show (match (s :: l)[k + 1]? with | some s => s.val | none => v) = (match l[k]? with | some s => s.val | none => s.val)
    rw [List.getElem?_cons_succ]
    have hlt : k < l.length := by
      have : S.upTo x l ≤ l.length := by unfold S.upTo; exact List.countP_le_length
      omega
    rw [List.getElem?_eq_getElem hlt]
theorem sh_mem {f : Int → Int} : ∀ {Q : List Int} {v : Int} {s : Stp}, s ∈ S.sh f v Q → s.fro ∈ Q := by
  intro Q
  induction Q with
  | nil => intro v s h; simp [S.sh] at h
  | cons q t ih =>
    intro v s h
    rw [S.sh] at h
    split at h
    · exact List.mem_cons_of_mem _ (ih h)
    · rcases List.mem_cons.1 h with h | h
      · subst h; exact List.mem_cons_self
      · exact List.mem_cons_of_mem _ (ih h)
theorem sh_value {f : Int → Int} {Q0 : List Int} (hc : ∀ a b, a ≤ b → (∀ q, q ∈ Q0 → ¬ (a < q ∧ q ≤ b)) → f a = f b) (p : Int) : ∀ (Q : List Int) (a : Int), Q.Pairwise (· < ·) → (∀ q, q ∈ Q → a < q) → (∀ q, q ∈ Q0 → a < q → q ∈ Q) → a ≤ p → S.valueV (f a) p (S.sh f (f a) Q) = f p := by
  intro Q
  induction Q with
  | nil =>
    intro a _ _ h0 hap
    have : f a = f p := hc a p hap (fun q hq ⟨h1, h2⟩ => absurd (h0 q hq h1) (by simp))
    rw [← this]
    rfl
  | cons q t ih =>
    intro a hP ha h0 hap
    rw [List.pairwise_cons] at hP
    have haq := ha q (by simp)
    by_cases hq : q ≤ p
    · have key := ih q hP.2 hP.1 (fun x hx hlt => by
        rcases List.mem_cons.1 (h0 x hx (by omega)) with h | h
        · omega
        · exact h) hq
      rw [S.sh]
      by_cases he : f q = f a
      · rw [if_pos he, ← he]
        exact key
      · rw [if_neg he, valueV_cons (show (⟨q, f q⟩ : Stp).fro ≤ p from hq)]
        exact key
    · have hz : S.upTo p (S.sh f (f a) (q :: t)) = 0 := upTo_none fun s hs => by
        rcases List.mem_cons.1 (sh_mem hs) with h | h
        · omega
        · have := hP.1 _ h; omega
      unfold S.valueV
      rw [hz]
      exact hc a p hap (fun x hx ⟨h1, h2⟩ => by
        rcases List.mem_cons.1 (h0 x hx h1) with h | h
        · omega
        · have := hP.1 _ h; omega)
theorem valueOf_V (x : Int) (l : List Stp) : S.valueOf x l = S.valueV 0 x l := by
  unfold S.valueOf S.valueV
  cases hk : S.upTo x l with
  | zero => rfl
  | succ k => rfl
theorem supplyOf_value {x : Dt} {rs : List Rod} {C : List (List Int)} (z : Bx) {p : Int} (hp : -1048576 ≤ p) (hin : ∀ c, c ∈ C.map (S.schOf x rs) → c.is = true → -1048576 ≤ c.lo ∧ c.lo < c.hi) : S.valueOf p (S.supplyOf x rs C z) = S.supplyAt x rs C z p := by
  rw [valueOf_V, supplyAt_sup]
  unfold S.supplyOf
  rw [short_ofL]
  have hsub : ∀ c, c ∈ (C.map (S.schOf x rs)).filter (S.sup rs z) → -1048576 ≤ c.lo ∧ c.lo < c.hi := fun c hc => by
    obtain ⟨h1, h2⟩ := List.mem_filter.1 hc
    unfold S.sup at h2
    rw [Bool.and_eq_true] at h2
    exact hin c h1 h2.1
  have h0 : S.valueAt (-1048577) ((C.map (S.schOf x rs)).filter (S.sup rs z)) = 0 := valueAt_none fun c hc => by
    have := hsub c hc
    omega
  obtain ⟨p1, p2⟩ := places_inv ((C.map (S.schOf x rs)).filter (S.sup rs z))
  have key := sh_value (f := fun p => S.valueAt p ((C.map (S.schOf x rs)).filter (S.sup rs z))) (valueAt_const ((C.map (S.schOf x rs)).filter (S.sup rs z))) p (S.places ((C.map (S.schOf x rs)).filter (S.sup rs z))) (-1048577) p1 (fun q hq => ?_) (fun q hq _ => (p2 q).2 hq) (by omega)
  · simp only [h0] at key
    exact key
  · obtain ⟨c, hc, he⟩ := ends2_mem.1 ((p2 q).1 hq)
    have := hsub c hc
    rcases he with rfl | rfl <;> omega
def S.leastA (rs : List Rod) (l : List Int) : Int := l.foldl (fun m b => if m = 0 ∨ S.areaI rs b < m then S.areaI rs b else m) 0
theorem leastA_next (rs : List Rod) {l : List Int} {k : Nat} (h : k < l.length) : S.leastA rs (l.take (k + 1)) = if S.leastA rs (l.take k) = 0 ∨ S.areaI rs l[k] < S.leastA rs (l.take k) then S.areaI rs l[k] else S.leastA rs (l.take k) := by
  have e : l.take (k + 1) = l.take k ++ [l[k]] := by rw [List.take_add_one, List.getElem?_eq_getElem h]; rfl
  unfold S.leastA
  rw [e, List.foldl_append]
  rfl
theorem leastA_min {x : Dt} {n : Nat} {rs : List Rod} (hla : S.laid (bars x.bs) x.rs = true) (hrs : RodsOf x n rs) {l : List Int} (hin : ∀ i, i ∈ l → 0 ≤ i ∧ i < (n : Int)) : ∀ k, 0 < k → k ≤ l.length → S.leastA rs (l.take k) = S.areaI rs (minBy (S.sizeI rs) (l.take k)) := by
  intro k
  induction k with
  | zero => intro h; omega
  | succ k ih =>
    intro _ hk
    have hkx : k < l.length := by omega
    obtain ⟨a1, _, a3⟩ := areaI_pos hla hrs (hin _ (List.getElem_mem hkx))
    rw [leastA_next rs hkx]
    by_cases h0 : k = 0
    · subst h0
      have e : S.leastA rs (l.take 0) = 0 := by simp [S.leastA]
      rw [if_pos (.inl e), minBy_one _ (by omega)]
    · have h1 := ih (by omega) (by omega)
      have hm := minBy_mem (S.sizeI rs) (xs := l) (k := k) (by omega) (by omega)
      obtain ⟨b1, _, b3⟩ := areaI_pos hla hrs (hin _ hm)
      rw [h1, minBy_next (S.sizeI rs) hkx (by omega)]
      generalize minBy (S.sizeI rs) (l.take k) = m at *
      generalize l[k] = i at *
      have s1 : 0 ≤ S.sizeI rs i := by rcases size_cases a3 with h | h | h | h | h | h | h | h | h <;> omega
      have s2 : 0 ≤ S.sizeI rs m := by rcases size_cases b3 with h | h | h | h | h | h | h | h | h <;> omega
      by_cases hlt : S.sizeI rs i < S.sizeI rs m
      · have hle : S.areaI rs i ≤ S.areaI rs m := area_mono s1 (by omega)
        rw [if_pos hlt]
        split
        · rfl
        · rename_i hn
          have : ¬ S.areaI rs i < S.areaI rs m := fun h => hn (.inr h)
          omega
      · have hle : S.areaI rs m ≤ S.areaI rs i := area_mono s2 (by omega)
        rw [if_neg hlt, if_neg (by omega)]
theorem leastA_all {x : Dt} {n : Nat} {rs : List Rod} (hla : S.laid (bars x.bs) x.rs = true) (hrs : RodsOf x n rs) {l : List Int} (hin : ∀ i, i ∈ l → 0 ≤ i ∧ i < (n : Int)) (h0 : 0 < l.length) : S.leastA rs l = (S.schOf x rs l).area := by
  have := leastA_min hla hrs hin l.length h0 (Nat.le_refl _)
  rw [List.take_length] at this
  exact this
set_option maxRecDepth 20000 in
set_option maxHeartbeats 4000000 in
theorem sumsLaw_big (x : Dt) (d p : Int) (w : World)
    (hSM : ∀ W, Below w.heap.size w W → Calls Tryz.prog 29 #[dtV x] W fun e w' => e = .returned (.bool false) ∧ Below W.heap.size W w') :
    Calls Tryz.prog 11 #[dtV x, .int .i64 d, .int .i64 p] w fun e w' => e = .returned (.bool true) ∧ Below w.heap.size w w' := by
  have HA := Lib.hid (fun w => awake26_any w)
  have HSM := Lib.hid hSM
  clear hSM
  unfold dtV at HSM
  unfold dtV
  have hDB := Blk.new w 34 #[.string x.m.name, .slice x.mA x.mn x.mc, .slice x.hA x.hn x.hc, .int .i64 x.m.cover, .int .i64 x.m.aggr, .int .i64 x.m.poker, .slice x.bA x.bn x.bc, .slice x.rA x.rn x.rc, .slice x.jA x.jn x.jc, .slice x.dA x.dn x.dc, .int .i64 x.rule.num, .int .i64 x.rule.den, .int .i64 x.rule.pnum, .int .i64 x.rule.pden, .int .i64 x.rule.bnum, .int .i64 x.rule.bden, .int .i64 x.rule.lnum, .int .i64 x.rule.lden, .int .i64 x.rule.least]
  have hW1 : Below w.heap.size w (w.alloc (.cells #[.string x.m.name, .slice x.mA x.mn x.mc, .slice x.hA x.hn x.hc, .int .i64 x.m.cover, .int .i64 x.m.aggr, .int .i64 x.m.poker, .slice x.bA x.bn x.bc, .slice x.rA x.rn x.rc, .slice x.jA x.jn x.jc, .slice x.dA x.dn x.dc, .int .i64 x.rule.num, .int .i64 x.rule.den, .int .i64 x.rule.pnum, .int .i64 x.rule.pden, .int .i64 x.rule.bnum, .int .i64 x.rule.bden, .int .i64 x.rule.lnum, .int .i64 x.rule.lden, .int .i64 x.rule.least] 34)) := ba_alloc (Below.refl _ _) _
  go_enter Tryz.func11, Tryz.ntmps11
  go_upto_region 1 with fail
  generalize (w.alloc (.cells #[.string x.m.name, .slice x.mA x.mn x.mc, .slice x.hA x.hn x.hc, .int .i64 x.m.cover, .int .i64 x.m.aggr, .int .i64 x.m.poker, .slice x.bA x.bn x.bc, .slice x.rA x.rn x.rc, .slice x.jA x.jn x.jc, .slice x.dA x.dn x.dc, .int .i64 x.rule.num, .int .i64 x.rule.den, .int .i64 x.rule.pnum, .int .i64 x.rule.pden, .int .i64 x.rule.bnum, .int .i64 x.rule.bden, .int .i64 x.rule.lnum, .int .i64 x.rule.lden, .int .i64 x.rule.least] 34)) = W1 at *
  have HDB := Lib.hid hDB
  clear hDB
  go_wp2_with (first
    | (go_at_call 28; (with_reducible refine (HA.out _).mono ?_); rintro e wa ⟨rfl, hbwa⟩)
    | ((with_reducible refine at_load 34 3 ?_); refine wpList_load_mid rfl 34 (.tmp 3) rfl _ _ rfl _ _ (HDB.out.via belr).range Tryz.underlying34 rfl (by kernel_rfl) ?_)
    | (go_at_call 29; (with_reducible refine (HSM.out _ belr).mono ?_); rintro e wb ⟨rfl, hbwb⟩))
  go_ret
  exact ⟨rfl, bel⟩
set_option maxRecDepth 20000 in
set_option maxHeartbeats 4000000 in
theorem sumsLaw_err (x : Dt) (d p er : Int) (w : World) (he : (er == 0) = false)
    (hSM : ∀ W, Below w.heap.size w W → Calls Tryz.prog 29 #[dtV x] W fun e w' => e = .returned (.bool true) ∧ Below W.heap.size W w')
    (hAT : ∀ W, Below w.heap.size w W → Calls Tryz.prog 30 #[dtV x, .int .i64 d, .int .i64 p] W fun e w' => e = .returned (.tuple #[.int .i64 0, .int .i64 er]) ∧ Below W.heap.size W w') :
    Calls Tryz.prog 11 #[dtV x, .int .i64 d, .int .i64 p] w fun e w' => e = .returned (.bool true) ∧ Below w.heap.size w w' := by
  have HA := Lib.hid (fun w => awake26_any w)
  have HSM := Lib.hid hSM
  have HAT := Lib.hid hAT
  have he2 : ¬ (er = 0) := by simpa using he
  clear hSM hAT
  unfold dtV at HSM HAT
  unfold dtV
  have hDB := Blk.new w 34 #[.string x.m.name, .slice x.mA x.mn x.mc, .slice x.hA x.hn x.hc, .int .i64 x.m.cover, .int .i64 x.m.aggr, .int .i64 x.m.poker, .slice x.bA x.bn x.bc, .slice x.rA x.rn x.rc, .slice x.jA x.jn x.jc, .slice x.dA x.dn x.dc, .int .i64 x.rule.num, .int .i64 x.rule.den, .int .i64 x.rule.pnum, .int .i64 x.rule.pden, .int .i64 x.rule.bnum, .int .i64 x.rule.bden, .int .i64 x.rule.lnum, .int .i64 x.rule.lden, .int .i64 x.rule.least]
  have hW1 : Below w.heap.size w (w.alloc (.cells #[.string x.m.name, .slice x.mA x.mn x.mc, .slice x.hA x.hn x.hc, .int .i64 x.m.cover, .int .i64 x.m.aggr, .int .i64 x.m.poker, .slice x.bA x.bn x.bc, .slice x.rA x.rn x.rc, .slice x.jA x.jn x.jc, .slice x.dA x.dn x.dc, .int .i64 x.rule.num, .int .i64 x.rule.den, .int .i64 x.rule.pnum, .int .i64 x.rule.pden, .int .i64 x.rule.bnum, .int .i64 x.rule.bden, .int .i64 x.rule.lnum, .int .i64 x.rule.lden, .int .i64 x.rule.least] 34)) := ba_alloc (Below.refl _ _) _
  go_enter Tryz.func11, Tryz.ntmps11
  go_upto_region 1 with fail
  generalize (w.alloc (.cells #[.string x.m.name, .slice x.mA x.mn x.mc, .slice x.hA x.hn x.hc, .int .i64 x.m.cover, .int .i64 x.m.aggr, .int .i64 x.m.poker, .slice x.bA x.bn x.bc, .slice x.rA x.rn x.rc, .slice x.jA x.jn x.jc, .slice x.dA x.dn x.dc, .int .i64 x.rule.num, .int .i64 x.rule.den, .int .i64 x.rule.pnum, .int .i64 x.rule.pden, .int .i64 x.rule.bnum, .int .i64 x.rule.bden, .int .i64 x.rule.lnum, .int .i64 x.rule.lden, .int .i64 x.rule.least] 34)) = W1 at *
  have HDB := Lib.hid hDB
  clear hDB
  go_wp2_with (first
    | (go_at_call 28; (with_reducible refine (HA.out _).mono ?_); rintro e wa ⟨rfl, hbwa⟩)
    | ((with_reducible refine at_load 34 3 ?_); refine wpList_load_mid rfl 34 (.tmp 3) rfl _ _ rfl _ _ (HDB.out.via belr).range Tryz.underlying34 rfl (by kernel_rfl) ?_)
    | (go_at_call 29; (with_reducible refine (HSM.out _ belr).mono ?_); rintro e wb ⟨rfl, hbwb⟩)
    | (go_at_call 30; (with_reducible refine (HAT.out _ belr).mono ?_); rintro e wd ⟨rfl, hbwd⟩))
  go_ret
  exact ⟨rfl, bel⟩
def S.inAll (T I : Int → Bool) (l : List Int) : Bool := l.all fun i => T i && I i
def S.leastZ (Z : Int → Int) (l : List Int) : Int := l.foldl (fun m b => if m = 0 ∨ S.steelArea (Z b) < m then S.steelArea (Z b) else m) 0
theorem inAll_next (T I : Int → Bool) {l : List Int} {k : Nat} (h : k < l.length) : S.inAll T I (l.take (k + 1)) = (S.inAll T I (l.take k) && (T l[k] && I l[k])) := by
  have e : l.take (k + 1) = l.take k ++ [l[k]] := by rw [List.take_add_one, List.getElem?_eq_getElem h]; rfl
  unfold S.inAll
  rw [e, List.all_append]
  simp
theorem leastZ_next (Z : Int → Int) {l : List Int} {k : Nat} (h : k < l.length) : S.leastZ Z (l.take (k + 1)) = if S.leastZ Z (l.take k) = 0 ∨ S.steelArea (Z l[k]) < S.leastZ Z (l.take k) then S.steelArea (Z l[k]) else S.leastZ Z (l.take k) := by
  have e : l.take (k + 1) = l.take k ++ [l[k]] := by rw [List.take_add_one, List.getElem?_eq_getElem h]; rfl
  unfold S.leastZ
  rw [e, List.foldl_append]
  rfl
def S.brings (lo hi : Int) (is : Bool) (all : Bool) (p : Int) : Bool := is && all && decide (lo ≤ p) && decide (p < hi)
set_option maxRecDepth 20000 in
set_option maxHeartbeats 16000000 in
theorem sumsLaw_yes (x : Dt) (k : Nat) (p n : Int) (N : Nat) (dm : Dm) (L : List Stp) (C : List (List Int)) (g : List Int → SCh) (Z : Int → Int) (M : Int → Bx) (T I : Int → Bool) (V : Nat → Int) (w : World)
    (hN : N ≤ 2000) (hCl : C.length ≤ 100) (hk : k < x.dn) (hL : L.length ≤ 200) (hcin : ChIn C N) (hbs : BarSays x N dm Z M T I w)
    (har : ∀ l, l ∈ C → S.leastZ Z l = (g l).area ∧ 0 ≤ (g l).area ∧ (g l).area ≤ 1000000)
    (hV0 : V 0 = 0) (hVs : ∀ q (hq : q < C.length), V (q + 1) = if S.brings (g C[q]).lo (g C[q]).hi (g C[q]).is (S.inAll T I C[q]) p = true then V q + (g C[q]).area else V q) (hVn : V C.length = n) (hVb : ∀ q, q ≤ C.length → 0 ≤ V q ∧ V q ≤ 1000000000)
    (hdc : ∀ W, Below w.heap.size w W → ∃ bD oD, x.dA = some ⟨bD, oD, none⟩ ∧ bD < W.heap.size ∧ ∀ j v, (dmC dm)[j]? = some v → W.cell? ⟨bD, oD + k * 8 + j, none⟩ = some v)
    (hSM : ∀ W, Below w.heap.size w W → Calls Tryz.prog 29 #[dtV x] W fun e w' => e = .returned (.bool true) ∧ Below W.heap.size W w')
    (hAT : ∀ W, Below w.heap.size w W → Calls Tryz.prog 30 #[dtV x, .int .i64 k, .int .i64 p] W fun e w' => e = .returned (.tuple #[.int .i64 n, .int .i64 0]) ∧ Below W.heap.size W w')
    (hOF : ∀ W, Below w.heap.size w W → Calls Tryz.prog 31 #[dtV x, .int .i64 k] W (GivesSt L W))
    (hSA : ∀ (A : Option Addr) (c : Nat) W, Cells W W.heap.size A (L.flatMap stC) → Calls Tryz.prog 51 #[.slice A L.length c, .int .i64 p] W fun e w' => e = .returned (.tuple #[.int .i64 n, .int .i64 0]) ∧ Below W.heap.size W w')
    (hLC : ∀ W, Below w.heap.size w W → Calls Tryz.prog 18 #[dtV x] W (GivesChE C W))
    (hCO : ∀ W, Below w.heap.size w W → Calls Tryz.prog 42 #[dtV x] W fun e w' => e = .returned (.int .i64 N) ∧ Below W.heap.size W w')
    (hANy : ∀ q (hq : q < C.length), (g C[q]).is = true → ∀ W, Below w.heap.size w W → Calls Tryz.prog 40 #[dtV x, .int .i64 q] W fun e w' => e = .returned (.tuple #[.agg #[.int .i64 (g C[q]).lo, .int .i64 (g C[q]).hi], .int .i64 0]) ∧ Below W.heap.size W w')
    (hANn : ∀ q (hq : q < C.length), (g C[q]).is = false → ∀ W, Below w.heap.size w W → Calls Tryz.prog 40 #[dtV x, .int .i64 q] W fun e w' => e = .returned (.tuple #[.agg #[.int .i64 (g C[q]).lo, .int .i64 (g C[q]).hi], .int .i64 12]) ∧ Below W.heap.size W w')
    (hAR : ∀ q (hq : q < C.length), ∀ W, Below w.heap.size w W → Calls Tryz.prog 41 #[dtV x, .int .i64 q] W fun e w' => e = .returned (.tuple #[.int .i64 (g C[q]).area, .int .i64 0]) ∧ Below W.heap.size W w') :
    Calls Tryz.prog 11 #[dtV x, .int .i64 k, .int .i64 p] w fun e w' => e = .returned (.bool true) ∧ Below w.heap.size w w' := by
  have HA := Lib.hid (fun w => awake26_any w)
  have HSM := Lib.hid hSM
  have HAT := Lib.hid hAT
  have HOF := Lib.hid hOF
  have HSA := Lib.hid hSA
  have HLC := Lib.hid hLC
  have HCO := Lib.hid hCO
  have HANY := Lib.hid hANy
  have HANN := Lib.hid hANn
  have HAR := Lib.hid hAR
  have HBS := Lib.hid hbs.size
  have HBO := Lib.hid hbs.ok
  have HBY := Lib.hid hbs.legY
  have HBN := Lib.hid hbs.legN
  have HBI := Lib.hid hbs.inn
  have HARE := Lib.hid har
  have HV0 := Lib.hid hV0
  have HVS := Lib.hid hVs
  have HVN := Lib.hid hVn
  have HVB := Lib.hid hVb
  have HDC := Lib.hid hdc
  have HCI := Lib.hid hcin
  clear hSM hAT hOF hSA hLC hCO hANy hANn hAR hbs har hV0 hVs hVn hVb hdc hcin
  unfold dtV at HSM HAT HOF HLC HCO HANY HANN HAR HBS HBY HBN
  unfold boxV at HBY HBN HBI
  unfold dmV at HBI
  unfold dtV
  have hki : ¬ ((k : Int) < 0) := by omega
  have hki2 : ¬ ((x.dn : Int) ≤ k) := by omega
  have hki3 : (k : Int) < x.dn := by omega
  have hkb0 : decide ((k : Int) < 0) = false := decide_eq_false hki
  have hkb1 : decide ((x.dn : Int) ≤ (k : Int)) = false := decide_eq_false hki2
  have hkb2 : decide (x.dn ≤ k) = false := decide_eq_false (by omega)
  have hDB := Blk.new w 34 #[.string x.m.name, .slice x.mA x.mn x.mc, .slice x.hA x.hn x.hc, .int .i64 x.m.cover, .int .i64 x.m.aggr, .int .i64 x.m.poker, .slice x.bA x.bn x.bc, .slice x.rA x.rn x.rc, .slice x.jA x.jn x.jc, .slice x.dA x.dn x.dc, .int .i64 x.rule.num, .int .i64 x.rule.den, .int .i64 x.rule.pnum, .int .i64 x.rule.pden, .int .i64 x.rule.bnum, .int .i64 x.rule.bden, .int .i64 x.rule.lnum, .int .i64 x.rule.lden, .int .i64 x.rule.least]
  have hW1 : Below w.heap.size w (w.alloc (.cells #[.string x.m.name, .slice x.mA x.mn x.mc, .slice x.hA x.hn x.hc, .int .i64 x.m.cover, .int .i64 x.m.aggr, .int .i64 x.m.poker, .slice x.bA x.bn x.bc, .slice x.rA x.rn x.rc, .slice x.jA x.jn x.jc, .slice x.dA x.dn x.dc, .int .i64 x.rule.num, .int .i64 x.rule.den, .int .i64 x.rule.pnum, .int .i64 x.rule.pden, .int .i64 x.rule.bnum, .int .i64 x.rule.bden, .int .i64 x.rule.lnum, .int .i64 x.rule.lden, .int .i64 x.rule.least] 34)) := ba_alloc (Below.refl _ _) _
  go_enter Tryz.func11, Tryz.ntmps11
  go_upto_region 1 with fail
  generalize (w.alloc (.cells #[.string x.m.name, .slice x.mA x.mn x.mc, .slice x.hA x.hn x.hc, .int .i64 x.m.cover, .int .i64 x.m.aggr, .int .i64 x.m.poker, .slice x.bA x.bn x.bc, .slice x.rA x.rn x.rc, .slice x.jA x.jn x.jc, .slice x.dA x.dn x.dc, .int .i64 x.rule.num, .int .i64 x.rule.den, .int .i64 x.rule.pnum, .int .i64 x.rule.pden, .int .i64 x.rule.bnum, .int .i64 x.rule.bden, .int .i64 x.rule.lnum, .int .i64 x.rule.lden, .int .i64 x.rule.least] 34)) = W1 at *
  have HDB := Lib.hid hDB
  clear hDB
  go_upto_region 9 with (first
    | (go_at_call 28; (with_reducible refine (HA.out _).mono ?_); rintro e wa ⟨rfl, hbwa⟩)
    | ((with_reducible refine at_load 34 3 ?_); refine wpList_load_mid rfl 34 (.tmp 3) rfl _ _ rfl _ _ (HDB.out.via belr).range Tryz.underlying34 rfl (by kernel_rfl) ?_)
    | (go_at_call 29; (with_reducible refine (HSM.out _ belr).mono ?_); rintro e wb ⟨rfl, hbwb⟩)
    | (go_at_call 30; (with_reducible refine (HAT.out _ belr).mono ?_); rintro e wc ⟨rfl, hbwc⟩)
    | (go_at_call 31; (with_reducible refine (HOF.out _ belr).mono ?_); rintro e wd ⟨A3, c3, rfl, hO3, hbwd⟩; have HC3 := Lib.hid (own_cells hO3 (by unfold maxLen; omega)).1; clear hO3))
  have hb1d : Below W1.heap.size W1 wd := ba_via hbwd (ba_via hbwc (ba_via hbwb hbwa))
  have hwd : Below w.heap.size w wd := ba_via hb1d hW1
  have HDd := Lib.hid (HDB.out.via hb1d)
  have HSd := Lib.hid (HSA.out A3 c3 wd HC3.out)
  clear hbwa hbwb hbwc hbwd hb1d hW1 HDB HC3 HA HSM HAT HOF HSA
  go_upto_region 11 with (first
    | ((with_reducible refine at_load 34 3 ?_); refine wpList_load_mid rfl 34 (.tmp 3) rfl _ _ rfl _ _ (HDd.out.via belr).range Tryz.underlying34 rfl (by kernel_rfl) ?_)
    | (go_at_call 51; (with_reducible refine (HSd.out).mono ?_); rintro e we ⟨rfl, hbwe⟩)
    | (go_at_call 18; (with_reducible refine (HLC.out _ (ba_via belr hwd)).mono ?_); rintro e w1 ⟨A1, c1, rs, rfl, hrs, hrc, hcc, hce, hbw1⟩))
  have hbd1 : Below wd.heap.size wd w1 := ba_via hbw1 hbwe
  have hw1 : Below w.heap.size w w1 := ba_via hbd1 hwd
  have HD1 := Lib.hid (HDd.out.via hbd1)
  have hrl : rs.length = C.length := by rw [← hrs, List.length_map]
  have HRL := Lib.hid (fun (q : Nat) (hq : q < rs.length) (hqC : q < C.length) => show rs[q].l = C[q] from by
    have h1 : (rs.map (·.l))[q]? = C[q]? := by rw [hrs]
    rw [List.getElem?_map, List.getElem?_eq_getElem hq, List.getElem?_eq_getElem hqC] at h1
    exact Option.some.inj h1)
  have HCC := Lib.hid hcc
  have HCE := Lib.hid hce
  obtain ⟨nc, hnc⟩ : ∃ nc, nc = rs.length := ⟨_, rfl⟩
  have HNR := Lib.hid hnc
  have HNC := Lib.hid (hnc.trans hrl)
  rw [← hnc]
  have hncl : nc ≤ 100 := by rw [hnc, hrl]; exact hCl
  have nn : (n != n) = false := by simp
  have hDd1 := HD1.out
  have d9 := hDd1.cell 9
  have dl := hDd1.lt
  simp only [List.getElem?_toArray, List.getElem?_cons_zero, List.getElem?_cons_succ] at d9
  clear hrs hrc hcc hce hbw1 hbwe hnc hrl hCl hbd1 HDd HSd HLC hwd hDd1
  go_upto_region 14 with fail
  clear d9 dl nn
  go_wp2
  go_loopw [15, 93] (fun v i wr => ∃ q : Nat, q ≤ nc ∧ i = .int .i64 q ∧ ∃ u : Int, v = .int .i64 u ∧ Hid (u = V q) ∧ Below w1.heap.size w1 wr) (fun _ i _ => nc - (intOf i).toNat)
  case atStart => exact ⟨0, Nat.zero_le _, rfl, 0, rfl, Lib.hid HV0.out.symm, Below.refl _ _⟩
  case round =>
    generalize wr = wq at *
    obtain ⟨q, hq, rfl, u, rfl, hu, hbq⟩ := hrel
    have hbwq : Below w.heap.size w wq := ba_via hbq hw1
    have hqs := hbq.size
    by_cases hlt : q < nc
    · have hqx : q < rs.length := by rw [← HNR.out]; exact hlt
      have hqC : q < C.length := by rw [← HNC.out]; exact hlt
      have hqi : (q : Int) < nc := by omega
      have hub := HVB.out q (by omega)
      rw [← hu.out] at hub
      have HVN1 := Lib.hid (HVS.out q hqC)
      rw [← hu.out] at HVN1
      obtain ⟨bA, oA, hAe, hbA, hxx⟩ := (HCC.out.below hbq).at_ (by rw [List.length_map]; omega)
      clear hxx
      have hc0 := (HCC.out.below hbq)
      rw [hAe] at hc0
      have c0 := hc0.get (k := q) (v := chV rs[q]) (by rw [List.getElem?_map, List.getElem?_eq_getElem hqx]; rfl)
      have hrq := HRL.out q hqx hqC
      have HCQ := Lib.hid (((HCE.out rs[q] (List.getElem_mem hqx)).1.below hbq).mono hqs)
      unfold chV at c0
      rw [hrq] at c0 HCQ
      have hmem := List.getElem_mem hqC
      have hbAl : bA < wq.heap.size := by omega
      have HANy := Lib.hid (fun (h : (g C[q]).is = true) (W : World) (hw : Below wq.heap.size wq W) => HANY.out q hqC h W (ba_via hw hbwq))
      have HANn := Lib.hid (fun (h : (g C[q]).is = false) (W : World) (hw : Below wq.heap.size wq W) => HANN.out q hqC h W (ba_via hw hbwq))
      have HARq := Lib.hid (fun (W : World) (hw : Below wq.heap.size wq W) => HAR.out q hqC W (ba_via hw hbwq))
      have HDQ := Lib.hid (HD1.out.via hbq)
      obtain ⟨hl0, hl1, hl2⟩ := HCI.out _ hmem
      obtain ⟨ha1, ha2, ha3⟩ := HARE.out _ hmem
      have HL2 := Lib.hid hl2
      have HA1 := Lib.hid ha1
      rw [hAe]
      clear hc0 hmem hrq hAe hl2 ha1
      generalize rs[q].A = rA at *
      generalize rs[q].c = rc at *
      generalize (g C[q]).area = av at *
      generalize (g C[q]).lo = lo at *
      generalize (g C[q]).hi = hi at *
      generalize (g C[q]).is = tok at *
      generalize C[q] = l at *
      obtain ⟨er, her, HAQ⟩ : ∃ er : Int, Hid (er = if tok = true then 0 else 12) ∧ Hid (∀ W, Below wq.heap.size wq W → Calls Tryz.prog 40 #[.agg #[.string x.m.name, .slice x.mA x.mn x.mc, .slice x.hA x.hn x.hc, .int .i64 x.m.cover, .int .i64 x.m.aggr, .int .i64 x.m.poker, .slice x.bA x.bn x.bc, .slice x.rA x.rn x.rc, .slice x.jA x.jn x.jc, .slice x.dA x.dn x.dc, .int .i64 x.rule.num, .int .i64 x.rule.den, .int .i64 x.rule.pnum, .int .i64 x.rule.pden, .int .i64 x.rule.bnum, .int .i64 x.rule.bden, .int .i64 x.rule.lnum, .int .i64 x.rule.lden, .int .i64 x.rule.least], .int .i64 q] W fun e w' => e = .returned (.tuple #[.agg #[.int .i64 lo, .int .i64 hi], .int .i64 er]) ∧ Below W.heap.size W w') := by
        cases tok
        · exact ⟨12, Lib.hid rfl, Lib.hid (HANn.out rfl)⟩
        · exact ⟨0, Lib.hid rfl, Lib.hid (HANy.out rfl)⟩
      clear HANy HANn
      obtain ⟨lz, hlz⟩ : ∃ lz, lz = l.length := ⟨_, rfl⟩
      have HLZ := Lib.hid hlz
      rw [← hlz] at c0 hl0 hl1
      clear hlz
      go_upto_region 18 with (first
        | ((with_reducible refine at_load 34 3 ?_); refine wpList_load_mid rfl 34 (.tmp 3) rfl _ _ rfl _ _ (HDQ.out.via belr).range Tryz.underlying34 rfl (by kernel_rfl) ?_)
        | (go_at_call 40; (with_reducible refine (HAQ.out _ belr).mono ?_); rintro e w2 ⟨rfl, hbw2⟩))
      have hb3 : Below wq.heap.size wq (w2.alloc (.cells #[.int .i64 lo, .int .i64 hi] 45)) := belr
      have hSP := Blk.new w2 45 #[.int .i64 lo, .int .i64 hi]
      generalize (w2.alloc (.cells #[.int .i64 lo, .int .i64 hi] 45)) = W3 at *
      generalize w2.heap.size = g3 at *
      clear hbw2
      have HSP := Lib.hid hSP
      have HD3 := Lib.hid (HDQ.out.via hb3)
      clear hSP
      go_upto_region 19 with (first
        | ((with_reducible refine at_load 34 3 ?_); refine wpList_load_mid rfl 34 (.tmp 3) rfl _ _ rfl _ _ (HD3.out.via belr).range Tryz.underlying34 rfl (by kernel_rfl) ?_)
        | (go_at_call 41; (with_reducible refine (HARq.out _ (ba_via belr hb3)).mono ?_); rintro e w4 ⟨rfl, hbw4⟩))
      have hbq4 : Below wq.heap.size wq w4 := ba_via hbw4 hb3
      have hw4 : Below w.heap.size w w4 := ba_via hbq4 hbwq
      have HS4 := Lib.hid (HSP.out.via hbw4)
      have HD4 := Lib.hid (HD3.out.via hbw4)
      have HC4 := Lib.hid ((HCQ.out.below hbq4).mono hbq4.size)
      clear hbw4 HSP HD3 HDQ HCQ hb3 c0 hbAl
      have her0 : er = 0 ∨ er = 12 := by
        have := her.out
        split at this
        · exact .inl this
        · exact .inr this
      go_cut [119] from 110 to 119 (fun s wx => s = .bool false ∧ Below w4.heap.size w4 wx)
      case first =>
        rcases her0 with rfl | rfl
        · go_wp2
          go_meet
          exact ⟨rfl, belr⟩
        · go_wp2
          go_meet
          exact ⟨rfl, belr⟩
      case rest =>
        obtain ⟨rfl, hbc⟩ := hcut
        generalize wc = w5 at *
        have hbq5 : Below wq.heap.size wq w5 := ba_via hbc hbq4
        have hw5 : Below w.heap.size w w5 := ba_via hbc hw4
        have HS5 := Lib.hid (HS4.out.via hbc)
        have HD5 := Lib.hid (HD4.out.via hbc)
        have HC5 := Lib.hid ((HC4.out.below hbc).mono hbc.size)
        clear HS4 HD4 HC4 hbq4 hw4 hbc her0
        go_upto_region 22 with fail
        go_wp2
        go_loopw [22, 23, 122] (fun s22 s23 s122 wr => ∃ j : Nat, j ≤ lz ∧ s122 = .int .i64 j ∧ s22 = .bool (S.inAll T I (l.take j)) ∧ ∃ m : Int, s23 = .int .i64 m ∧ Hid (m = S.leastZ Z (l.take j)) ∧ Below w5.heap.size w5 wr) (fun _ _ s _ => lz - (intOf s).toNat)
        case atStart => exact ⟨0, Nat.zero_le _, rfl, rfl, 0, rfl, Lib.hid rfl, Below.refl _ _⟩
        case round =>
          obtain ⟨j, hj, rfl, rfl, m, rfl, hm, hbr⟩ := hrel
          have hbwr : Below w.heap.size w wr := ba_via hbr hw5
          have hrs5 := hbr.size
          by_cases hltj : j < lz
          · have hjx : j < l.length := by rw [← HLZ.out]; exact hltj
            have hji : (j : Int) < lz := by omega
            have hcj := HC5.out.below hbr
            obtain ⟨bR, oR, hRe, hbR, hxx⟩ := hcj.at_ (by simp; omega)
            clear hxx
            subst hRe
            have cj := hcj.get (k := j) (v := .int .i64 l[j]) (by simp [hjx])
            have hbRl : bR < wr.heap.size := by omega
            have hbi := HL2.out l[j] (List.getElem_mem hjx)
            have HIN := Lib.hid (inAll_next T I hjx)
            have HLN := Lib.hid (leastZ_next Z hjx)
            rw [← hm.out] at HLN
            clear hcj
            generalize l[j] = bi at *
            obtain ⟨o1, o2, o3⟩ := HBO.out bi hbi
            have HSZ := Lib.hid (fun (W : World) (hw : Below wr.heap.size wr W) => HBS.out bi hbi W (ba_via hw hbwr))
            have HST := Lib.hid (fun W => steelArea_any (Z bi) W o1)
            have HLY := Lib.hid (fun (h : T bi = true) (W : World) (hw : Below wr.heap.size wr W) => HBY.out bi hbi h W (ba_via hw hbwr))
            have HLX := Lib.hid (fun (h : T bi = false) (W : World) (hw : Below wr.heap.size wr W) => HBN.out bi hbi h W (ba_via hw hbwr))
            have HII := Lib.hid (fun (h : T bi = true) (W : World) (hw : Below wr.heap.size wr W) => HBI.out bi hbi h W (ba_via hw hbwr))
            have HCOr := Lib.hid (fun (W : World) (hw : Below wr.heap.size wr W) => HCO.out W (ba_via hw hbwr))
            have HDR := Lib.hid (HD5.out.via hbr)
            have hb0 : decide (bi < 0) = false := decide_eq_false (by omega)
            have hb1 : decide ((N : Int) ≤ bi) = false := decide_eq_false (by omega)
            have HDM := Lib.hid (HDC.out wr hbwr)
            clear o1
            generalize Z bi = zb at *
            generalize S.steelArea zb = ar at *
            generalize M bi = G at *
            generalize T bi = tb at *
            generalize I bi = ib at *
            generalize S.inAll T I (l.take j) = a at *
            have hdis : ((m == 0) = true ∧ Hid (ar = S.leastZ Z (l.take (j + 1)))) ∨ ((m == 0) = false ∧ decide (ar < m) = true ∧ Hid (ar = S.leastZ Z (l.take (j + 1)))) ∨ ((m == 0) = false ∧ decide (ar < m) = false ∧ Hid (m = S.leastZ Z (l.take (j + 1)))) := by
              by_cases h1 : m = 0
              · exact .inl ⟨by simp [h1], Lib.hid (by rw [HLN.out, if_pos (.inl h1)])⟩
              · by_cases h2 : ar < m
                · exact .inr (.inl ⟨by simp [h1], decide_eq_true h2, Lib.hid (by rw [HLN.out, if_pos (.inr h2)])⟩)
                · exact .inr (.inr ⟨by simp [h1], decide_eq_false h2, Lib.hid (by rw [HLN.out, if_neg (fun h => h.elim h1 h2)])⟩)
            go_upto_region 30 with (first
              | ((with_reducible refine at_loadg 34 3 ?_); refine wpList_load_gdF (by rfl) 34 (.tmp 3) rfl _ _ rfl _ _ (HDR.out.via belr).range Tryz.underlying34 rfl (by kernel_rfl) ?_)
              | ((with_reducible refine at_load 34 3 ?_); refine wpList_load_mid rfl 34 (.tmp 3) rfl _ _ rfl _ _ (HDR.out.via belr).range Tryz.underlying34 rfl (by kernel_rfl) ?_)
              | (go_at_call 42; (with_reducible refine (HCOr.out _ belr).mono ?_); rintro e w6 ⟨rfl, hbw6⟩)
              | (go_at_call 47; (with_reducible refine (HSZ.out _ belr).mono ?_); rintro e w7 ⟨rfl, hbw7⟩)
              | (go_at_call 46; (with_reducible refine (HST.out _).mono ?_); rintro e w8 ⟨rfl, hbw8⟩))
            have hb8 : Below wr.heap.size wr w8 := ba_via hbw8 (ba_via hbw7 hbw6)
            have HD8 := Lib.hid (HDR.out.via hb8)
            clear hbw6 hbw7 hbw8 HSZ HST HCOr cj hb0 hb1 HLN
            obtain ⟨m2, HLE⟩ : ∃ m2 : Int, Hid (m2 = S.leastZ Z (l.take (j + 1))) := ⟨_, Lib.hid rfl⟩
            obtain ⟨cb, hcb, HM2⟩ : ∃ cb : Bool, (((m == 0) = true ∧ cb = true) ∨ ((m == 0) = false ∧ decide (ar < m) = true ∧ cb = true) ∨ ((m == 0) = false ∧ decide (ar < m) = false ∧ cb = false)) ∧ Hid (m2 = if cb = true then ar else m) := by
              rcases hdis with ⟨q1, H2⟩ | ⟨q1, q2, H2⟩ | ⟨q1, q2, H2⟩
              · exact ⟨true, .inl ⟨q1, rfl⟩, Lib.hid (by rw [HLE.out, ← H2.out]; rfl)⟩
              · exact ⟨true, .inr (.inl ⟨q1, q2, rfl⟩), Lib.hid (by rw [HLE.out, ← H2.out]; rfl)⟩
              · exact ⟨false, .inr (.inr ⟨q1, q2, rfl⟩), Lib.hid (by rw [HLE.out, ← H2.out]; rfl)⟩
            clear hdis
            go_cut [149] from 143 to 149 (fun s wx => s = .bool cb ∧ w8 = wx)
            case first =>
              rcases hcb with ⟨q1, rfl⟩ | ⟨q1, q2, rfl⟩ | ⟨q1, q2, rfl⟩
              all_goals (
                go_wp2_with fail
                go_meet
                exact ⟨rfl, rfl⟩)
            case rest =>
              obtain ⟨rfl, rfl⟩ := hcut
              clear hcb
              go_upto_if 149 with fail
              go_cut [23] from 150 to 150 (fun s wx => s = .int .i64 m2 ∧ w8 = wx)
              case first =>
                cases cb
                all_goals (
                  go_wp2_with fail
                  go_meet
                  exact ⟨by rw [HM2.out]; rfl, rfl⟩)
              case rest =>
              obtain ⟨rfl, rfl⟩ := hcut
              clear HM2
              cases tb
              · have HI2 := Lib.hid (show S.inAll T I (l.take (j + 1)) = false by rw [HIN.out]; simp)
                have HLq := Lib.hid (HLX.out rfl)
                go_wp2_with (first
                  | ((with_reducible refine at_load 34 3 ?_); refine wpList_load_mid rfl 34 (.tmp 3) rfl _ _ rfl _ _ (HD8.out.via belr).range Tryz.underlying34 rfl (by kernel_rfl) ?_)
                  | (go_at_call 39; (with_reducible refine (HLq.out _ (ba_via belr hb8)).mono ?_); rintro e w9 ⟨rfl, hbw9⟩))
                go_roundw
                case rel => exact ⟨j + 1, by omega, by go_num, by rw [HI2.out], _, rfl, HLE, ba_via (show Below w8.heap.size w8 _ from ba_alloc hbw9 _) (ba_via hb8 hbr)⟩
                case measure => simp [intOf]; omega
              · have HLq := Lib.hid (HLY.out rfl)
                have HIq := Lib.hid (HII.out rfl)
                go_upto_region 33 with (first
                  | ((with_reducible refine at_load 34 3 ?_); refine wpList_load_mid rfl 34 (.tmp 3) rfl _ _ rfl _ _ (HD8.out.via belr).range Tryz.underlying34 rfl (by kernel_rfl) ?_)
                  | (go_at_call 39; (with_reducible refine (HLq.out _ (ba_via belr hb8)).mono ?_); rintro e w9 ⟨rfl, hbw9⟩))
                have hb89 : Below w8.heap.size w8 (w9.alloc (.cells #[.int .i64 G.lo.x, .int .i64 G.lo.y, .int .i64 G.lo.z, .int .i64 G.hi.x, .int .i64 G.hi.y, .int .i64 G.hi.z] 89)) := ba_alloc hbw9 _
                have hGB := Blk.new w9 89 #[.int .i64 G.lo.x, .int .i64 G.lo.y, .int .i64 G.lo.z, .int .i64 G.hi.x, .int .i64 G.hi.y, .int .i64 G.hi.z]
                generalize (w9.alloc (.cells #[.int .i64 G.lo.x, .int .i64 G.lo.y, .int .i64 G.lo.z, .int .i64 G.hi.x, .int .i64 G.hi.y, .int .i64 G.hi.z] 89)) = W9 at *
                generalize w9.heap.size = g9 at *
                have hb9 : Below wr.heap.size wr W9 := ba_via hb89 hb8
                have z0 := hGB.cell 0
                have z1 := hGB.cell 1
                have z2 := hGB.cell 2
                have z3 := hGB.cell 3
                have z4 := hGB.cell 4
                have z5 := hGB.cell 5
                have zl := hGB.lt
                simp only [List.getElem?_toArray, List.getElem?_cons_zero, List.getElem?_cons_succ] at z0 z1 z2 z3 z4 z5
                obtain ⟨bD, oD, hdA, hbD, hdm⟩ := HDM.out
                have e0 := (hb9.cell (p := ⟨bD, _, none⟩) hbD).trans (hdm 0 _ rfl)
                have e1 := (hb9.cell (p := ⟨bD, _, none⟩) hbD).trans (hdm 1 _ rfl)
                have e2 := (hb9.cell (p := ⟨bD, _, none⟩) hbD).trans (hdm 2 _ rfl)
                have e3 := (hb9.cell (p := ⟨bD, _, none⟩) hbD).trans (hdm 3 _ rfl)
                have e4 := (hb9.cell (p := ⟨bD, _, none⟩) hbD).trans (hdm 4 _ rfl)
                have e5 := (hb9.cell (p := ⟨bD, _, none⟩) hbD).trans (hdm 5 _ rfl)
                have e6 := (hb9.cell (p := ⟨bD, _, none⟩) hbD).trans (hdm 6 _ rfl)
                have e7 := (hb9.cell (p := ⟨bD, _, none⟩) hbD).trans (hdm 7 _ rfl)
                simp only [Nat.add_zero] at e0
                have hbDl : bD < W9.heap.size := by have := hb9.size; omega
                have hD9 := HD8.out.via hb89
                have d9 := hD9.cell 9
                have dl := hD9.lt
                simp only [List.getElem?_toArray, List.getElem?_cons_zero, List.getElem?_cons_succ] at d9
                rw [hdA] at d9
                clear hGB hdm hD9 hdA hbw9 HLq HLX HLY HII
                go_upto_region 35 with fail
                refine wp_region_mix 4 [6] (by kernel_rfl) (by kernel_rfl) (of_decide_eq_true (by kernel_rfl)) ?_
                try simp only [wpSegs, List.take_succ_cons, List.take_zero, List.drop_succ_cons, List.drop_zero, List.take_nil, List.drop_nil]
                repeat (go_big_quiet_step (fail))
                refine wpQuiet_nil ?_
                show wpList _ _ _ _ _ _
                go_wp2_with ((go_at_call 52; (with_reducible refine (HIq.out _ (ba_via belr hb9)).mono ?_); rintro e wi ⟨rfl, hbwi⟩))
                refine seg_next (grow_to belr) ?_
                try simp only [wpSegs, List.take_succ_cons, List.take_zero, List.drop_succ_cons, List.drop_zero, List.take_nil, List.drop_nil]
                repeat (go_big_quiet_step (fail))
                refine wpQuiet_nil ?_
                show wpList _ _ _ _ _ _
                have hbi9 : Below W9.heap.size W9 wi := ba_via hbwi (ba_drew (Below.refl _ _))
                clear e0 e1 e2 e3 e4 e5 e6 e7 z0 z1 z2 z3 z4 z5
                cases a
                · go_wp2
                  go_roundw
                  case rel => exact ⟨j + 1, by omega, by go_num, by rw [HIN.out]; rfl, _, rfl, HLE, ba_via hbi9 (ba_via hb9 hbr)⟩
                  case measure => simp [intOf]; omega
                · go_wp2
                  go_roundw
                  case rel => exact ⟨j + 1, by omega, by go_num, by rw [HIN.out]; simp, _, rfl, HLE, ba_via hbi9 (ba_via hb9 hbr)⟩
                  case measure => simp [intOf]; omega
          · have hjn : j = lz := by omega
            have hji : ¬ ((j : Int) < lz) := by omega
            have hma : m = av := by rw [hm.out, List.take_of_length_le (by rw [hjn, HLZ.out]; exact Nat.le_refl _)]; exact HA1.out
            have HIA := Lib.hid (show S.inAll T I (l.take j) = S.inAll T I l by rw [List.take_of_length_le (by rw [hjn, HLZ.out]; exact Nat.le_refl _)])
            subst hma
            have mm : (m != m) = false := by simp
            have hS := HS5.out.via hbr
            have y0 := hS.cell 0
            have y1 := hS.cell 1
            have yl := hS.lt
            simp only [List.getElem?_toArray, List.getElem?_cons_zero, List.getElem?_cons_succ] at y0 y1
            clear hS hm
            rw [HIA.out]
            generalize S.inAll T I l = al at *
            have hbqr : Below w1.heap.size w1 wr := ba_via hbr (ba_via hbq5 hbq)
            have HBR := Lib.hid (show S.brings lo hi tok al p = (tok && al && decide (lo ≤ p) && decide (p < hi)) from rfl)
            have e1 : IntKind.i64.wrap (u + m) = u + m := IntWalk.i64_in _ (by omega)
            cases tok
            · obtain rfl : er = 12 := her.out
              have HV := Lib.hid (show V (q + 1) = u by rw [HVN1.out, if_neg (by rw [HBR.out]; simp)])
              go_wp2
              go_roundw
              case rel => exact ⟨q + 1, by omega, by go_num, u, rfl, Lib.hid HV.out.symm, hbqr⟩
              case measure => simp [intOf]; omega
            · obtain rfl : er = 0 := her.out
              cases al
              · have HV := Lib.hid (show V (q + 1) = u by rw [HVN1.out, if_neg (by rw [HBR.out]; simp)])
                go_wp2
                go_roundw
                case rel => exact ⟨q + 1, by omega, by go_num, u, rfl, Lib.hid HV.out.symm, hbqr⟩
                case measure => simp [intOf]; omega
              · cases h1 : decide (lo ≤ p)
                · have HV := Lib.hid (show V (q + 1) = u by rw [HVN1.out, if_neg (by rw [HBR.out, h1]; simp)])
                  go_wp2
                  go_roundw
                  case rel => exact ⟨q + 1, by omega, by go_num, u, rfl, Lib.hid HV.out.symm, hbqr⟩
                  case measure => simp [intOf]; omega
                · cases h2 : decide (p < hi)
                  · have HV := Lib.hid (show V (q + 1) = u by rw [HVN1.out, if_neg (by rw [HBR.out, h1, h2]; simp)])
                    go_wp2
                    go_roundw
                    case rel => exact ⟨q + 1, by omega, by go_num, u, rfl, Lib.hid HV.out.symm, hbqr⟩
                    case measure => simp [intOf]; omega
                  · have HV := Lib.hid (show V (q + 1) = u + m by rw [HVN1.out, if_pos (by rw [HBR.out, h1, h2]; rfl)])
                    go_wp2
                    go_roundw
                    case rel => exact ⟨q + 1, by omega, by go_num, u + m, rfl, Lib.hid HV.out.symm, hbqr⟩
                    case measure => simp [intOf]; omega
    · have hqn : q = nc := by omega
      have hqi : ¬ ((q : Int) < nc) := by omega
      have hun : u = n := by rw [hu.out, hqn, HNC.out]; exact HVN.out
      subst hun
      have uu : (u == u) = true := by simp
      go_wp2
      go_ret
      exact ⟨rfl, hbwq⟩
def S.mainOf (rs : List Rod) (i : Int) : Bx := match rs[i.toNat]? with | some r => if r.main < 0 then S.zbox else S.legOf r | none => S.zbox
def S.hasMain (rs : List Rod) (i : Int) : Bool := match rs[i.toNat]? with | some r => !decide (r.main < 0) | none => false
theorem inAll_sup {rs : List Rod} (z : Bx) {l : List Int} (hin : ∀ i, i ∈ l → 0 ≤ i ∧ i < (rs.length : Int)) : S.inAll (S.hasMain rs) (fun i => S.inside (S.mainOf rs i) z) l = !anyb l (S.outI rs z) := by
  unfold S.inAll anyb
  induction l with
  | nil => rfl
  | cons a t ih =>
    rw [List.all_cons, List.any_cons, ih fun i hi => hin i (List.mem_cons_of_mem _ hi), Bool.not_or]
    congr 1
    have h1 := hin a (by simp)
    have hx : a.toNat < rs.length := by omega
    unfold S.hasMain S.mainOf S.outI S.outside
    simp only [List.getElem?_eq_getElem hx]
    by_cases hm : rs[a.toNat].main < 0
    · rw [if_pos hm, if_pos hm, decide_eq_true hm]; rfl
    · rw [if_neg hm, if_neg hm, decide_eq_false hm]
      unfold S.legOf
      simp
def S.valueTo (x : Dt) (rs : List Rod) (C : List (List Int)) (z : Bx) (p : Int) (q : Nat) : Int := S.valueAt p (((C.take q).map (S.schOf x rs)).filter (S.sup rs z))
theorem valueTo_next {x : Dt} {rs : List Rod} {C : List (List Int)} {z : Bx} {p : Int} {q : Nat} (h : q < C.length) : S.valueTo x rs C z p (q + 1) = if S.sup rs z (S.schOf x rs C[q]) && S.atPl p (S.schOf x rs C[q]) then S.valueTo x rs C z p q + (S.schOf x rs C[q]).area else S.valueTo x rs C z p q := by
  have e : C.take (q + 1) = C.take q ++ [C[q]] := by rw [List.take_add_one, List.getElem?_eq_getElem h]; rfl
  unfold S.valueTo S.valueAt
  rw [e, List.map_append, List.filter_append, List.foldl_append]
  cases h1 : S.sup rs z (S.schOf x rs C[q])
  · simp [h1]
  · cases h2 : S.atPl p (S.schOf x rs C[q])
    · simp [h1, h2]
    · simp [h1, h2]
theorem rod_size {x : Dt} {n : Nat} {rs : List Rod} (hrs : RodsOf x n rs) {i : Nat} {r : Rod} (hi : rs[i]? = some r) : ∃ m, (S.mains (bars x.bs) x.rs)[i]? = some m ∧ m.size = r.bar.b.size := by
  obtain ⟨hix, hir⟩ := List.getElem?_eq_some_iff.1 hi
  have hR := hrs.ok i hix
  rw [hir] at hR
  obtain ⟨k, j, k0, hL, he⟩ := hR.ex
  refine ⟨_, hL.st.get, ?_⟩
  unfold S.mnOf
  split <;> rfl
section
variable {x : Dt} {ds : List Dm} {w : World}
theorem good_lchE (h : DtOk w x ds) (hlk : S.look x (S.dems ds) = true) : ∀ W, Below w.heap.size w W → Calls Tryz.prog 18 #[dtV x] W (GivesChE (S.cOf x) W) := fun W hw => by
  have g := look_ok hlk
  exact lchains_yes x w.heap.size _ _ _ W hw.size g.n2000 (fun U hU => good_look h hlk U (hw.trans (hU.mono hw.size)))
    (fun U hU => chains_any x _ _ w.heap.size U (hw.trans (hU.mono hw.size)).size (h.at_.at_ (Nat.le_refl _) (hw.trans (hU.mono hw.size))) g.good g.n2000 g.j1000)
theorem good_rsize (h : DtOk w x ds) (hlk : S.look x (S.dems ds) = true) {rs : List Rod} (hrs : RodsOf x (S.nOf x) rs) {i : Int} (hi : 0 ≤ i ∧ i < (S.nOf x : Int)) : ∀ W, Below w.heap.size w W → Calls Tryz.prog 47 #[dtV x, .int .i64 i] W fun e w' => e = .returned (.int .i64 (S.sizeI rs i)) ∧ Below W.heap.size W w' := fun W hw => by
  have g := look_ok hlk
  obtain ⟨m, rfl⟩ : ∃ m : Nat, i = (m : Int) := ⟨i.toNat, by omega⟩
  have hm : m < rs.length := by rw [hrs.len]; omega
  obtain ⟨mn, h1, h2⟩ := rod_size hrs (List.getElem?_eq_getElem hm)
  have e : S.sizeI rs (m : Int) = mn.size := by
    unfold S.sizeI
    rw [Int.toNat_natCast, List.getElem?_eq_getElem hm]
    exact h2.symm
  rw [e]
  exact rsize25_any x w.heap.size W hw.size (h.at_.at_ (Nat.le_refl _) hw) g.laid m mn h1
theorem bars_say (h : DtOk w x ds) (hlk : S.look x (S.dems ds) = true) {rs : List Rod} (hrs : RodsOf x (S.nOf x) rs) {k : Nat} {dm : Dm} (hk : ds[k]? = some dm) : BarSays x (S.nOf x) dm (S.sizeI rs) (S.mainOf rs) (S.hasMain rs) (fun i => S.inside (S.mainOf rs i) dm.zone) w := by
  have g := look_ok hlk
  have hmem : dm ∈ ds := List.mem_of_getElem? hk
  have key : ∀ i : Int, 0 ≤ i ∧ i < (S.nOf x : Int) → ∃ (m : Nat) (hm : m < rs.length), i = (m : Int) ∧ S.mainOf rs i = (if rs[m].main < 0 then S.zbox else S.legOf rs[m]) ∧ S.hasMain rs i = !decide (rs[m].main < 0) := fun i hi => by
    obtain ⟨m, rfl⟩ : ∃ m : Nat, i = (m : Int) := ⟨i.toNat, by omega⟩
    have hm : m < rs.length := by rw [hrs.len]; omega
    refine ⟨m, hm, rfl, ?_, ?_⟩
    · unfold S.mainOf
      rw [Int.toNat_natCast, List.getElem?_eq_getElem hm]
    · unfold S.hasMain
      rw [Int.toNat_natCast, List.getElem?_eq_getElem hm]
  refine ⟨fun i hi => good_rsize h hlk hrs hi, fun i hi => ?_, fun i hi ht => ?_, fun i hi ht => ?_, fun i hi ht W hw => ?_⟩
  · obtain ⟨h1, h2, h3⟩ := areaI_pos g.laid hrs hi
    exact ⟨h3, h1, h2⟩
  · obtain ⟨m, hm, rfl, h1, h2⟩ := key i hi
    have hL := good_Leg h hlk hrs (List.getElem?_eq_getElem hm)
    have hn : ¬ rs[m].main < 0 := by rw [h2] at ht; simpa using ht
    rw [h1]
    simpa [if_neg hn] using hL
  · obtain ⟨m, hm, rfl, h1, h2⟩ := key i hi
    have hL := good_Leg h hlk hrs (List.getElem?_eq_getElem hm)
    have hn : rs[m].main < 0 := by rw [h2] at ht; simpa using ht
    rw [h1]
    simpa [if_pos hn] using hL
  · obtain ⟨m, hm, rfl, h1, h2⟩ := key i hi
    have hn : ¬ rs[m].main < 0 := by rw [h2] at ht; simpa using ht
    have hf := rod_fit (hrs.ok m hm) g.laid
    obtain ⟨q, hq, hqe, hqm⟩ := idxf_some (xs := rs[m].legs) (p := S.isMainB) (by rw [← hf.main]; omega)
    have hbk := hf.legs _ (List.getElem_mem hq)
    have hLe : S.legOf rs[m] = rs[m].legs[q] := by unfold S.legOf; rw [hf.main, hqe]; simp [List.getD_eq_getElem?_getD, hq]
    obtain ⟨e1, e2, e3⟩ := isMainB_iff.1 hqm
    have hM : S.mainOf rs (m : Int) = rs[m].legs[q] := by rw [h1, if_neg hn, hLe]
    simp only [hM]
    generalize rs[m].legs[q] = L at *
    obtain ⟨⟨x1, y, z⟩, ⟨x2, y2, z2⟩⟩ := L
    simp only [] at e1 e2 e3
    subst e2 e3
    have hds := h.dems.at_ (Nat.le_refl _) hw
    exact demIn_any dm x1 x2 y z w.heap.size W hw.size (hds.each dm hmem) (hds.name dm hmem) (dems_at g.dems hk) hbk
theorem dem_cells (h : DtOk w x ds) {k : Nat} {dm : Dm} (hk : ds[k]? = some dm) : ∀ W, Below w.heap.size w W → ∃ bD oD, x.dA = some ⟨bD, oD, none⟩ ∧ bD < W.heap.size ∧ ∀ j v, (dmC dm)[j]? = some v → W.cell? ⟨bD, oD + k * 8 + j, none⟩ = some v := fun W hw => by
  obtain ⟨hkx, hkd⟩ := List.getElem?_eq_some_iff.1 hk
  have hc := (h.dems.at_ (Nat.le_refl _) hw).cells
  obtain ⟨b2, o2, hA2, hb2, hx⟩ := hc.at_ (by rw [flat_len dmC 8 dmC_len]; omega)
  clear hx
  rw [hA2] at hc
  exact ⟨b2, o2, hA2, Nat.lt_of_lt_of_le hb2 hw.size, fun j v hv => hc.rowj dmC_len hkx j (by rw [hkd]; exact hv)⟩
end
theorem sums_walk (x : Dt) (ds : List Dm) (d p : Int) (w : World) (h : DtOk w x ds) :
    Calls Tryz.prog 11 #[dtV x, .int .i64 d, .int .i64 p] w fun e w' => e = .returned (.bool true) ∧ Below w.heap.size w w' := by
  have HSM : ∀ W, Below w.heap.size w W → Calls Tryz.prog 29 #[dtV x] W fun e w' => e = .returned (.bool (S.small25 x ds)) ∧ Below W.heap.size W w' := fun W hw =>
    few_any x (S.small25 x ds) W (fun V hV => small25_any x ds w.heap.size V (hw.trans (hV.mono hw.size)).size (h.at_.at_ (Nat.le_refl _) (hw.trans (hV.mono hw.size))) (h.dems.at_ (Nat.le_refl _) (hw.trans (hV.mono hw.size))))
  cases hsm : S.small25 x ds
  · rw [hsm] at HSM
    exact sumsLaw_big x d p w HSM
  · rw [hsm] at HSM
    by_cases hg : S.given26 x ds d p = 0
    · obtain ⟨hlk, ⟨k, dm, rfl, hk⟩, hp⟩ := given26_zero hg
      have g := look_ok hlk
      obtain ⟨rs, hrs⟩ := rods_ex g.laid
      have hC := few_chains hsm g.laid
      have hrl := hrs.len
      have hkx : k < ds.length := (List.getElem?_eq_some_iff.1 hk).1
      have hst := sup_valid hlk hC hrs dm.zone
      have hval := supplyOf_value (x := x) (rs := rs) (C := S.cOf x) dm.zone hp.1 (sch_span hlk hrs)
      have har : ∀ l, l ∈ S.cOf x → 0 ≤ (S.schOf x rs l).area ∧ (S.schOf x rs l).area ≤ 1000000 := fun l hl => by
        obtain ⟨h0, h1, h2⟩ := g.cin l hl
        have hm := minBy_mem (S.sizeI rs) (xs := l) (k := l.length) h0 (Nat.le_refl _)
        rw [List.take_length] at hm
        have := areaI_pos g.laid hrs (h2 _ hm)
        show 0 ≤ S.areaI rs _ ∧ S.areaI rs _ ≤ _
        exact ⟨by omega, this.2.1⟩
      refine sumsLaw_yes x k p (S.supplyAt x rs (S.cOf x) dm.zone p) (S.nOf x) dm (S.supplyOf x rs (S.cOf x) dm.zone) (S.cOf x) (S.schOf x rs) (S.sizeI rs) (S.mainOf rs) (S.hasMain rs) (fun i => S.inside (S.mainOf rs i) dm.zone) (S.valueTo x rs (S.cOf x) dm.zone p) w
        g.n2000 hC (by rw [← h.dems.len]; exact hkx) (sup_steps h hlk hC dm.zone hrs) g.cin (bars_say h hlk hrs hk) (fun l hl => ⟨?_, har l hl⟩) rfl (fun q hq => ?_) ?_ (fun q hq => ?_) (dem_cells h hk) HSM (good_At h hlk hk hp hrs) (good_Of h hlk hC hk hrs) (fun A c W hs => ?_)
        (good_lchE h hlk) (good_rcount h hlk) (fun q hq ht => ?_) (fun q hq ht => ?_) (fun q hq => good_Area h hlk hq hrs)
      · obtain ⟨h0, h1, h2⟩ := g.cin l hl
        exact leastA_all g.laid hrs h2 h0
      · obtain ⟨h0, h1, h2⟩ := g.cin _ (List.getElem_mem hq)
        rw [valueTo_next hq]
        have e : S.brings (S.schOf x rs (S.cOf x)[q]).lo (S.schOf x rs (S.cOf x)[q]).hi (S.schOf x rs (S.cOf x)[q]).is (S.inAll (S.hasMain rs) (fun i => S.inside (S.mainOf rs i) dm.zone) (S.cOf x)[q]) p = (S.sup rs dm.zone (S.schOf x rs (S.cOf x)[q]) && S.atPl p (S.schOf x rs (S.cOf x)[q])) := by
          rw [inAll_sup dm.zone (by rw [hrl]; exact h2)]
          unfold S.brings S.sup S.atPl
          rw [Bool.and_assoc ((S.schOf x rs (S.cOf x)[q]).is && _)]
          rfl
        rw [e]
      · unfold S.valueTo
        rw [List.take_length, supplyAt_sup]
      · unfold S.valueTo
        have hb := value_bd p (l := ((List.take q (S.cOf x)).map (S.schOf x rs)).filter (S.sup rs dm.zone)) (fun r hr => by
          obtain ⟨l, hl, rfl⟩ := List.mem_map.1 (List.mem_filter.1 hr).1
          exact har l (List.mem_of_mem_take hl))
        have hl1 := List.length_filter_le (S.sup rs dm.zone) ((List.take q (S.cOf x)).map (S.schOf x rs))
        rw [List.length_map, List.length_take] at hl1
        omega
      · rw [← hval]
        exact stAt_any _ p A _ c W.heap.size W (Nat.le_refl _) ⟨rfl, Nat.le_trans (sup_steps h hlk hC dm.zone hrs) (by decide), hs⟩ (Nat.le_trans (sup_steps h hlk hC dm.zone hrs) (by decide)) hst
      · have := good_Anch h hlk hq hrs
        have ht2 : (S.spanL x rs (S.cOf x)[q]).2.2 = true := ht
        rw [ht2, if_pos rfl] at this
        exact this
      · have := good_Anch h hlk hq hrs
        have ht2 : (S.spanL x rs (S.cOf x)[q]).2.2 = false := ht
        rw [ht2, if_neg (by simp)] at this
        exact this
    · exact sumsLaw_err x d p _ w (by simpa using hg) HSM (bad_At h d p hg)
end Go.Proofs.YtffkmgjmlahfpaaGreat
