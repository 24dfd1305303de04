/- Lemmas. -/
import Derived.WalkKit
import Derived.ProofKit
import Derived.Lib.Hide
import Derived.BigQuiet
import Derived.Handy
import Derived.StillTail
import Derived.Maps.AppendAt
import Derived.Deep.MidRow
import Derived.RangeFuncNested
import Derived.RangeFuncBound
import Derived.RangeFuncCalls
import Derived.RangeFuncLeaves
import Derived.RangeFuncFrom
import Derived.Test.YtffkmgjmlahfpaaGreatRows
import Derived.BigRegion
import Derived.Deep.CutRange
import Derived.Deep.RegionHeld3
import Derived.Maps.OwnOps
import Derived.Maps.OwnSet
import Derived.OwnWalkIn
import Derived.TacticsInMore
import Derived.LoopNIn
import Derived.LoopIn
import Derived.Shelf.Abstract
import Derived.Shelf.Sort.Plain
import Derived.Shelf.Slices.CompactI
import Derived.Shelf.Slices.In.SortNone
import Derived.Sort.OwnSortedInts
import Derived.Lib.RowBridge
import Derived.Ground.NamesProg
import Derived.Ground.Names2Prog
import Derived.OrdersHeld
import Derived.Test.YtffkmgjmlahfpaaGreatYAA
import Derived.Test.YtffkmgjmlahfpaaGreatYAK
import Derived.Test.YtffkmgjmlahfpaaGreatYAQ
import Derived.Test.YtffkmgjmlahfpaaGreatYY
import Derived.Test.YtffkmgjmlahfpaaGreatYAP
import Derived.Test.YtffkmgjmlahfpaaGreatYAM
import Derived.Test.YtffkmgjmlahfpaaGreatYAH
import Derived.Test.YtffkmgjmlahfpaaGreatYP
import Derived.Test.YtffkmgjmlahfpaaGreatYN
import Derived.Test.YtffkmgjmlahfpaaGreatYD
import Derived.Test.YtffkmgjmlahfpaaGreatYA
import Derived.Test.YtffkmgjmlahfpaaGreatYC
import Derived.Test.YtffkmgjmlahfpaaGreatYAF
import Derived.Test.YtffkmgjmlahfpaaGreatYZ
import Derived.Test.YtffkmgjmlahfpaaGreatYX
import Derived.Test.YtffkmgjmlahfpaaGreatYW
import Derived.Test.YtffkmgjmlahfpaaGreatYQ
import Derived.Test.YtffkmgjmlahfpaaGreatYM
import Derived.Test.YtffkmgjmlahfpaaGreatYL
import Derived.Test.YtffkmgjmlahfpaaGreatYI
import Derived.Test.YtffkmgjmlahfpaaGreatYG
import Derived.Test.YtffkmgjmlahfpaaGreatYF
import Derived.Test.YtffkmgjmlahfpaaGreatYB
import Derived.Test.YtffkmgjmlahfpaaGreatYU
import Derived.Test.YtffkmgjmlahfpaaGreatYH
import Derived.Test.YtffkmgjmlahfpaaGreatYE
import Derived.Test.YtffkmgjmlahfpaaGreatYJ
import Derived.Test.YtffkmgjmlahfpaaGreatYK
import Derived.Test.YtffkmgjmlahfpaaGreatYO
import Derived.Test.YtffkmgjmlahfpaaGreatYV
import Derived.Test.YtffkmgjmlahfpaaGreatYAB
import Derived.Test.YtffkmgjmlahfpaaGreatYAC
import Derived.Test.YtffkmgjmlahfpaaGreatYAD
import Derived.Test.YtffkmgjmlahfpaaGreatYAG
import Derived.Test.YtffkmgjmlahfpaaGreatYT
import Derived.Test.YtffkmgjmlahfpaaGreatYAE
import Derived.Test.YtffkmgjmlahfpaaGreatYAI
import Derived.Test.YtffkmgjmlahfpaaGreatYAN
import Derived.Test.YtffkmgjmlahfpaaGreatYAO
set_option linter.unusedVariables false
set_option linter.unusedSimpArgs false
namespace Go.Proofs.YtffkmgjmlahfpaaGreat
open Go.RowKit
def S.mlegOf (r : Rod) : Bx := if r.main < 0 then S.zbox else S.legOf r
theorem mains_no {x : Dt} {n : Nat} {rs : List Rod} (hrs : RodsOf x n rs) {i : Nat} {m : Mn} {r : Rod} (hm : (S.mains (bars x.bs) x.rs)[i]? = some m) (hr : rs[i]? = some r) : m.leg = S.mlegOf r ∧ m.has = !decide (r.main < 0) := by
  obtain ⟨hix, hir⟩ := List.getElem?_eq_some_iff.1 hr
  have hR := hrs.ok i hix
  rw [hir] at hR
  obtain ⟨k, j, k0, hL, he⟩ := hR.ex
  have hg := hL.st.get
  rw [hm] at hg
  injection hg with hg
  have hlen : 0 < (S.laidPath r.bar.b (x.rs[k]'hL.st.lt) j).length := by rw [laidPath_len]; omega
  unfold S.mlegOf
  cases hml : S.mainLeg (S.laidPath r.bar.b (x.rs[k]'hL.st.lt) j) with
  | none =>
    rw [hml] at hg
    have h1 := main_none hlen hml
    have hmain : r.main < 0 := by rw [hR.main, he, h1]; decide
    rw [if_pos hmain, hg]
    exact ⟨rfl, by simp [hmain, S.mnOf]⟩
  | some b =>
    rw [hml] at hg
    obtain ⟨jj, h1, h2, h3⟩ := main_some hlen hml
    have hmain : r.main = (jj : Int) := by rw [hR.main, he]; exact h1
    rw [if_neg (by omega), hg]
    refine ⟨?_, by rw [hmain]; simp [S.mnOf]⟩
    unfold S.legOf
    rw [hmain, he, Int.toNat_natCast, List.getD_eq_getElem?_getD, h2]
    rfl
theorem rmain_rod (x : Dt) (rs : List Rod) (B : Nat) (w : World) (hB : B ≤ w.heap.size) (hA : DtAt w B x) (h : S.laid (bars x.bs) x.rs = true) (hrs : RodsOf x (S.nOf x) rs) {i : Nat} {r : Rod} (hi : rs[i]? = some r) :
    Calls Tryz.prog 43 #[dtV x, .int .i64 i] w fun e w' => e = .returned (.tuple #[boxV (S.mlegOf r), .bool (!decide (r.main < 0))]) ∧ Below w.heap.size w w' := by
  have hix : i < (S.mains (bars x.bs) x.rs).length := by
    have := (List.getElem?_eq_some_iff.1 hi).1
    rw [hrs.len] at this
    exact this
  have hm := List.getElem?_eq_getElem hix
  obtain ⟨e1, e2⟩ := mains_no hrs hm hi
  have := rmain_any x B w hB hA h i _ hm
  rw [e1, e2] at this
  exact this
set_option maxRecDepth 20000 in
set_option maxHeartbeats 2000000 in
theorem rends26_any (x : Dt) (i : Nat) (r : Rod) (B : Nat) (w : World) (hB : B ≤ w.heap.size) (hA : DtAt w B x) (hla : S.laid (bars x.bs) x.rs = true) (hru : S.rule x.rule = true) (hme : S.member x.m = true) (hR : RodOk x i r) (h0 : 0 ≤ r.main) :
    Calls Tryz.prog 97 #[dtV x, .int .i64 i] w fun e w' => e = .returned (.tuple #[.int .i64 (S.lowOf x r), .int .i64 (S.upOf x r)]) ∧ Below w.heap.size w w' := by
  have hF := rod_fit hR hla
  obtain ⟨k, j, k0, hL, he⟩ := hR.ex
  have HB1 := Lib.hid (fun (W : World) (hw : Below w.heap.size w W) => rbar16_any x.bs x.rs x.bA x.bn x.bc x.rA x.rn x.rc B W (size_via hB hw) (hA.at_ hB hw).bars (hA.at_ hB hw).runs i k j k0 r.bar hL)
  have HL1 : Hid (∀ W, Below w.heap.size w W → Calls Tryz.prog 95 #[.slice x.bA x.bn x.bc, .slice x.rA x.rn x.rc, .int .i64 i] W (GivesOne 89 6 r.legs.length (r.legs.flatMap boxC) W)) := Lib.hid fun W hw => by
    have := rlegs16_any x.bs x.rs x.bA x.bn x.bc x.rA x.rn x.rc B W (size_via hB hw) (hA.at_ hB hw).bars (hA.at_ hB hw).runs i k j k0 r.bar hL r.legs.length hF.len.symm
    rw [← he] at this
    exact this
  have HE1 := Lib.hid (fun (W : World) (hw : Below w.heap.size w W) (A : Option Addr) (c : Nat) (hs : Cells W W.heap.size A (r.legs.flatMap boxC)) => rends_rod x r A c W.heap.size W (Nat.le_refl _) ((hA.at_ hB hw).wide (size_via hB hw)) hs hF hru hme h0)
  have hl6 := legs_len r.bar.b.code
  have hl7 : r.legs.length ≤ 6 := by have := hF.len; omega
  unfold barV at HB1
  unfold barV ruleV memV at HE1
  clear hA hL he hR hF h0 hl6
  unfold dtV
  have hDB := Blk.new w 34 #[.string x.m.name, .slice x.mA x.mn x.mc, .slice x.hA x.hn x.hc, .int .i64 x.m.cover, .int .i64 x.m.aggr, .int .i64 x.m.poker, .slice x.bA x.bn x.bc, .slice x.rA x.rn x.rc, .slice x.jA x.jn x.jc, .slice x.dA x.dn x.dc, .int .i64 x.rule.num, .int .i64 x.rule.den, .int .i64 x.rule.pnum, .int .i64 x.rule.pden, .int .i64 x.rule.bnum, .int .i64 x.rule.bden, .int .i64 x.rule.lnum, .int .i64 x.rule.lden, .int .i64 x.rule.least]
  have hW1 : Below w.heap.size w (w.alloc (.cells #[.string x.m.name, .slice x.mA x.mn x.mc, .slice x.hA x.hn x.hc, .int .i64 x.m.cover, .int .i64 x.m.aggr, .int .i64 x.m.poker, .slice x.bA x.bn x.bc, .slice x.rA x.rn x.rc, .slice x.jA x.jn x.jc, .slice x.dA x.dn x.dc, .int .i64 x.rule.num, .int .i64 x.rule.den, .int .i64 x.rule.pnum, .int .i64 x.rule.pden, .int .i64 x.rule.bnum, .int .i64 x.rule.bden, .int .i64 x.rule.lnum, .int .i64 x.rule.lden, .int .i64 x.rule.least] 34)) := ba_alloc (Below.refl _ _) _
  go_enter Tryz.func97, Tryz.ntmps97
  go_upto_region 1 with fail
  generalize (w.alloc (.cells #[.string x.m.name, .slice x.mA x.mn x.mc, .slice x.hA x.hn x.hc, .int .i64 x.m.cover, .int .i64 x.m.aggr, .int .i64 x.m.poker, .slice x.bA x.bn x.bc, .slice x.rA x.rn x.rc, .slice x.jA x.jn x.jc, .slice x.dA x.dn x.dc, .int .i64 x.rule.num, .int .i64 x.rule.den, .int .i64 x.rule.pnum, .int .i64 x.rule.pden, .int .i64 x.rule.bnum, .int .i64 x.rule.bden, .int .i64 x.rule.lnum, .int .i64 x.rule.lden, .int .i64 x.rule.least] 34)) = W1 at *
  have d6 := hDB.cell 6
  have d7 := hDB.cell 7
  have dl := hDB.lt
  simp only [List.getElem?_toArray, List.getElem?_cons_zero, List.getElem?_cons_succ] at d6 d7
  have HDB := Lib.hid hDB
  clear hDB
  refine wp_region_mix 3 [9, 5, 0] (by kernel_rfl) (by kernel_rfl) (of_decide_eq_true (by kernel_rfl)) ?_
  try simp only [wpSegs, List.take_succ_cons, List.take_zero, List.drop_succ_cons, List.drop_zero, List.take_nil, List.drop_nil]
  repeat (first | (first | (refine quietLoad (by rfl) 32 (.tmp 6) rfl _ _ rfl _ _ (quietBy fun W hw => (HDB.out.via hw).mid 10 [.int .i64 x.rule.num, .int .i64 x.rule.den, .int .i64 x.rule.pnum, .int .i64 x.rule.pden, .int .i64 x.rule.bnum, .int .i64 x.rule.bden, .int .i64 x.rule.lnum, .int .i64 x.rule.lden, .int .i64 x.rule.least] rfl) Tryz.underlying32 rfl (by kernel_rfl) ?_; intro aQ hQ; simp only [go_sem, List.setIfInBounds_toArray, List.set_cons_succ, List.set_cons_zero] at hQ; subst hQ) | (refine quietLoad (by rfl) 26 (.tmp 8) rfl _ _ rfl _ _ (quietBy fun W hw => (HDB.out.via hw).mid 0 [.string x.m.name, .slice x.mA x.mn x.mc, .slice x.hA x.hn x.hc, .int .i64 x.m.cover, .int .i64 x.m.aggr, .int .i64 x.m.poker] rfl) Tryz.underlying26 rfl (by kernel_rfl) ?_; intro aQ hQ; simp only [go_sem, List.setIfInBounds_toArray, List.set_cons_succ, List.set_cons_zero] at hQ; subst hQ)) | go_big_quiet_step (fail))
  refine wpQuiet_nil ?_
  show wpList _ _ _ _ _ _
  go_wp2_with ((go_at_call 102; (with_reducible refine (HB1.out _ belr).mono ?_); rintro e w1 ⟨rfl, hbw1⟩))
  refine seg_next (grow_to belr) ?_
  try simp only [wpSegs, List.take_succ_cons, List.take_zero, List.drop_succ_cons, List.drop_zero, List.take_nil, List.drop_nil]
  repeat (go_big_quiet_step (fail))
  refine wpQuiet_nil ?_
  show wpList _ _ _ _ _ _
  go_wp2_with ((go_at_call 95; (with_reducible refine (HL1.out _ belr).mono ?_); rintro e w2 ⟨A2, c2, rfl, ho2, hbw2⟩))
  refine seg_next (grow_to belr) ?_
  have HO2 := Lib.hid (own_cells ho2 (by unfold maxLen; omega)).1
  clear ho2
  try simp only [wpSegs, List.take_succ_cons, List.take_zero, List.drop_succ_cons, List.drop_zero, List.take_nil, List.drop_nil]
  repeat (go_big_quiet_step (fail))
  refine wpQuiet_nil ?_
  show wpList _ _ _ _ _ _
  go_wp2_with ((go_at_call 159; (with_reducible refine (HE1.out _ belr _ _ HO2.out).mono ?_); rintro e w3 ⟨rfl, hbw3⟩))
  refine seg_next (grow_to belr) ?_
  try simp only [wpSegs, List.take_succ_cons, List.take_zero, List.drop_succ_cons, List.drop_zero, List.take_nil, List.drop_nil]
  repeat (go_big_quiet_step (fail))
  refine wpQuiet_nil ?_
  show wpList _ _ _ _ _ _
  go_wp2
  go_ret2
  exact ⟨rfl, bel⟩
set_option maxRecDepth 20000 in
set_option maxHeartbeats 4000000 in
theorem ranch_core (x : Dt) (ka kb lz ln : Nat) (ga gb : Bx) (ta tb : Bool) (la ua lb ub : Int) (b o c : Nat) (w : World) (hlz : lz = ln + 1) (hlm : lz ≤ 2002) (hb : b < w.heap.size)
    (c0 : w.cell? ⟨b, o, none⟩ = some (.int .i64 ka)) (c1 : w.cell? ⟨b, o + ln, none⟩ = some (.int .i64 kb))
    (hM1 : ∀ W, Below w.heap.size w W → Calls Tryz.prog 43 #[dtV x, .int .i64 ka] W fun e w' => e = .returned (.tuple #[boxV ga, .bool ta]) ∧ Below W.heap.size W w')
    (hM2 : ∀ W, Below w.heap.size w W → Calls Tryz.prog 43 #[dtV x, .int .i64 kb] W fun e w' => e = .returned (.tuple #[boxV gb, .bool tb]) ∧ Below W.heap.size W w')
    (hE1 : ta = true → tb = true → ∀ W, Below w.heap.size w W → Calls Tryz.prog 97 #[dtV x, .int .i64 ka] W fun e w' => e = .returned (.tuple #[.int .i64 la, .int .i64 ua]) ∧ Below W.heap.size W w')
    (hE2 : ta = true → tb = true → ∀ W, Below w.heap.size w W → Calls Tryz.prog 97 #[dtV x, .int .i64 kb] W fun e w' => e = .returned (.tuple #[.int .i64 lb, .int .i64 ub]) ∧ Below W.heap.size W w')
    (hbd : ta = true → tb = true → (-100000000000 ≤ ga.lo.x + la ∧ ga.lo.x + la ≤ 100000000000) ∧ (-100000000000 ≤ gb.hi.x - ub ∧ gb.hi.x - ub ≤ 100000000000)) :
    Calls Tryz.prog 44 #[dtV x, .slice (some ⟨b, o, none⟩) lz c] w fun e w' => e = .returned (.tuple #[.agg #[.int .i64 (S.anch ta tb (ga.lo.x + la) (gb.hi.x - ub)).1, .int .i64 (S.anch ta tb (ga.lo.x + la) (gb.hi.x - ub)).2.1], .bool (S.anch ta tb (ga.lo.x + la) (gb.hi.x - ub)).2.2]) ∧ Below w.heap.size w w' := by
  have HM1 := Lib.hid hM1
  have HM2 := Lib.hid hM2
  have HE1 := Lib.hid hE1
  have HE2 := Lib.hid hE2
  have HBD := Lib.hid hbd
  have e1 : IntKind.i64.wrap ((lz : Int) - 1) = (ln : Int) := by rw [show ((lz : Int) - 1) = (ln : Int) by omega]; exact IntWalk.i64_in _ (by omega)
  have e3 : (lz : Int) - 1 = (ln : Int) := by omega
  have hlni : (ln : Int) < (lz : Int) := by omega
  have hln0 : (0 : Int) < (lz : Int) := by omega
  have hlzN : 0 < lz := by omega
  have hlnN : ln < lz := by omega
  have hlz4 : lz ≠ 0 := by omega
  have e7 : IntKind.i64.wrap (ln : Int) = (ln : Int) := IntWalk.i64_in _ (by omega)
  have hlnz : (0 : Int) ≤ (ln : Int) := by omega
  have hb1 : b < w.heap.size + 1 := by omega
  have hb2 : b < w.heap.size + 2 := by omega
  clear hM1 hM2 hE1 hE2 hbd hlz
  unfold dtV at HM1 HM2 HE1 HE2
  unfold boxV at HM1 HM2
  unfold dtV
  have hDB := (Blk.new w 34 #[.string x.m.name, .slice x.mA x.mn x.mc, .slice x.hA x.hn x.hc, .int .i64 x.m.cover, .int .i64 x.m.aggr, .int .i64 x.m.poker, .slice x.bA x.bn x.bc, .slice x.rA x.rn x.rc, .slice x.jA x.jn x.jc, .slice x.dA x.dn x.dc, .int .i64 x.rule.num, .int .i64 x.rule.den, .int .i64 x.rule.pnum, .int .i64 x.rule.pden, .int .i64 x.rule.bnum, .int .i64 x.rule.bden, .int .i64 x.rule.lnum, .int .i64 x.rule.lden, .int .i64 x.rule.least]).alloc (.cells #[.int .i64 0, .int .i64 0] 45)
  have hSB := Blk.newN (W := w.alloc (.cells #[.string x.m.name, .slice x.mA x.mn x.mc, .slice x.hA x.hn x.hc, .int .i64 x.m.cover, .int .i64 x.m.aggr, .int .i64 x.m.poker, .slice x.bA x.bn x.bc, .slice x.rA x.rn x.rc, .slice x.jA x.jn x.jc, .slice x.dA x.dn x.dc, .int .i64 x.rule.num, .int .i64 x.rule.den, .int .i64 x.rule.pnum, .int .i64 x.rule.pden, .int .i64 x.rule.bnum, .int .i64 x.rule.bden, .int .i64 x.rule.lnum, .int .i64 x.rule.lden, .int .i64 x.rule.least] 34)) (n := w.heap.size + 1) (by simp) 45 #[.int .i64 0, .int .i64 0]
  have hW1 : Below w.heap.size w ((w.alloc (.cells #[.string x.m.name, .slice x.mA x.mn x.mc, .slice x.hA x.hn x.hc, .int .i64 x.m.cover, .int .i64 x.m.aggr, .int .i64 x.m.poker, .slice x.bA x.bn x.bc, .slice x.rA x.rn x.rc, .slice x.jA x.jn x.jc, .slice x.dA x.dn x.dc, .int .i64 x.rule.num, .int .i64 x.rule.den, .int .i64 x.rule.pnum, .int .i64 x.rule.pden, .int .i64 x.rule.bnum, .int .i64 x.rule.bden, .int .i64 x.rule.lnum, .int .i64 x.rule.lden, .int .i64 x.rule.least] 34)).alloc (.cells #[.int .i64 0, .int .i64 0] 45)) := ba_alloc (ba_alloc (Below.refl _ _) _) _
  go_enter Tryz.func44, Tryz.ntmps44
  go_upto_region 1 with fail
  generalize ((w.alloc (.cells #[.string x.m.name, .slice x.mA x.mn x.mc, .slice x.hA x.hn x.hc, .int .i64 x.m.cover, .int .i64 x.m.aggr, .int .i64 x.m.poker, .slice x.bA x.bn x.bc, .slice x.rA x.rn x.rc, .slice x.jA x.jn x.jc, .slice x.dA x.dn x.dc, .int .i64 x.rule.num, .int .i64 x.rule.den, .int .i64 x.rule.pnum, .int .i64 x.rule.pden, .int .i64 x.rule.bnum, .int .i64 x.rule.bden, .int .i64 x.rule.lnum, .int .i64 x.rule.lden, .int .i64 x.rule.least] 34)).alloc (.cells #[.int .i64 0, .int .i64 0] 45)) = W1 at *
  have a0 := (hW1.cell (p := ⟨b, o, none⟩) hb).trans c0
  have a1 := (hW1.cell (p := ⟨b, o + ln, none⟩) hb).trans c1
  have hbW : b < W1.heap.size := by have := hW1.size; omega
  have HDB := Lib.hid hDB
  have HSB := Lib.hid hSB
  clear hDB hSB c0 c1
  refine wp_region_mix 10 [] (by kernel_rfl) (by kernel_rfl) (of_decide_eq_true (by kernel_rfl)) ?_
  try simp only [wpSegs, List.take_succ_cons, List.take_zero, List.drop_succ_cons, List.drop_zero, List.take_nil, List.drop_nil]
  repeat (go_big_quiet_step (fail))
  refine wpQuiet_nil ?_
  show wpList _ _ _ _ _ _
  go_upto_region 2 with fail
  clear a0 a1 hbW
  go_upto_region 3 with (first
    | ((with_reducible refine at_load 34 2 ?_); refine wpList_load_mid rfl 34 (.tmp 2) rfl _ _ rfl _ _ (HDB.out.via belr).range Tryz.underlying34 rfl (by kernel_rfl) ?_)
    | (go_at_call 43; (with_reducible refine (HM1.out _ belr).mono ?_); rintro e w1 ⟨rfl, hbw1⟩))
  have hb2 : Below W1.heap.size W1 (w1.alloc (.cells #[.int .i64 ga.lo.x, .int .i64 ga.lo.y, .int .i64 ga.lo.z, .int .i64 ga.hi.x, .int .i64 ga.hi.y, .int .i64 ga.hi.z] 89)) := belr
  have hA2 := Blk.new w1 89 #[.int .i64 ga.lo.x, .int .i64 ga.lo.y, .int .i64 ga.lo.z, .int .i64 ga.hi.x, .int .i64 ga.hi.y, .int .i64 ga.hi.z]
  generalize (w1.alloc (.cells #[.int .i64 ga.lo.x, .int .i64 ga.lo.y, .int .i64 ga.lo.z, .int .i64 ga.hi.x, .int .i64 ga.hi.y, .int .i64 ga.hi.z] 89)) = W2 at *
  generalize w1.heap.size = g1 at *
  have HA2 := Lib.hid hA2
  clear hA2 hbw1
  go_upto_region 4 with (first
    | ((with_reducible refine at_load 34 2 ?_); refine wpList_load_mid rfl 34 (.tmp 2) rfl _ _ rfl _ _ (HDB.out.via belr).range Tryz.underlying34 rfl (by kernel_rfl) ?_)
    | (go_at_call 43; (with_reducible refine (HM2.out _ belr).mono ?_); rintro e w2 ⟨rfl, hbw2⟩))
  have hb3 : Below W2.heap.size W2 (w2.alloc (.cells #[.int .i64 gb.lo.x, .int .i64 gb.lo.y, .int .i64 gb.lo.z, .int .i64 gb.hi.x, .int .i64 gb.hi.y, .int .i64 gb.hi.z] 89)) := belr
  have hB3 := Blk.new w2 89 #[.int .i64 gb.lo.x, .int .i64 gb.lo.y, .int .i64 gb.lo.z, .int .i64 gb.hi.x, .int .i64 gb.hi.y, .int .i64 gb.hi.z]
  generalize (w2.alloc (.cells #[.int .i64 gb.lo.x, .int .i64 gb.lo.y, .int .i64 gb.lo.z, .int .i64 gb.hi.x, .int .i64 gb.hi.y, .int .i64 gb.hi.z] 89)) = W3 at *
  generalize w2.heap.size = g2 at *
  have HB3 := Lib.hid hB3
  have hb13 : Below W1.heap.size W1 W3 := belr
  clear hB3 hbw2
  cases ta
  · have hS := HSB.out.via hb13
    have s0 := hS.cell 0
    have s1 := hS.cell 1
    have sf0 := hS.frozen 0
    have sf1 := hS.frozen 1
    have sl := hS.lt
    simp only [List.getElem?_toArray, List.getElem?_cons_zero, List.getElem?_cons_succ] at s0 s1
    have hbF := ba_set2 (g := w.heap.size + 1) (show Below w.heap.size w W3 from belr) (Nat.le_succ _) (.int .i64 0) (.int .i64 0)
    clear hS
    go_wp2
    exact bodyPost_ret (v := .tuple #[.agg #[.int .i64 0, .int .i64 0], .bool false]) (by simp [results, Tryz.results44, go_sem, *]) rfl ⟨rfl, hbF⟩
  · cases tb
    · have hS := HSB.out.via hb13
      have s0 := hS.cell 0
      have s1 := hS.cell 1
      have sf0 := hS.frozen 0
      have sf1 := hS.frozen 1
      have sl := hS.lt
      simp only [List.getElem?_toArray, List.getElem?_cons_zero, List.getElem?_cons_succ] at s0 s1
      have hbF := ba_set2 (g := w.heap.size + 1) (show Below w.heap.size w W3 from belr) (Nat.le_succ _) (.int .i64 0) (.int .i64 0)
      clear hS
      go_wp2
      exact bodyPost_ret (v := .tuple #[.agg #[.int .i64 0, .int .i64 0], .bool false]) (by simp [results, Tryz.results44, go_sem, *]) rfl ⟨rfl, hbF⟩
    · obtain ⟨⟨b1, b2⟩, b3, b4⟩ := HBD.out rfl rfl
      have HF1 := Lib.hid (HE1.out rfl rfl)
      have HF2 := Lib.hid (HE2.out rfl rfl)
      clear HE1 HE2 HBD HM1 HM2
      go_upto_region 8 with (first
        | ((with_reducible refine at_load 34 2 ?_); refine wpList_load_mid rfl 34 (.tmp 2) rfl _ _ rfl _ _ (HDB.out.via belr).range Tryz.underlying34 rfl (by kernel_rfl) ?_)
        | (go_at_call 97; (with_reducible refine (HF1.out _ belr).mono ?_); rintro e w4 ⟨rfl, hbw4⟩)
        | (go_at_call 97; (with_reducible refine (HF2.out _ belr).mono ?_); rintro e w5 ⟨rfl, hbw5⟩))
      have hb35 : Below W3.heap.size W3 w5 := belr
      have hA5 := HA2.out.via (ba_via hb35 hb3)
      have hB5 := HB3.out.via hb35
      have a0 := hA5.cell 0
      have al := hA5.lt
      have c3 := hB5.cell 3
      have cl := hB5.lt
      simp only [List.getElem?_toArray, List.getElem?_cons_zero, List.getElem?_cons_succ] at a0 c3
      have x1 : IntKind.i64.wrap (ga.lo.x + la) = ga.lo.x + la := IntWalk.i64_in _ (by omega)
      have x2 : IntKind.i64.wrap (gb.hi.x - ub) = gb.hi.x - ub := IntWalk.i64_in _ (by omega)
      clear hA5 hB5
      go_upto_region 9 with fail
      have hS6 := Blk.new w5 45 #[.int .i64 (ga.lo.x + la), .int .i64 (gb.hi.x - ub)]
      have hb6 : Below W3.heap.size W3 (w5.alloc (.cells #[.int .i64 (ga.lo.x + la), .int .i64 (gb.hi.x - ub)] 45)) := belr
      generalize (w5.alloc (.cells #[.int .i64 (ga.lo.x + la), .int .i64 (gb.hi.x - ub)] 45)) = W6 at *
      generalize w5.heap.size = g5 at *
      generalize hp : ga.lo.x + la = p at *
      generalize hq : gb.hi.x - ub = q at *
      have HP := Lib.hid hp
      have HQ := Lib.hid hq
      have y0 := hS6.cell 0
      have y1 := hS6.cell 1
      have yl := hS6.lt
      simp only [List.getElem?_toArray, List.getElem?_cons_zero, List.getElem?_cons_succ] at y0 y1
      have hS := (HSB.out.via hb13).via hb6
      have s0 := hS.cell 0
      have s1 := hS.cell 1
      have sf0 := hS.frozen 0
      have sf1 := hS.frozen 1
      have sl := hS.lt
      simp only [List.getElem?_toArray, List.getElem?_cons_zero, List.getElem?_cons_succ] at s0 s1
      clear hS hS6 a0 c3 al cl x1 x2 hbw4 hbw5 hb35 hp hq
      by_cases hpq : p < q
      · have hbF := ba_set2 (g := w.heap.size + 1) (show Below w.heap.size w W6 from belr) (Nat.le_succ _) (.int .i64 p) (.int .i64 q)
        have hE : S.anch true true p q = (p, q, true) := by unfold S.anch; rw [if_neg (by simp), if_neg (by simp), if_pos hpq]
        have HE := Lib.hid hE
        clear hE
        have hnq : ¬ (q ≤ p) := by omega
        go_wp2
        exact bodyPost_ret (v := .tuple #[.agg #[.int .i64 p, .int .i64 q], .bool true]) (by simp [results, Tryz.results44, go_sem, *]) rfl ⟨by rw [HP.out, HQ.out, HE.out], hbF⟩
      · have hbF := ba_set2 (g := w.heap.size + 1) (show Below w.heap.size w W6 from belr) (Nat.le_succ _) (.int .i64 0) (.int .i64 0)
        have hE : S.anch true true p q = (0, 0, false) := by unfold S.anch; rw [if_neg (by simp), if_neg (by simp), if_neg hpq]
        have HE := Lib.hid hE
        clear hE
        have hnq : q ≤ p := by omega
        go_wp2
        exact bodyPost_ret (v := .tuple #[.agg #[.int .i64 0, .int .i64 0], .bool false]) (by simp [results, Tryz.results44, go_sem, *]) rfl ⟨by rw [HP.out, HQ.out, HE.out], hbF⟩
theorem leg_x {x : Dt} {r : Rod} (h : RodFit x r) (h0 : ¬ r.main < 0) : -1048576 ≤ (S.legOf r).lo.x ∧ (S.legOf r).hi.x ≤ 1048576 ∧ (S.legOf r).lo.x ≤ (S.legOf r).hi.x := by
  obtain ⟨q, hq, hqe, hqm⟩ := idxf_some (xs := r.legs) (p := S.isMainB) (by rw [← h.main]; omega)
  have hL : S.legOf r = r.legs[q] := by unfold S.legOf; rw [h.main, hqe]; simp [List.getD_eq_getElem?_getD, hq]
  have e1 := boxOk_x (h.legs _ (List.getElem_mem hq))
  rw [← hL] at e1
  omega
theorem ranch_any (x : Dt) (rs : List Rod) (l : List Int) (A : Option Addr) (c : Nat) (B : Nat) (w : World) (hB : B ≤ w.heap.size) (hA : DtAt w B x) (hla : S.laid (bars x.bs) x.rs = true) (hru : S.rule x.rule = true) (hme : S.member x.m = true) (hrs : RodsOf x (S.nOf x) rs)
    (hl0 : 0 < l.length) (hl1 : l.length ≤ 2001) (hin : ∀ i, i ∈ l → 0 ≤ i ∧ i < (S.nOf x : Int)) (hs : Cells w w.heap.size A (i64s l)) :
    Calls Tryz.prog 44 #[dtV x, .slice A l.length c] w fun e w' => e = .returned (.tuple #[.agg #[.int .i64 (S.spanL x rs l).1, .int .i64 (S.spanL x rs l).2.1], .bool (S.spanL x rs l).2.2]) ∧ Below w.heap.size w w' := by
  obtain ⟨b, o, rfl, hb, hx⟩ := hs.at_ (by simp; omega)
  obtain ⟨ln, hln⟩ : ∃ ln, l.length = ln + 1 := ⟨l.length - 1, by omega⟩
  have h0 : l[0] = l.headD 0 := by rw [List.headD_eq_head?_getD, List.head?_eq_getElem?, List.getElem?_eq_getElem (by omega)]; rfl
  have hn : l[ln] = l.getLastD 0 := by
    rw [List.getLastD_eq_getLast?, List.getLast?_eq_getElem?]
    rw [show l.length - 1 = ln by omega, List.getElem?_eq_getElem (by omega)]
    rfl
  obtain ⟨p1, p2⟩ := hin l[0] (List.getElem_mem _)
  obtain ⟨q1, q2⟩ := hin l[ln] (List.getElem_mem _)
  obtain ⟨ka, hka⟩ : ∃ ka : Nat, l[0] = (ka : Int) := ⟨l[0].toNat, by omega⟩
  obtain ⟨kb, hkb⟩ : ∃ kb : Nat, l[ln] = (kb : Int) := ⟨l[ln].toNat, by omega⟩
  have hkax : ka < rs.length := by rw [hrs.len]; omega
  have hkbx : kb < rs.length := by rw [hrs.len]; omega
  have ga := List.getElem?_eq_getElem hkax
  have gb := List.getElem?_eq_getElem hkbx
  have fa := rod_fit (hrs.ok ka hkax) hla
  have fb := rod_fit (hrs.ok kb hkbx) hla
  have c0 := hx 0 _ (i64s_get (xs := l) (k := 0) (by omega))
  have c1 := hx ln _ (i64s_get (xs := l) (k := ln) (by omega))
  rw [hka] at c0
  rw [hkb] at c1
  have e4 : l.headD 0 = (ka : Int) := by rw [← h0, hka]
  have e5 : l.getLastD 0 = (kb : Int) := by rw [← hn, hkb]
  have hsp : S.spanL x rs l = S.spanOf x rs[ka] rs[kb] := spanL_at (by rw [e4]; exact ga) (by rw [e5]; exact gb)
  have hml : ∀ r : Rod, ¬ r.main < 0 → S.mlegOf r = S.legOf r := fun r h => by unfold S.mlegOf; rw [if_neg h]
  have he : S.spanOf x rs[ka] rs[kb] = S.anch (!decide (rs[ka].main < 0)) (!decide (rs[kb].main < 0)) ((S.mlegOf rs[ka]).lo.x + S.lowOf x rs[ka]) ((S.mlegOf rs[kb]).hi.x - S.upOf x rs[kb]) := by
    have tf : ¬ (true = false) := by simp
    unfold S.spanOf S.anch
    by_cases n1 : rs[ka].main < 0
    · rw [if_pos n1, decide_eq_true n1]
      rfl
    · rw [if_neg n1, decide_eq_false n1, hml _ n1]
      by_cases n2 : rs[kb].main < 0
      · rw [if_pos n2, decide_eq_true n2]
        rfl
      · rw [if_neg n2, decide_eq_false n2, hml _ n2]
        rfl
  rw [hsp, he]
  refine ranch_core x ka kb l.length ln (S.mlegOf rs[ka]) (S.mlegOf rs[kb]) _ _ (S.lowOf x rs[ka]) (S.upOf x rs[ka]) (S.lowOf x rs[kb]) (S.upOf x rs[kb]) b o c w hln (by omega) hb c0 c1
    (fun W hw => rmain_rod x rs B W (size_via hB hw) (hA.at_ hB hw) hla hrs ga)
    (fun W hw => rmain_rod x rs B W (size_via hB hw) (hA.at_ hB hw) hla hrs gb)
    (fun t1 t2 W hw => rends26_any x ka rs[ka] B W (size_via hB hw) (hA.at_ hB hw) hla hru hme (hrs.ok ka hkax) (by simp at t1; exact t1))
    (fun t1 t2 W hw => rends26_any x kb rs[kb] B W (size_via hB hw) (hA.at_ hB hw) hla hru hme (hrs.ok kb hkbx) (by simp at t2; exact t2)) ?_
  intro t1 t2
  have n1 : ¬ rs[ka].main < 0 := by simp at t1; omega
  have n2 : ¬ rs[kb].main < 0 := by simp at t2; omega
  have u1 := leg_x fa n1
  have u2 := leg_x fb n2
  have u3 := endLen_bd x rs[ka] hru fa (S.legOf rs[ka]).lo
  have u4 := endLen_bd x rs[kb] hru fb (S.legOf rs[kb]).hi
  change 0 ≤ S.lowOf x rs[ka] ∧ _ at u3
  change 0 ≤ S.upOf x rs[kb] ∧ _ at u4
  rw [hml _ n1, hml _ n2]
  change 0 ≤ S.lowOf x rs[ka] ∧ S.lowOf x rs[ka] ≤ 40000000000 at u3
  change 0 ≤ S.upOf x rs[kb] ∧ S.upOf x rs[kb] ≤ 40000000000 at u4
  omega
theorem box_set6 {w0 w : World} {b : Nat} {T : TypeId} {z0 z1 z2 z3 z4 z5 : Value} (h0 : Below w0.heap.size w0 w) (hl : w0.heap.size ≤ b) (hb : Blk w b T #[z0, z1, z2, z3, z4, z5]) (v0 v1 v2 v3 v4 v5 : Value) :
    ∃ W, ((((((w.setCell ⟨b, 0, none⟩ v0).setCell ⟨b, 1, none⟩ v1).setCell ⟨b, 2, none⟩ v2).setCell ⟨b, 3, none⟩ v3).setCell ⟨b, 4, none⟩ v4).setCell ⟨b, 5, none⟩ v5) = W ∧ Below w0.heap.size w0 W ∧ Blk W b T #[v0, v1, v2, v3, v4, v5] := by
  refine ⟨_, rfl, ba_set6 h0 hl _ _ _ _ _ _, ?_⟩
  have := (((((hb.set 0 v0).set 1 v1).set 2 v2).set 3 v3).set 4 v4).set 5 v5
  simpa only [List.setIfInBounds_toArray, List.set_cons_zero, List.set_cons_succ] using this
set_option maxRecDepth 20000 in
set_option maxHeartbeats 4000000 in
theorem rarea_core (x : Dt) (K : Int → Int) (l : List Int) (lz b o c : Nat) (w : World) (hlz : l.length = lz) (hl0 : 0 < lz) (hl1 : lz ≤ 2001) (hb : b < w.heap.size) (hs : Cells w w.heap.size (some ⟨b, o, none⟩) (i64s l)) (hK : ∀ i, i ∈ l → S.size (K i) = true)
    (hSZ : ∀ i, i ∈ l → ∀ W, Below w.heap.size w W → Calls Tryz.prog 47 #[dtV x, .int .i64 i] W fun e w' => e = .returned (.int .i64 (K i)) ∧ Below W.heap.size W w') :
    Calls Tryz.prog 45 #[dtV x, .slice (some ⟨b, o, none⟩) lz c] w fun e w' => e = .returned (.int .i64 (S.steelArea (K (minBy K l)))) ∧ Below w.heap.size w w' := by
  have HSZ := Lib.hid hSZ
  have HK := Lib.hid hK
  have HS := Lib.hid hs
  have HLZ := Lib.hid hlz
  have hi0 : (0 : Int) < (lz : Int) := by omega
  have c0 := hs.get (k := 0) (i64s_get (xs := l) (k := 0) (by omega))
  simp only [Nat.add_zero] at c0
  have HS0 := Lib.hid (HSZ.out l[0] (List.getElem_mem _))
  have H1 := Lib.hid (minBy_one K (xs := l) (by omega))
  generalize l[0] = i0 at *
  clear hSZ hK hs
  unfold dtV at HSZ HS0
  unfold dtV
  have hDB := Blk.new w 34 #[.string x.m.name, .slice x.mA x.mn x.mc, .slice x.hA x.hn x.hc, .int .i64 x.m.cover, .int .i64 x.m.aggr, .int .i64 x.m.poker, .slice x.bA x.bn x.bc, .slice x.rA x.rn x.rc, .slice x.jA x.jn x.jc, .slice x.dA x.dn x.dc, .int .i64 x.rule.num, .int .i64 x.rule.den, .int .i64 x.rule.pnum, .int .i64 x.rule.pden, .int .i64 x.rule.bnum, .int .i64 x.rule.bden, .int .i64 x.rule.lnum, .int .i64 x.rule.lden, .int .i64 x.rule.least]
  have hW1 : Below w.heap.size w (w.alloc (.cells #[.string x.m.name, .slice x.mA x.mn x.mc, .slice x.hA x.hn x.hc, .int .i64 x.m.cover, .int .i64 x.m.aggr, .int .i64 x.m.poker, .slice x.bA x.bn x.bc, .slice x.rA x.rn x.rc, .slice x.jA x.jn x.jc, .slice x.dA x.dn x.dc, .int .i64 x.rule.num, .int .i64 x.rule.den, .int .i64 x.rule.pnum, .int .i64 x.rule.pden, .int .i64 x.rule.bnum, .int .i64 x.rule.bden, .int .i64 x.rule.lnum, .int .i64 x.rule.lden, .int .i64 x.rule.least] 34)) := ba_alloc (Below.refl _ _) _
  go_enter Tryz.func45, Tryz.ntmps45
  go_upto_region 1 with fail
  generalize (w.alloc (.cells #[.string x.m.name, .slice x.mA x.mn x.mc, .slice x.hA x.hn x.hc, .int .i64 x.m.cover, .int .i64 x.m.aggr, .int .i64 x.m.poker, .slice x.bA x.bn x.bc, .slice x.rA x.rn x.rc, .slice x.jA x.jn x.jc, .slice x.dA x.dn x.dc, .int .i64 x.rule.num, .int .i64 x.rule.den, .int .i64 x.rule.pnum, .int .i64 x.rule.pden, .int .i64 x.rule.bnum, .int .i64 x.rule.bden, .int .i64 x.rule.lnum, .int .i64 x.rule.lden, .int .i64 x.rule.least] 34)) = W1 at *
  have HDB := Lib.hid hDB
  have a0 := (hW1.cell (p := ⟨b, o, none⟩) hb).trans c0
  have hbW : b < W1.heap.size := by have := hW1.size; omega
  clear hDB c0 hlz
  refine wp_region_mix 0 [4] (by kernel_rfl) (by kernel_rfl) (of_decide_eq_true (by kernel_rfl)) ?_
  try simp only [wpSegs, List.take_succ_cons, List.take_zero, List.drop_succ_cons, List.drop_zero, List.take_nil, List.drop_nil]
  repeat (first | (refine quietLoad (by rfl) 34 (.tmp 2) rfl _ _ rfl _ _ (quietBy fun W hw => (HDB.out.via hw).range) Tryz.underlying34 rfl (by kernel_rfl) ?_; intro aQ hQ; simp only [go_sem, List.setIfInBounds_toArray, List.set_cons_succ, List.set_cons_zero] at hQ; subst hQ) | go_big_quiet_step (fail))
  refine wpQuiet_nil ?_
  show wpList _ _ _ _ _ _
  go_wp2_with ((go_at_call 47; (with_reducible refine (HS0.out _ belr).mono ?_); rintro e w1 ⟨rfl, hbw1⟩))
  refine seg_next (grow_to belr) ?_
  try simp only [wpSegs, List.take_succ_cons, List.take_zero, List.drop_succ_cons, List.drop_zero, List.take_nil, List.drop_nil]
  repeat (go_big_quiet_step (fail))
  refine wpQuiet_nil ?_
  show wpList _ _ _ _ _ _
  go_upto_region 3 with fail
  have hb11 : Below W1.heap.size W1 w1 := ba_via hbw1 (ba_drew (Below.refl _ _))
  have hw1 : Below w.heap.size w w1 := ba_via hb11 hW1
  clear a0 hbW hbw1
  go_loopw [5, 6] (fun v i wr => ∃ k : Nat, 0 < k ∧ k ≤ lz ∧ i = .int .i64 k ∧ ∃ u : Int, v = .int .i64 u ∧ Hid (u = K (minBy K (l.take k))) ∧ Below w1.heap.size w1 wr) (fun _ i _ => lz - (intOf i).toNat)
  case atStart => exact ⟨1, by omega, by omega, rfl, _, rfl, Lib.hid (by rw [H1.out]), Below.refl _ _⟩
  case round =>
    obtain ⟨k, hk0, hk, rfl, u, rfl, hu, hbr⟩ := hrel
    have hbwr : Below w.heap.size w wr := ba_via hbr hw1
    by_cases hlt : k < lz
    · have hkx : k < l.length := by rw [HLZ.out]; exact hlt
      have hki : (k : Int) < lz := by omega
      have HNX := Lib.hid (congrArg K (minBy_next K hkx hk0))
      have hck := (HS.out.below hbwr).get (i64s_get hkx)
      have HSK := Lib.hid (HSZ.out l[k] (List.getElem_mem _))
      have hsr := hbwr.size
      have hbl : b < wr.heap.size := by omega
      have HDR := Lib.hid (HDB.out.via (ba_via hbr hb11))
      generalize l[k] = ik at *
      have HN2 := Lib.hid (show K (minBy K (l.take (k + 1))) = min u (K ik) by
        rw [apply_ite K, ← hu.out] at HNX
        rw [HNX.out]
        split <;> omega)
      clear HNX
      generalize K ik = nk at *
      go_upto_region 5 with fail
      refine wp_region_mix 0 [6, 0] (by kernel_rfl) (by kernel_rfl) (of_decide_eq_true (by kernel_rfl)) ?_
      try simp only [wpSegs, List.take_succ_cons, List.take_zero, List.drop_succ_cons, List.drop_zero, List.take_nil, List.drop_nil]
      repeat (first | (refine quietLoad (by rfl) 34 (.tmp 2) rfl _ _ rfl _ _ (quietBy fun W hw => (HDR.out.via hw).range) Tryz.underlying34 rfl (by kernel_rfl) ?_; intro aQ hQ; simp only [go_sem, List.setIfInBounds_toArray, List.set_cons_succ, List.set_cons_zero] at hQ; subst hQ) | go_big_quiet_step (fail))
      refine wpQuiet_nil ?_
      show wpList _ _ _ _ _ _
      go_wp2_with ((go_at_call 47; (with_reducible refine (HSK.out _ belr).mono ?_); rintro e w2 ⟨rfl, hbw2⟩))
      refine seg_next (grow_to belr) ?_
      try simp only [wpSegs, List.take_succ_cons, List.take_zero, List.drop_succ_cons, List.drop_zero, List.take_nil, List.drop_nil]
      repeat (go_big_quiet_step (fail))
      refine wpQuiet_nil ?_
      show wpList _ _ _ _ _ _
      go_wp2_with (fail)
      refine seg_next (grow_to belr) ?_
      try simp only [wpSegs, List.take_succ_cons, List.take_zero, List.drop_succ_cons, List.drop_zero, List.take_nil, List.drop_nil]
      repeat (go_big_quiet_step (fail))
      refine wpQuiet_nil ?_
      show wpList _ _ _ _ _ _
      go_wp2
      go_roundw
      case rel => exact ⟨k + 1, by omega, by omega, by go_num, min u nk, rfl, Lib.hid HN2.out.symm, ba_via belr hbr⟩
      case measure => simp [intOf]; omega
    · have hkn : k = lz := by omega
      have hki : ¬ ((k : Int) < lz) := by omega
      have HU := Lib.hid (show u = K (minBy K l) by rw [hu.out, hkn, ← HLZ.out, List.take_length])
      have HA := Lib.hid (fun (W : World) => rsteelArea_any u W (by
        have h1 := minBy_mem K (xs := l) (k := l.length) (by rw [HLZ.out]; exact hl0) (Nat.le_refl _)
        rw [List.take_length] at h1
        rw [HU.out]
        exact HK.out _ h1))
      go_wp2_with (first
        | (go_at_call 98; (with_reducible refine (HA.out _).mono ?_); rintro e w' ⟨rfl, rfl⟩))
      go_ret
      exact ⟨ret_i (by rw [HU.out]), hbwr⟩
theorem rsize_rod (x : Dt) (rs : List Rod) (B : Nat) (w : World) (hB : B ≤ w.heap.size) (hA : DtAt w B x) (hla : S.laid (bars x.bs) x.rs = true) (hrs : RodsOf x (S.nOf x) rs) {i : Int} (hi : 0 ≤ i ∧ i < (S.nOf x : Int)) :
    Calls Tryz.prog 47 #[dtV x, .int .i64 i] w fun e w' => e = .returned (.int .i64 (S.sizeI rs i)) ∧ Below w.heap.size w w' := by
  obtain ⟨k, rfl⟩ : ∃ k : Nat, i = (k : Int) := ⟨i.toNat, by omega⟩
  have hk : k < S.nOf x := by omega
  have hkx : k < rs.length := by rw [hrs.len]; exact hk
  have hm := List.getElem?_eq_getElem (l := S.mains (bars x.bs) x.rs) (i := k) hk
  have h1 := rsize25_any x B w hB hA hla k _ hm
  have hR := hrs.ok k hkx
  obtain ⟨a, j, k0, hL, he⟩ := hR.ex
  have h2 := hL.st.get
  rw [hm] at h2
  injection h2 with h2
  have e : S.sizeI rs (k : Int) = ((S.mains (bars x.bs) x.rs)[k]'hk).size := by
    rw [h2]
    unfold S.sizeI
    rw [Int.toNat_natCast, List.getElem?_eq_getElem hkx, mnOf_size]
  rw [e]
  exact h1
theorem rarea_any (x : Dt) (rs : List Rod) (l : List Int) (A : Option Addr) (c : Nat) (B : Nat) (w : World) (hB : B ≤ w.heap.size) (hA : DtAt w B x) (hla : S.laid (bars x.bs) x.rs = true) (hrs : RodsOf x (S.nOf x) rs)
    (hl0 : 0 < l.length) (hl1 : l.length ≤ 2001) (hin : ∀ i, i ∈ l → 0 ≤ i ∧ i < (S.nOf x : Int)) (hs : Cells w w.heap.size A (i64s l)) :
    Calls Tryz.prog 45 #[dtV x, .slice A l.length c] w fun e w' => e = .returned (.int .i64 (S.schOf x rs l).area) ∧ Below w.heap.size w w' := by
  obtain ⟨b, o, rfl, hb, hx⟩ := hs.at_ (by simp; omega)
  exact rarea_core x (S.sizeI rs) l l.length b o c w rfl hl0 hl1 hb hs (fun i hi => (areaI_pos hla hrs (hin i hi)).2.2) (fun i hi W hw => rsize_rod x rs B W (size_via hB hw) (hA.at_ hB hw) hla hrs (hin i hi))
set_option maxRecDepth 20000 in
set_option maxHeartbeats 8000000 in
theorem rsupp_core (x : Dt) (M : Int → Bx) (T I : Int → Bool) (z : Bx) (k : Nat) (l : List Int) (lz b o c bD oD : Nat) (p q : Int) (s : Bool) (w : World) (hlz : l.length = lz) (hl1 : lz ≤ 2001) (hs : Cells w w.heap.size (some ⟨b, o, none⟩) (i64s l)) (hb : b < w.heap.size)
    (hdA : x.dA = some ⟨bD, oD, none⟩) (hbD : bD < w.heap.size) (hk : k < x.dn)
    (z0 : w.cell? ⟨bD, oD + k * 8 + 1, none⟩ = some (.int .i64 z.lo.x)) (z1 : w.cell? ⟨bD, oD + k * 8 + 2, none⟩ = some (.int .i64 z.lo.y)) (z2 : w.cell? ⟨bD, oD + k * 8 + 3, none⟩ = some (.int .i64 z.lo.z)) (z3 : w.cell? ⟨bD, oD + k * 8 + 4, none⟩ = some (.int .i64 z.hi.x)) (z4 : w.cell? ⟨bD, oD + k * 8 + 5, none⟩ = some (.int .i64 z.hi.y)) (z5 : w.cell? ⟨bD, oD + k * 8 + 6, none⟩ = some (.int .i64 z.hi.z))
    (hM : ∀ i, i ∈ l → ∀ W, Below w.heap.size w W → Calls Tryz.prog 43 #[dtV x, .int .i64 i] W fun e w' => e = .returned (.tuple #[boxV (M i), .bool (T i)]) ∧ Below W.heap.size W w')
    (hI : ∀ i, i ∈ l → T i = true → ∀ W, Calls Tryz.prog 144 #[boxV z, boxV (M i)] W fun e w' => e = .returned (.bool (I i)) ∧ Below W.heap.size W w')
    (hN : ∀ W, Below w.heap.size w W → Calls Tryz.prog 44 #[dtV x, .slice (some ⟨b, o, none⟩) lz c] W fun e w' => e = .returned (.tuple #[.agg #[.int .i64 p, .int .i64 q], .bool s]) ∧ Below W.heap.size W w') :
    Calls Tryz.prog 91 #[dtV x, .slice (some ⟨b, o, none⟩) lz c, .int .i64 k] w fun e w' => e = .returned (.bool (s && !(anyb l fun i => !(T i && I i)))) ∧ Below w.heap.size w w' := by
  have HM := Lib.hid hM
  have HI := Lib.hid hI
  have HN := Lib.hid hN
  have HS := Lib.hid hs
  have HLZ := Lib.hid hlz
  have HZ := Lib.hid (And.intro z0 (And.intro z1 (And.intro z2 (And.intro z3 (And.intro z4 z5)))))
  have hki : (k : Int) < x.dn := by omega
  have hki0 : ¬ ((k : Int) < 0) := by omega
  clear hM hI hN hs hlz z0 z1 z2 z3 z4 z5
  unfold dtV at HM HN
  unfold boxV at HM HI
  unfold dtV
  rw [hdA] at HM HN
  rw [hdA]
  clear hdA
  obtain ⟨dA, hdA⟩ : ∃ dA, dA = (some (⟨bD, oD, none⟩ : Addr)) := ⟨_, rfl⟩
  rw [← hdA] at HM HN
  rw [← hdA]
  have HDA := Lib.hid hdA
  clear hdA
  have hDB := Blk.new w 34 #[.string x.m.name, .slice x.mA x.mn x.mc, .slice x.hA x.hn x.hc, .int .i64 x.m.cover, .int .i64 x.m.aggr, .int .i64 x.m.poker, .slice x.bA x.bn x.bc, .slice x.rA x.rn x.rc, .slice x.jA x.jn x.jc, .slice dA x.dn x.dc, .int .i64 x.rule.num, .int .i64 x.rule.den, .int .i64 x.rule.pnum, .int .i64 x.rule.pden, .int .i64 x.rule.bnum, .int .i64 x.rule.bden, .int .i64 x.rule.lnum, .int .i64 x.rule.lden, .int .i64 x.rule.least]
  have hW1 : Below w.heap.size w (w.alloc (.cells #[.string x.m.name, .slice x.mA x.mn x.mc, .slice x.hA x.hn x.hc, .int .i64 x.m.cover, .int .i64 x.m.aggr, .int .i64 x.m.poker, .slice x.bA x.bn x.bc, .slice x.rA x.rn x.rc, .slice x.jA x.jn x.jc, .slice dA x.dn x.dc, .int .i64 x.rule.num, .int .i64 x.rule.den, .int .i64 x.rule.pnum, .int .i64 x.rule.pden, .int .i64 x.rule.bnum, .int .i64 x.rule.bden, .int .i64 x.rule.lnum, .int .i64 x.rule.lden, .int .i64 x.rule.least] 34)) := ba_alloc (Below.refl _ _) _
  go_enter Tryz.func91, Tryz.ntmps91
  go_upto_region 1 with fail
  generalize (w.alloc (.cells #[.string x.m.name, .slice x.mA x.mn x.mc, .slice x.hA x.hn x.hc, .int .i64 x.m.cover, .int .i64 x.m.aggr, .int .i64 x.m.poker, .slice x.bA x.bn x.bc, .slice x.rA x.rn x.rc, .slice x.jA x.jn x.jc, .slice dA x.dn x.dc, .int .i64 x.rule.num, .int .i64 x.rule.den, .int .i64 x.rule.pnum, .int .i64 x.rule.pden, .int .i64 x.rule.bnum, .int .i64 x.rule.bden, .int .i64 x.rule.lnum, .int .i64 x.rule.lden, .int .i64 x.rule.least] 34)) = W1 at *
  have HDB := Lib.hid hDB
  clear hDB
  go_upto_region 2 with fail
  go_loopw [7] (fun v wr => ∃ m : Nat, m ≤ lz ∧ v = .int .i64 m ∧ Hid (∀ j (hj : j < l.length), j < m → (T l[j] && I l[j]) = true) ∧ Below W1.heap.size W1 wr) (fun v _ => lz - (intOf v).toNat)
  case atStart => exact ⟨0, Nat.zero_le _, rfl, Lib.hid (fun j _ h => absurd h (by omega)), Below.refl _ _⟩
  case round =>
    obtain ⟨m, hm, rfl, hno, hbr⟩ := hrel
    have hbwr : Below w.heap.size w wr := ba_via hbr hW1
    by_cases hlt : m < lz
    · have hmx : m < l.length := by rw [HLZ.out]; exact hlt
      have hmi : (m : Int) < lz := by omega
      have hcm := (HS.out.below hbwr).get (i64s_get hmx)
      have hsr := hbwr.size
      have hbl : b < wr.heap.size := by omega
      have HMI := Lib.hid (fun (W : World) (hw : Below wr.heap.size wr W) => HM.out l[m] (List.getElem_mem hmx) W (ba_via hw hbwr))
      have HII := Lib.hid (HI.out l[m] (List.getElem_mem hmx))
      have HOUT := Lib.hid (show (T l[m] && I l[m]) = false → (s && !(anyb l fun i => !(T i && I i))) = false from fun h => by
        rw [show (anyb l fun i => !(T i && I i)) = true from anyb_of (p := fun i => !(T i && I i)) hmx (by simp only [h]; rfl)]
        simp)
      have HNX := Lib.hid (show (T l[m] && I l[m]) = true → ∀ j (hj : j < l.length), j < m + 1 → (T l[j] && I l[j]) = true from fun h j hj hlt => by
        by_cases e : j = m
        · subst e; exact h
        · exact hno.out j hj (by omega))
      have HDR := Lib.hid (HDB.out.via hbr)
      generalize l[m] = im at *
      generalize M im = g at *
      generalize T im = t at *
      generalize I im = ti at *
      go_upto_region 4 with fail
      refine wp_region_mixF 3 [0, 4] [8] _ 89 #[.int .i64 0, .int .i64 0, .int .i64 0, .int .i64 0, .int .i64 0, .int .i64 0] (by kernel_rfl) (by kernel_rfl) (of_decide_eq_true (by kernel_rfl)) rfl rfl (fun _ _ => by kernel_rfl) (by intro c a d v w h; cases d <;> exact h) ?_
      try simp only [wpSegsF, List.take_succ_cons, List.take_zero, List.drop_succ_cons, List.drop_zero, List.take_nil, List.drop_nil]
      repeat (go_big_quiet_step (fail))
      refine wpQuiet_nil ?_
      intro wA hCwA hGwA
      have hbA' : Below wr.heap.size wr wA := ba_via hGwA (ba_drew (Below.refl _ _))
      clear hCwA hGwA
      have hRGA := (HDR.out.via hbA').range
      go_wp2_with ((refine wpList_load_mid rfl 34 (.tmp 3) rfl _ _ rfl _ _ hRGA Tryz.underlying34 rfl (by kernel_rfl) ?_))
      refine segF_next (show Below _ _ _ from belr) ?_
      clear hRGA
      try simp only [wpSegsF, List.take_succ_cons, List.take_zero, List.drop_succ_cons, List.drop_zero, List.take_nil, List.drop_nil]
      repeat (go_big_quiet_step (fail))
      refine wpQuiet_nil ?_
      intro wB hCwB hGwB
      have hbB : Below wr.heap.size wr wB := ba_via hGwB hbA'
      clear hCwB hGwB
      go_wp2_with ((go_at_call 43; (with_reducible refine (HMI.out _ belr).mono ?_); rintro e w1 ⟨rfl, hbw1⟩))
      refine segF_next (show Below _ _ _ from belr) ?_
      try simp only [wpSegsF, endAt, List.take_succ_cons, List.take_zero, List.drop_succ_cons, List.drop_zero, List.take_nil, List.drop_nil]
      repeat (go_big_quiet_step (fail))
      refine wpQuiet_nil ?_
      intro b1 wD hOwD hGwD hLb1 hKb1
      simp only [endAt, List.drop_succ_cons, List.drop_zero, Nat.reduceAdd]
      have hbD2 : Below wr.heap.size wr wD := ba_via hGwD belr
      have hbl1 : b1 < wD.heap.size := hKb1.lt
      have y0 := hKb1.cell 0
      have y1 := hKb1.cell 1
      have y2 := hKb1.cell 2
      have y3 := hKb1.cell 3
      have y4 := hKb1.cell 4
      have y5 := hKb1.cell 5
      have x0 := hKb1.frozen 0
      have x1 := hKb1.frozen 1
      have x2 := hKb1.frozen 2
      have x3 := hKb1.frozen 3
      have x4 := hKb1.frozen 4
      have x5 := hKb1.frozen 5
      simp only [List.getElem?_toArray, List.getElem?_cons_zero, List.getElem?_cons_succ] at y0 y1 y2 y3 y4 y5
      clear hOwD hGwD
      go_upto_region 5 with fail
      obtain ⟨W2, eW2, hW2, hB2⟩ := box_set6 hbD2 hLb1 hKb1 (.int .i64 g.lo.x) (.int .i64 g.lo.y) (.int .i64 g.lo.z) (.int .i64 g.hi.x) (.int .i64 g.hi.y) (.int .i64 g.hi.z)
      rw [eW2]
      clear eW2 y0 y1 y2 y3 y4 y5 x0 x1 x2 x3 x4 x5 hKb1 hbl1 hbD2 hbB hbA' hbw1 hcm
      clear wD w1 wB wA
      have hb2 : Below w.heap.size w W2 := ba_via hW2 hbwr
      cases t
      · refine wp_region_mix 1 [10] (by kernel_rfl) (by kernel_rfl) (of_decide_eq_true (by kernel_rfl)) ?_
        try simp only [wpSegs, List.take_succ_cons, List.take_zero, List.drop_succ_cons, List.drop_zero, List.take_nil, List.drop_nil]
        repeat (go_big_quiet_step (fail))
        refine wpQuiet_nil ?_
        show wpList _ _ _ _ _ _
        go_wp2_with (fail)
        refine seg_next (grow_to belr) ?_
        try simp only [wpSegs, List.take_succ_cons, List.take_zero, List.drop_succ_cons, List.drop_zero, List.take_nil, List.drop_nil]
        repeat (go_big_quiet_step (fail))
        refine wpQuiet_nil ?_
        show wpList _ _ _ _ _ _
        go_wp2
        go_ret
        exact ⟨ret_b (HOUT.out rfl).symm, bel⟩
      · have HIT := Lib.hid (HII.out rfl)
        have y0 := hB2.cell 0
        have y1 := hB2.cell 1
        have y2 := hB2.cell 2
        have y3 := hB2.cell 3
        have y4 := hB2.cell 4
        have y5 := hB2.cell 5
        have bl := hB2.lt
        simp only [List.getElem?_toArray, List.getElem?_cons_zero, List.getElem?_cons_succ] at y0 y1 y2 y3 y4 y5
        obtain ⟨v0, v1, v2, v3, v4, v5⟩ := HZ.out
        have z0 := (hb2.cell (p := ⟨bD, _, none⟩) hbD).trans v0
        have z1 := (hb2.cell (p := ⟨bD, _, none⟩) hbD).trans v1
        have z2 := (hb2.cell (p := ⟨bD, _, none⟩) hbD).trans v2
        have z3 := (hb2.cell (p := ⟨bD, _, none⟩) hbD).trans v3
        have z4 := (hb2.cell (p := ⟨bD, _, none⟩) hbD).trans v4
        have z5 := (hb2.cell (p := ⟨bD, _, none⟩) hbD).trans v5
        have hbDl : bD < W2.heap.size := by have := hb2.size; omega
        have hD2 := HDR.out.via hW2
        have d9 := hD2.cell 9
        have dl := hD2.lt
        simp only [List.getElem?_toArray, List.getElem?_cons_zero, List.getElem?_cons_succ] at d9
        rw [HDA.out] at d9
        clear v0 v1 v2 v3 v4 v5 hB2 hD2
        refine wp_region_mix 1 [10] (by kernel_rfl) (by kernel_rfl) (of_decide_eq_true (by kernel_rfl)) ?_
        try simp only [wpSegs, List.take_succ_cons, List.take_zero, List.drop_succ_cons, List.drop_zero, List.take_nil, List.drop_nil]
        repeat (go_big_quiet_step (fail))
        refine wpQuiet_nil ?_
        show wpList _ _ _ _ _ _
        go_wp2_with ((go_at_call 144; (with_reducible refine (HIT.out _).mono ?_); rintro e w1 ⟨rfl, hbw1⟩))
        refine seg_next (grow_to belr) ?_
        try simp only [wpSegs, List.take_succ_cons, List.take_zero, List.drop_succ_cons, List.drop_zero, List.take_nil, List.drop_nil]
        repeat (go_big_quiet_step (fail))
        refine wpQuiet_nil ?_
        show wpList _ _ _ _ _ _
        have hbw12 : Below wr.heap.size wr w1 := ba_via (ba_via hbw1 (ba_drew (Below.refl _ _))) hW2
        cases ti
        · go_wp2
          go_ret
          exact ⟨ret_b (HOUT.out rfl).symm, ba_via hbw12 hbwr⟩
        · go_wp2
          go_roundw
          case rel => exact ⟨m + 1, by omega, by go_num, Lib.hid (HNX.out rfl), ba_via hbw12 hbr⟩
          case measure => simp [intOf]; omega
    · have hmn : m = lz := by omega
      have hmi : ¬ ((m : Int) < lz) := by omega
      have HDR := Lib.hid (HDB.out.via hbr)
      have HF := Lib.hid (show (s && !(anyb l fun i => !(T i && I i))) = s by
        rw [show (anyb l fun i => !(T i && I i)) = false from anyb_not (p := fun i => !(T i && I i)) (fun j hj => by have := hno.out j hj (by rw [hmn, ← HLZ.out]; exact hj); simp only [this]; rfl)]
        simp)
      clear hno
      go_wp2_with (first
        | ((with_reducible refine at_load 34 3 ?_); refine wpList_load_mid rfl 34 (.tmp 3) rfl _ _ rfl _ _ (HDR.out.via belr).range Tryz.underlying34 rfl (by kernel_rfl) ?_)
        | (go_at_call 44; (with_reducible refine (HN.out _ (ba_via belr hbwr)).mono ?_); rintro e w1 ⟨rfl, hbw1⟩))
      go_ret
      exact ⟨ret_b HF.out.symm, bel⟩
def S.mI (rs : List Rod) (i : Int) : Bx := match rs[i.toNat]? with | some r => S.mlegOf r | none => S.zbox
def S.tI (rs : List Rod) (i : Int) : Bool := match rs[i.toNat]? with | some r => !decide (r.main < 0) | none => false
def S.iI (rs : List Rod) (z : Bx) (i : Int) : Bool := match rs[i.toNat]? with | some r => S.inside (S.legOf r) z | none => false
theorem anyb_congr {l : List Int} {p q : Int → Bool} (h : ∀ i, i ∈ l → p i = q i) : anyb l p = anyb l q := by
  unfold anyb
  induction l with
  | nil => rfl
  | cons a t ih => rw [List.any_cons, List.any_cons, h a (by simp), ih (fun i hi => h i (by simp [hi]))]
theorem rsupp_any (x : Dt) (ds : List Dm) (rs : List Rod) (l : List Int) (k : Nat) (d : Dm) (A : Option Addr) (c : Nat) (B : Nat) (w : World) (hB : B ≤ w.heap.size) (hA : DtAt w B x) (hD : DemsAt w B x.dA x.dn ds) (hla : S.laid (bars x.bs) x.rs = true) (hru : S.rule x.rule = true) (hme : S.member x.m = true) (hrs : RodsOf x (S.nOf x) rs)
    (hk : ds[k]? = some d) (hl0 : 0 < l.length) (hl1 : l.length ≤ 2001) (hin : ∀ i, i ∈ l → 0 ≤ i ∧ i < (S.nOf x : Int)) (hs : Cells w w.heap.size A (i64s l)) :
    Calls Tryz.prog 91 #[dtV x, .slice A l.length c, .int .i64 k] w fun e w' => e = .returned (.bool (S.sup rs d.zone (S.schOf x rs l))) ∧ Below w.heap.size w w' := by
  obtain ⟨b, o, rfl, hb, hx⟩ := hs.at_ (by simp; omega)
  obtain ⟨hkx, hke⟩ := List.getElem?_eq_some_iff.1 hk
  obtain ⟨bD, oD, hdA, hbD, hxx⟩ := hD.cells.at_ (by rw [flat_len dmC 8 dmC_len]; omega)
  have hDc := hD.cells
  rw [hdA] at hDc
  have z0 := hDc.rowj dmC_len hkx 1 rfl
  have z1 := hDc.rowj dmC_len hkx 2 rfl
  have z2 := hDc.rowj dmC_len hkx 3 rfl
  have z3 := hDc.rowj dmC_len hkx 4 rfl
  have z4 := hDc.rowj dmC_len hkx 5 rfl
  have z5 := hDc.rowj dmC_len hkx 6 rfl
  rw [hke] at z0 z1 z2 z3 z4 z5
  have hrod : ∀ i, i ∈ l → ∃ (n : Nat) (r : Rod), i = (n : Int) ∧ rs[n]? = some r ∧ RodFit x r := fun i hi => by
    obtain ⟨h1, h2⟩ := hin i hi
    have h3 : i.toNat < rs.length := by rw [hrs.len]; omega
    exact ⟨i.toNat, rs[i.toNat], by omega, List.getElem?_eq_getElem h3, rod_fit (hrs.ok _ h3) hla⟩
  have key := rsupp_core x (S.mI rs) (S.tI rs) (S.iI rs d.zone) d.zone k l l.length b o c bD oD (S.spanL x rs l).1 (S.spanL x rs l).2.1 (S.spanL x rs l).2.2 w rfl hl1 hs hb hdA (Nat.lt_of_lt_of_le hbD hB) (by have := hD.len; omega) z0 z1 z2 z3 z4 z5
    (fun i hi W hw => by
      obtain ⟨n, r, rfl, hr, _⟩ := hrod i hi
      have := rmain_rod x rs B W (size_via hB hw) (hA.at_ hB hw) hla hrs hr
      unfold S.mI S.tI
      rw [Int.toNat_natCast, hr]
      exact this)
    (fun i hi ht W => by
      obtain ⟨n, r, rfl, hr, hf⟩ := hrod i hi
      unfold S.tI at ht
      rw [Int.toNat_natCast, hr] at ht
      have hm : ¬ r.main < 0 := by simpa using ht
      obtain ⟨q, hq, hqe, hqm⟩ := idxf_some (xs := r.legs) (p := S.isMainB) (by rw [← hf.main]; omega)
      have hL : S.legOf r = r.legs[q] := by unfold S.legOf; rw [hf.main, hqe]; simp [List.getD_eq_getElem?_getD, hq]
      unfold S.mI S.iI
      rw [Int.toNat_natCast, hr]
      show Calls _ _ #[boxV d.zone, boxV (S.mlegOf r)] W fun e w' => e = .returned (.bool (S.inside (S.legOf r) d.zone)) ∧ _
      unfold S.mlegOf
      rw [if_neg hm]
      rw [← hL] at hqm
      obtain ⟨e1, e2, e3⟩ := isMainB_iff.1 hqm
      clear hL hqm
      generalize S.legOf r = L at *
      obtain ⟨⟨x1, y, z⟩, ⟨x2, y2, z2⟩⟩ := L
      simp only [] at e1 e2 e3
      subst e2 e3
      exact rin_any d.zone x1 x2 y z W)
    (fun W hw => ranch_any x rs l _ c B W (size_via hB hw) (hA.at_ hB hw) hla hru hme hrs hl0 hl1 hin ((hs.below hw).mono hw.size))
  have he : (anyb l fun i => !(S.tI rs i && S.iI rs d.zone i)) = anyb l (S.outI rs d.zone) := anyb_congr fun i hi => by
    obtain ⟨n, r, rfl, hr, _⟩ := hrod i hi
    unfold S.tI S.iI S.outI
    rw [Int.toNat_natCast, hr]
    show (!(!decide (r.main < 0) && S.inside (S.legOf r) d.zone)) = S.outside r d.zone
    unfold S.outside
    by_cases hm : r.main < 0
    · rw [if_pos hm, decide_eq_true hm]; rfl
    · rw [if_neg hm, decide_eq_false hm]; rfl
  rw [he] at key
  exact key
end Go.Proofs.YtffkmgjmlahfpaaGreat
