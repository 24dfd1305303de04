/- Lemmas. -/
import Derived.WalkKit
import Derived.ProofKit
import Derived.Lib.Hide
import Derived.BigQuiet
import Derived.Handy
import Derived.StillTail
import Derived.Maps.AppendAt
import Derived.Deep.MidRow
import Derived.RangeFuncNested
import Derived.RangeFuncBound
import Derived.RangeFuncCalls
import Derived.RangeFuncLeaves
import Derived.RangeFuncFrom
import Derived.Test.YtffkmgjmlahfpaaGreatRows
import Derived.BigRegion
import Derived.Deep.CutRange
import Derived.Deep.RegionHeld3
import Derived.Maps.OwnOps
import Derived.Maps.OwnSet
import Derived.OwnWalkIn
import Derived.TacticsInMore
import Derived.LoopNIn
import Derived.LoopIn
import Derived.Shelf.Abstract
import Derived.Shelf.Sort.Plain
import Derived.Shelf.Slices.CompactI
import Derived.Shelf.Slices.In.SortNone
import Derived.Sort.OwnSortedInts
import Derived.Lib.RowBridge
import Derived.Ground.NamesProg
import Derived.Ground.Names2Prog
import Derived.OrdersHeld
import Derived.Test.YtffkmgjmlahfpaaGreatYAU
import Derived.Test.YtffkmgjmlahfpaaGreatYAS
import Derived.Test.YtffkmgjmlahfpaaGreatYAW
import Derived.Test.YtffkmgjmlahfpaaGreatYAX
import Derived.Test.YtffkmgjmlahfpaaGreatYAA
import Derived.Test.YtffkmgjmlahfpaaGreatYX
import Derived.Test.YtffkmgjmlahfpaaGreatYAJ
import Derived.Test.YtffkmgjmlahfpaaGreatYT
import Derived.Test.YtffkmgjmlahfpaaGreatYO
import Derived.Test.YtffkmgjmlahfpaaGreatYAQ
import Derived.Test.YtffkmgjmlahfpaaGreatYAY
import Derived.Test.YtffkmgjmlahfpaaGreatYY
import Derived.Test.YtffkmgjmlahfpaaGreatYAP
import Derived.Test.YtffkmgjmlahfpaaGreatYAM
import Derived.Test.YtffkmgjmlahfpaaGreatYAH
import Derived.Test.YtffkmgjmlahfpaaGreatYAK
import Derived.Test.YtffkmgjmlahfpaaGreatYP
import Derived.Test.YtffkmgjmlahfpaaGreatYN
import Derived.Test.YtffkmgjmlahfpaaGreatYD
import Derived.Test.YtffkmgjmlahfpaaGreatYA
import Derived.Test.YtffkmgjmlahfpaaGreatYC
import Derived.Test.YtffkmgjmlahfpaaGreatYAF
import Derived.Test.YtffkmgjmlahfpaaGreatYZ
import Derived.Test.YtffkmgjmlahfpaaGreatYW
import Derived.Test.YtffkmgjmlahfpaaGreatYQ
import Derived.Test.YtffkmgjmlahfpaaGreatYM
import Derived.Test.YtffkmgjmlahfpaaGreatYL
import Derived.Test.YtffkmgjmlahfpaaGreatYI
import Derived.Test.YtffkmgjmlahfpaaGreatYG
import Derived.Test.YtffkmgjmlahfpaaGreatYF
import Derived.Test.YtffkmgjmlahfpaaGreatYB
import Derived.Test.YtffkmgjmlahfpaaGreatYU
import Derived.Test.YtffkmgjmlahfpaaGreatYH
import Derived.Test.YtffkmgjmlahfpaaGreatYE
import Derived.Test.YtffkmgjmlahfpaaGreatYJ
import Derived.Test.YtffkmgjmlahfpaaGreatYK
import Derived.Test.YtffkmgjmlahfpaaGreatYV
import Derived.Test.YtffkmgjmlahfpaaGreatYAB
import Derived.Test.YtffkmgjmlahfpaaGreatYAC
import Derived.Test.YtffkmgjmlahfpaaGreatYAD
import Derived.Test.YtffkmgjmlahfpaaGreatYAG
import Derived.Test.YtffkmgjmlahfpaaGreatYAE
import Derived.Test.YtffkmgjmlahfpaaGreatYAI
import Derived.Test.YtffkmgjmlahfpaaGreatYAN
import Derived.Test.YtffkmgjmlahfpaaGreatYAO
set_option linter.unusedVariables false
set_option linter.unusedSimpArgs false
namespace Go.Proofs.YtffkmgjmlahfpaaGreat
open Go.RowKit
theorem Of_err (x : Dt) (k : Int) (er : Int) (w : World) (he : (er == 0) = false)
    (hSU : ∀ W, Below w.heap.size w W → Calls Tryz.prog 83 #[dtV x, .int .i64 k] W fun e w' => e = .returned (.tuple #[.slice none 0 0, .slice none 0 0, .int .i64 er]) ∧ Below W.heap.size W w') :
    Calls Tryz.prog 31 #[dtV x, .int .i64 k] w fun e w' => e = .returned (.tuple #[.slice none 0 0, .int .i64 er]) ∧ Below w.heap.size w w' := by
  have HSU := Lib.hid hSU
  have he2 : ¬ (er = 0) := by simpa using he
  clear hSU
  unfold dtV at HSU
  unfold dtV
  have hDB := Blk.new w 34 #[.string x.m.name, .slice x.mA x.mn x.mc, .slice x.hA x.hn x.hc, .int .i64 x.m.cover, .int .i64 x.m.aggr, .int .i64 x.m.poker, .slice x.bA x.bn x.bc, .slice x.rA x.rn x.rc, .slice x.jA x.jn x.jc, .slice x.dA x.dn x.dc, .int .i64 x.rule.num, .int .i64 x.rule.den, .int .i64 x.rule.pnum, .int .i64 x.rule.pden, .int .i64 x.rule.bnum, .int .i64 x.rule.bden, .int .i64 x.rule.lnum, .int .i64 x.rule.lden, .int .i64 x.rule.least]
  have hW1 : Below w.heap.size w (w.alloc (.cells #[.string x.m.name, .slice x.mA x.mn x.mc, .slice x.hA x.hn x.hc, .int .i64 x.m.cover, .int .i64 x.m.aggr, .int .i64 x.m.poker, .slice x.bA x.bn x.bc, .slice x.rA x.rn x.rc, .slice x.jA x.jn x.jc, .slice x.dA x.dn x.dc, .int .i64 x.rule.num, .int .i64 x.rule.den, .int .i64 x.rule.pnum, .int .i64 x.rule.pden, .int .i64 x.rule.bnum, .int .i64 x.rule.bden, .int .i64 x.rule.lnum, .int .i64 x.rule.lden, .int .i64 x.rule.least] 34)) := ba_alloc (Below.refl _ _) _
  go_enter Tryz.func31, Tryz.ntmps31
  go_upto_region 1 with fail
  generalize (w.alloc (.cells #[.string x.m.name, .slice x.mA x.mn x.mc, .slice x.hA x.hn x.hc, .int .i64 x.m.cover, .int .i64 x.m.aggr, .int .i64 x.m.poker, .slice x.bA x.bn x.bc, .slice x.rA x.rn x.rc, .slice x.jA x.jn x.jc, .slice x.dA x.dn x.dc, .int .i64 x.rule.num, .int .i64 x.rule.den, .int .i64 x.rule.pnum, .int .i64 x.rule.pden, .int .i64 x.rule.bnum, .int .i64 x.rule.bden, .int .i64 x.rule.lnum, .int .i64 x.rule.lden, .int .i64 x.rule.least] 34)) = W1 at *
  have HDB := Lib.hid hDB
  clear hDB
  go_wp2_with (first
    | ((with_reducible refine at_load 34 2 ?_); refine wpList_load_mid rfl 34 (.tmp 2) rfl _ _ rfl _ _ (HDB.out.via belr).range Tryz.underlying34 rfl (by kernel_rfl) ?_)
    | (go_at_call 83; (with_reducible refine (HSU.out _ belr).mono ?_); rintro e w2 ⟨rfl, hbw2⟩))
  go_ret2
  exact ⟨rfl, bel⟩
section
variable {x : Dt} {ds : List Dm} {w : World}
theorem bad_Of (h : DtOk w x ds) (d : Int) (hg : S.given26 x ds d 0 ≠ 0) : ∀ W, Below w.heap.size w W → Calls Tryz.prog 31 #[dtV x, .int .i64 d] W fun e w' => e = .returned (.tuple #[.slice none 0 0, .int .i64 (S.given26 x ds d 0)]) ∧ Below W.heap.size W w' :=
  fun W hw => Of_err x d _ W (by simpa using hg) (fun V hV => bad_sups h d hg V (hw.trans (hV.mono hw.size)))
theorem good_rOf (h : DtOk w x ds) (hlk : S.look x (S.dems ds) = true) (hC : (S.cOf x).length ≤ 100) {k : Nat} {d : Dm} (hk : ds[k]? = some d) {rs : List Rod} (hrs : RodsOf x (S.nOf x) rs) :
    ∀ W, Below w.heap.size w W → Calls Tryz.prog 34 #[dtV x, .int .i64 k] W (GivesSt (S.supplyOf x rs (S.cOf x) d.zone) W) := fun W hw => by
  have hin := sch_span hlk hrs
  refine (rof26_core x (S.cOf x) k (S.schOf x rs) _ _ (fun p => S.supplyAt x rs (S.cOf x) d.zone p) W (says_at h hlk hk hrs hw) hC (fun e he => ?_) (fun U last hU hall => ?_) (fun p V hV => good_rAt h hlk hk p hrs V (hw.trans (hV.mono hw.size))) (fun V hV => good_rchains h hlk V (hw.trans (hV.mono hw.size)))).mono ?_
  · unfold S.allEnds at he
    obtain ⟨c, hc, he⟩ := ends2_mem.1 he
    obtain ⟨h1, h2⟩ := List.mem_filter.1 hc
    have := hin c h1 h2
    rcases he with rfl | rfl <;> omega
  · rw [refOf_same d.zone hU hall hin]
    exact sup_steps h hlk hC d.zone hrs
  · rintro e w' ⟨U, last, A, c, hU, hall, rfl, hO, hb⟩
    rw [refOf_same d.zone hU hall hin] at hO ⊢
    exact ⟨A, c, rfl, hO, hb⟩
end
set_option maxRecDepth 20000 in
set_option maxHeartbeats 4000000 in
theorem stepsLaw_big (x : Dt) (d : Int) (w : World)
    (hSM : ∀ W, Below w.heap.size w W → Calls Tryz.prog 29 #[dtV x] W fun e w' => e = .returned (.bool false) ∧ Below W.heap.size W w') :
    Calls Tryz.prog 6 #[dtV x, .int .i64 d] w fun e w' => e = .returned (.bool true) ∧ Below w.heap.size w w' := by
  have HA := Lib.hid (fun w => awake26_any w)
  have HSM := Lib.hid hSM
  clear hSM
  unfold dtV at HSM
  unfold dtV
  have hDB := Blk.new w 34 #[.string x.m.name, .slice x.mA x.mn x.mc, .slice x.hA x.hn x.hc, .int .i64 x.m.cover, .int .i64 x.m.aggr, .int .i64 x.m.poker, .slice x.bA x.bn x.bc, .slice x.rA x.rn x.rc, .slice x.jA x.jn x.jc, .slice x.dA x.dn x.dc, .int .i64 x.rule.num, .int .i64 x.rule.den, .int .i64 x.rule.pnum, .int .i64 x.rule.pden, .int .i64 x.rule.bnum, .int .i64 x.rule.bden, .int .i64 x.rule.lnum, .int .i64 x.rule.lden, .int .i64 x.rule.least]
  have hW1 : Below w.heap.size w (w.alloc (.cells #[.string x.m.name, .slice x.mA x.mn x.mc, .slice x.hA x.hn x.hc, .int .i64 x.m.cover, .int .i64 x.m.aggr, .int .i64 x.m.poker, .slice x.bA x.bn x.bc, .slice x.rA x.rn x.rc, .slice x.jA x.jn x.jc, .slice x.dA x.dn x.dc, .int .i64 x.rule.num, .int .i64 x.rule.den, .int .i64 x.rule.pnum, .int .i64 x.rule.pden, .int .i64 x.rule.bnum, .int .i64 x.rule.bden, .int .i64 x.rule.lnum, .int .i64 x.rule.lden, .int .i64 x.rule.least] 34)) := ba_alloc (Below.refl _ _) _
  go_enter Tryz.func6, Tryz.ntmps6
  go_upto_region 1 with fail
  generalize (w.alloc (.cells #[.string x.m.name, .slice x.mA x.mn x.mc, .slice x.hA x.hn x.hc, .int .i64 x.m.cover, .int .i64 x.m.aggr, .int .i64 x.m.poker, .slice x.bA x.bn x.bc, .slice x.rA x.rn x.rc, .slice x.jA x.jn x.jc, .slice x.dA x.dn x.dc, .int .i64 x.rule.num, .int .i64 x.rule.den, .int .i64 x.rule.pnum, .int .i64 x.rule.pden, .int .i64 x.rule.bnum, .int .i64 x.rule.bden, .int .i64 x.rule.lnum, .int .i64 x.rule.lden, .int .i64 x.rule.least] 34)) = W1 at *
  have HDB := Lib.hid hDB
  clear hDB
  go_wp2_with (first
    | (go_at_call 28; (with_reducible refine (HA.out _).mono ?_); rintro e wa ⟨rfl, hbwa⟩)
    | ((with_reducible refine at_load 34 2 ?_); refine wpList_load_mid rfl 34 (.tmp 2) rfl _ _ rfl _ _ (HDB.out.via belr).range Tryz.underlying34 rfl (by kernel_rfl) ?_)
    | (go_at_call 29; (with_reducible refine (HSM.out _ belr).mono ?_); rintro e wb ⟨rfl, hbwb⟩))
  go_ret
  exact ⟨rfl, bel⟩
set_option maxRecDepth 20000 in
set_option maxHeartbeats 4000000 in
theorem stepsLaw_no (x : Dt) (d er : Int) (w : World) (he : (er == 0) = false)
    (hSM : ∀ W, Below w.heap.size w W → Calls Tryz.prog 29 #[dtV x] W fun e w' => e = .returned (.bool true) ∧ Below W.heap.size W w')
    (hOF : ∀ W, Below w.heap.size w W → Calls Tryz.prog 31 #[dtV x, .int .i64 d] W fun e w' => e = .returned (.tuple #[.slice none 0 0, .int .i64 er]) ∧ Below W.heap.size W w')
    (hAL : ∀ W, Below w.heap.size w W → Calls Tryz.prog 32 #[dtV x] W fun e w' => e = .returned (.tuple #[.slice none 0 0, .int .i64 1]) ∧ Below W.heap.size W w')
    (hGV : ∀ W, Below w.heap.size w W → Calls Tryz.prog 33 #[dtV x, .int .i64 d, .int .i64 0] W fun e w' => e = .returned (.int .i64 er) ∧ Below W.heap.size W w')
    (hVL : ∀ W, Below w.heap.size w W → Calls Tryz.prog 14 #[dtV x] W fun e w' => e = .returned (.bool false) ∧ Below W.heap.size W w') :
    Calls Tryz.prog 6 #[dtV x, .int .i64 d] w fun e w' => e = .returned (.bool true) ∧ Below w.heap.size w w' := by
  have HA := Lib.hid (fun w => awake26_any w)
  have HSM := Lib.hid hSM
  have HOF := Lib.hid hOF
  have HAL := Lib.hid hAL
  have HGV := Lib.hid hGV
  have HVL := Lib.hid hVL
  have he2 : ¬ (er = 0) := by simpa using he
  clear hSM hOF hAL hGV hVL
  unfold dtV at HSM HOF HAL HGV HVL
  unfold dtV
  have hDB := Blk.new w 34 #[.string x.m.name, .slice x.mA x.mn x.mc, .slice x.hA x.hn x.hc, .int .i64 x.m.cover, .int .i64 x.m.aggr, .int .i64 x.m.poker, .slice x.bA x.bn x.bc, .slice x.rA x.rn x.rc, .slice x.jA x.jn x.jc, .slice x.dA x.dn x.dc, .int .i64 x.rule.num, .int .i64 x.rule.den, .int .i64 x.rule.pnum, .int .i64 x.rule.pden, .int .i64 x.rule.bnum, .int .i64 x.rule.bden, .int .i64 x.rule.lnum, .int .i64 x.rule.lden, .int .i64 x.rule.least]
  have hW1 : Below w.heap.size w (w.alloc (.cells #[.string x.m.name, .slice x.mA x.mn x.mc, .slice x.hA x.hn x.hc, .int .i64 x.m.cover, .int .i64 x.m.aggr, .int .i64 x.m.poker, .slice x.bA x.bn x.bc, .slice x.rA x.rn x.rc, .slice x.jA x.jn x.jc, .slice x.dA x.dn x.dc, .int .i64 x.rule.num, .int .i64 x.rule.den, .int .i64 x.rule.pnum, .int .i64 x.rule.pden, .int .i64 x.rule.bnum, .int .i64 x.rule.bden, .int .i64 x.rule.lnum, .int .i64 x.rule.lden, .int .i64 x.rule.least] 34)) := ba_alloc (Below.refl _ _) _
  go_enter Tryz.func6, Tryz.ntmps6
  go_upto_region 1 with fail
  generalize (w.alloc (.cells #[.string x.m.name, .slice x.mA x.mn x.mc, .slice x.hA x.hn x.hc, .int .i64 x.m.cover, .int .i64 x.m.aggr, .int .i64 x.m.poker, .slice x.bA x.bn x.bc, .slice x.rA x.rn x.rc, .slice x.jA x.jn x.jc, .slice x.dA x.dn x.dc, .int .i64 x.rule.num, .int .i64 x.rule.den, .int .i64 x.rule.pnum, .int .i64 x.rule.pden, .int .i64 x.rule.bnum, .int .i64 x.rule.bden, .int .i64 x.rule.lnum, .int .i64 x.rule.lden, .int .i64 x.rule.least] 34)) = W1 at *
  have HDB := Lib.hid hDB
  clear hDB
  go_wp2_with (first
    | (go_at_call 28; (with_reducible refine (HA.out _).mono ?_); rintro e wa ⟨rfl, hbwa⟩)
    | ((with_reducible refine at_load 34 2 ?_); refine wpList_load_mid rfl 34 (.tmp 2) rfl _ _ rfl _ _ (HDB.out.via belr).range Tryz.underlying34 rfl (by kernel_rfl) ?_)
    | (go_at_call 29; (with_reducible refine (HSM.out _ belr).mono ?_); rintro e wb ⟨rfl, hbwb⟩)
    | (go_at_call 31; (with_reducible refine (HOF.out _ belr).mono ?_); rintro e wc ⟨rfl, hbwc⟩)
    | (go_at_call 32; (with_reducible refine (HAL.out _ belr).mono ?_); rintro e wd ⟨rfl, hbwd⟩)
    | (go_at_call 33; (with_reducible refine (HGV.out _ belr).mono ?_); rintro e we ⟨rfl, hbwe⟩)
    | (go_at_call 14; (with_reducible refine (HVL.out _ belr).mono ?_); rintro e wf ⟨rfl, hbwf⟩))
  go_ret
  exact ⟨rfl, bel⟩
def StepSays (x : Dt) (d : Int) (er : Int) (w : World) : Prop :=
  ((er == 0) = false ∧ ∀ W, Below w.heap.size w W → Calls Tryz.prog 31 #[dtV x, .int .i64 d] W fun e w' => e = .returned (.tuple #[.slice none 0 0, .int .i64 er]) ∧ Below W.heap.size W w') ∨
  (er = 0 ∧ ∃ L : List Stp, L.length ≤ 10000 ∧ (∀ W, Below w.heap.size w W → Calls Tryz.prog 31 #[dtV x, .int .i64 d] W (GivesSt L W)) ∧ ∀ W, Below w.heap.size w W → Calls Tryz.prog 34 #[dtV x, .int .i64 d] W (GivesSt L W))
theorem eqSt_same (L : List Stp) (A : Option Addr) (c : Nat) (A' : Option Addr) (c' : Nat) (W : World) (hl : L.length ≤ 10000) (hs : Cells W W.heap.size A (L.flatMap stC)) (hs' : Cells W W.heap.size A' (L.flatMap stC)) :
    Calls Tryz.prog 35 #[.slice A L.length c, .slice A' L.length c'] W fun e w' => e = .returned (.bool true) ∧ Below W.heap.size W w' :=
  eqSt_yes L A L.length c A' c' W.heap.size W (Nat.le_refl _) ⟨rfl, by omega, hs⟩ ⟨rfl, by omega, hs'⟩
set_option maxRecDepth 20000 in
set_option maxHeartbeats 16000000 in
theorem stepsLaw_yes (x : Dt) (d er : Int) (Ls : Nat → List Stp) (w : World) (hdn : x.dn ≤ 20) (hLs : ∀ i, (Ls i).length ≤ 10000) (hd : StepSays x d er w)
    (hSM : ∀ W, Below w.heap.size w W → Calls Tryz.prog 29 #[dtV x] W fun e w' => e = .returned (.bool true) ∧ Below W.heap.size W w')
    (hAL : ∀ W, Below w.heap.size w W → Calls Tryz.prog 32 #[dtV x] W (GivesAll ((List.range x.dn).map Ls) W))
    (hGV : ∀ W, Below w.heap.size w W → Calls Tryz.prog 33 #[dtV x, .int .i64 d, .int .i64 0] W fun e w' => e = .returned (.int .i64 er) ∧ Below W.heap.size W w')
    (hVL : ∀ W, Below w.heap.size w W → Calls Tryz.prog 14 #[dtV x] W fun e w' => e = .returned (.bool true) ∧ Below W.heap.size W w')
    (hRO : ∀ (i : Nat), i < x.dn → ∀ W, Below w.heap.size w W → Calls Tryz.prog 34 #[dtV x, .int .i64 i] W (GivesSt (Ls i) W)) :
    Calls Tryz.prog 6 #[dtV x, .int .i64 d] w fun e w' => e = .returned (.bool true) ∧ Below w.heap.size w w' := by
  have HA := Lib.hid (fun w => awake26_any w)
  have HSM := Lib.hid hSM
  have HAL := Lib.hid hAL
  have HGV := Lib.hid hGV
  have HVL := Lib.hid hVL
  have HRO := Lib.hid hRO
  have HLS := Lib.hid hLs
  have HD := Lib.hid hd
  clear hSM hAL hGV hVL hRO hLs hd
  unfold StepSays at HD
  unfold dtV at HSM HAL HGV HVL HRO HD
  unfold dtV
  have hDB := Blk.new w 34 #[.string x.m.name, .slice x.mA x.mn x.mc, .slice x.hA x.hn x.hc, .int .i64 x.m.cover, .int .i64 x.m.aggr, .int .i64 x.m.poker, .slice x.bA x.bn x.bc, .slice x.rA x.rn x.rc, .slice x.jA x.jn x.jc, .slice x.dA x.dn x.dc, .int .i64 x.rule.num, .int .i64 x.rule.den, .int .i64 x.rule.pnum, .int .i64 x.rule.pden, .int .i64 x.rule.bnum, .int .i64 x.rule.bden, .int .i64 x.rule.lnum, .int .i64 x.rule.lden, .int .i64 x.rule.least]
  have hW1 : Below w.heap.size w (w.alloc (.cells #[.string x.m.name, .slice x.mA x.mn x.mc, .slice x.hA x.hn x.hc, .int .i64 x.m.cover, .int .i64 x.m.aggr, .int .i64 x.m.poker, .slice x.bA x.bn x.bc, .slice x.rA x.rn x.rc, .slice x.jA x.jn x.jc, .slice x.dA x.dn x.dc, .int .i64 x.rule.num, .int .i64 x.rule.den, .int .i64 x.rule.pnum, .int .i64 x.rule.pden, .int .i64 x.rule.bnum, .int .i64 x.rule.bden, .int .i64 x.rule.lnum, .int .i64 x.rule.lden, .int .i64 x.rule.least] 34)) := ba_alloc (Below.refl _ _) _
  go_enter Tryz.func6, Tryz.ntmps6
  go_upto_region 1 with fail
  generalize (w.alloc (.cells #[.string x.m.name, .slice x.mA x.mn x.mc, .slice x.hA x.hn x.hc, .int .i64 x.m.cover, .int .i64 x.m.aggr, .int .i64 x.m.poker, .slice x.bA x.bn x.bc, .slice x.rA x.rn x.rc, .slice x.jA x.jn x.jc, .slice x.dA x.dn x.dc, .int .i64 x.rule.num, .int .i64 x.rule.den, .int .i64 x.rule.pnum, .int .i64 x.rule.pden, .int .i64 x.rule.bnum, .int .i64 x.rule.bden, .int .i64 x.rule.lnum, .int .i64 x.rule.lden, .int .i64 x.rule.least] 34)) = W1 at *
  have HDB := Lib.hid hDB
  clear hDB
  go_upto_region 5 with (first
    | (go_at_call 28; (with_reducible refine (HA.out _).mono ?_); rintro e wa ⟨rfl, hbwa⟩)
    | ((with_reducible refine at_load 34 2 ?_); refine wpList_load_mid rfl 34 (.tmp 2) rfl _ _ rfl _ _ (HDB.out.via belr).range Tryz.underlying34 rfl (by kernel_rfl) ?_)
    | (go_at_call 29; (with_reducible refine (HSM.out _ belr).mono ?_); rintro e wb ⟨rfl, hbwb⟩))
  have hb5 : Below W1.heap.size W1 wb := belr
  have hw5 : Below w.heap.size w wb := ba_via hb5 hW1
  have HD5 := Lib.hid (HDB.out.via hb5)
  clear hbwa hbwb hb5 hW1 HDB HSM HA
  rcases HD.out with ⟨he, hOF⟩ | ⟨he, L, hL, hOF, hRF⟩
  focus
    have HOF := Lib.hid hOF
    have he2 : ¬ (er = 0) := by simpa using he
    clear HD hOF
    go_upto_region 8 with (first
      | ((with_reducible refine at_load 34 2 ?_); refine wpList_load_mid rfl 34 (.tmp 2) rfl _ _ rfl _ _ (HD5.out.via belr).range Tryz.underlying34 rfl (by kernel_rfl) ?_)
      | (go_at_call 31; (with_reducible refine (HOF.out _ belr).mono ?_); rintro e wc ⟨rfl, hbwc⟩)
      | (go_at_call 32; (with_reducible refine (HAL.out _ belr).mono ?_); rintro e wd ⟨A4, c4, rs, rfl, hmap, hcc, hce, hbwd⟩)
      | (go_at_call 33; (with_reducible refine (HGV.out _ belr).mono ?_); rintro e we ⟨rfl, hbwe⟩))
    have HMAP := Lib.hid hmap
    have HDZ := Lib.hid (HD5.out.via (ba_via hbwe (ba_via hbwd hbwc)))
    have HCC := Lib.hid ((hcc.below hbwe).mono hbwe.size)
    have HCE := Lib.hid (fun r hr => ((hce r hr).below hbwe).mono hbwe.size)
    have hwZ : Below w.heap.size w we := ba_via hbwe (ba_via hbwd (ba_via hbwc hw5))
    clear hmap hcc hce hbwc hbwd hbwe hw5 HD5 HOF HGV HAL
    go_upto_region 14 with fail
    clear he he2
  rotate_left
  focus
    subst he
    have HOF := Lib.hid hOF
    have HRF := Lib.hid hRF
    clear HD hOF hRF
    go_upto_region 8 with (first
      | ((with_reducible refine at_load 34 2 ?_); refine wpList_load_mid rfl 34 (.tmp 2) rfl _ _ rfl _ _ (HD5.out.via belr).range Tryz.underlying34 rfl (by kernel_rfl) ?_)
      | (go_at_call 31; (with_reducible refine (HOF.out _ belr).mono ?_); rintro e wc ⟨A3, c3, rfl, hO3, hbwc⟩)
      | (go_at_call 32; (with_reducible refine (HAL.out _ belr).mono ?_); rintro e wd ⟨A4, c4, rs, rfl, hmap, hcc, hce, hbwd⟩)
      | (go_at_call 33; (with_reducible refine (HGV.out _ belr).mono ?_); rintro e we ⟨rfl, hbwe⟩))
    have HMAP := Lib.hid hmap
    have HDY := Lib.hid (HD5.out.via (ba_via hbwe (ba_via hbwd hbwc)))
    have HCY := Lib.hid ((hcc.below hbwe).mono hbwe.size)
    have HEY := Lib.hid (fun r hr => ((hce r hr).below hbwe).mono hbwe.size)
    have hwY : Below w.heap.size w we := ba_via hbwe (ba_via hbwd (ba_via hbwc hw5))
    have hbce : Below wc.heap.size wc we := ba_via hbwe hbwd
    have HC3 := Lib.hid (((own_cells hO3 (by unfold maxLen; omega)).1.below hbce).mono hbce.size)
    clear hmap hcc hce hbwc hbwd hbwe hw5 HD5 HOF HGV HAL hO3 hbce
    go_upto_region 14 with (first
      | ((with_reducible refine at_load 34 2 ?_); refine wpList_load_mid rfl 34 (.tmp 2) rfl _ _ rfl _ _ (HDY.out.via belr).range Tryz.underlying34 rfl (by kernel_rfl) ?_)
      | (go_at_call 34; (with_reducible refine (HRF.out _ belr).mono ?_); rintro e wf ⟨A5, c5, rfl, hO5, hbwf⟩; have HC5 := Lib.hid (own_cells hO5 (by unfold maxLen; omega)).1; have HC4 := Lib.hid ((HC3.out.below hbwf).mono hbwf.size); have HEQ := Lib.hid (eqSt_same L A3 c3 A5 c5 wf hL HC4.out HC5.out); clear hO5)
      | (go_at_call 35; (with_reducible refine (HEQ.out).mono ?_); rintro e wg ⟨rfl, hbwg⟩))
    have hbYZ : Below we.heap.size we wg := ba_via hbwg hbwf
    have HDZ := Lib.hid (HDY.out.via hbYZ)
    have HCC := Lib.hid ((HCY.out.below hbYZ).mono hbYZ.size)
    have HCE := Lib.hid (fun r hr => ((HEY.out r hr).below hbYZ).mono hbYZ.size)
    have hwZ : Below w.heap.size w wg := ba_via hbYZ hwY
    clear HDY HCY HEY hwY hbYZ hbwf hbwg HC3 HC4 HC5 HEQ HRF hL
  rotate_left
  all_goals (
    have hrl : rs.length = x.dn := by
      have := congrArg List.length HMAP.out
      simpa using this
    go_upto_region 15 with (first
      | ((with_reducible refine at_load 34 2 ?_); refine wpList_load_mid rfl 34 (.tmp 2) rfl _ _ rfl _ _ (HDZ.out.via belr).range Tryz.underlying34 rfl (by kernel_rfl) ?_)
      | ((go_at_call 14; (with_reducible refine (HVL.out _ hwZ).mono ?_); rintro e wv ⟨rfl, hbwv⟩); have hDv := HDZ.out.via hbwv; have d9 := hDv.cell 9; have dl := hDv.lt; simp only [List.getElem?_toArray, List.getElem?_cons_zero, List.getElem?_cons_succ] at d9; clear hDv))
    have hwv : Below w.heap.size w wv := ba_via hbwv hwZ
    have HDV := Lib.hid (HDZ.out.via hbwv)
    have HCV := Lib.hid ((HCC.out.below hbwv).mono hbwv.size)
    have HEV := Lib.hid (fun r hr => ((HCE.out r hr).below hbwv).mono hbwv.size)
    clear HDZ HCC HCE hwZ hbwv HVL
    have HRL := Lib.hid hrl
    clear hrl
    go_loopw [81] (fun v wr => ∃ q : Nat, q ≤ x.dn ∧ v = .int .i64 q ∧ Below wv.heap.size wv wr) (fun v _ => x.dn - (intOf v).toNat)
    case atStart => exact ⟨0, Nat.zero_le _, rfl, Below.refl _ _⟩
    case round =>
      obtain ⟨q, hq, rfl, hbr⟩ := hrel
      have hbwr : Below w.heap.size w wr := ba_via hbr hwv
      by_cases hlt : q < x.dn
      · have hqx : q < rs.length := by rw [HRL.out]; exact hlt
        have hqi : (q : Int) < x.dn := by omega
        have hrq : rs[q].l = Ls q := by
          have h1 := congrArg (fun l => l[q]?) HMAP.out
          simp only [List.getElem?_map, List.getElem?_eq_getElem hqx, List.getElem?_range hlt, Option.map_some, Option.some.injEq] at h1
          exact h1
        have HROq := Lib.hid (fun (W : World) (hw : Below wr.heap.size wr W) => HRO.out q hlt W (ba_via hw hbwr))
        have hsr := hbr.size
        have hlq := HLS.out q
        obtain ⟨bA, oA, hAe, hbA, hxx⟩ := (HCV.out.below hbr).at_ (by rw [List.length_map]; omega)
        clear hxx
        have hc0 := HCV.out.below hbr
        rw [hAe] at hc0
        have c0 := hc0.get (k := q) (v := stqV rs[q]) (by rw [List.getElem?_map, List.getElem?_eq_getElem hqx]; rfl)
        have HQ := Lib.hid (((HEV.out rs[q] (List.getElem_mem hqx)).below hbr).mono hsr)
        unfold stqV at c0
        rw [hrq] at c0 HQ
        have hbAl : bA < wr.heap.size := by omega
        have HDR := Lib.hid (HDV.out.via hbr)
        rw [hAe]
        clear hc0 hrq hAe
        generalize rs[q].A = rA at *
        generalize rs[q].c = rc at *
        generalize Ls q = lq at *
        go_wp2_with (first
          | ((with_reducible refine at_load 34 2 ?_); refine wpList_load_mid rfl 34 (.tmp 2) rfl _ _ rfl _ _ (HDR.out.via belr).range Tryz.underlying34 rfl (by kernel_rfl) ?_)
          | (go_at_call 34; (with_reducible refine (HROq.out _ belr).mono ?_); rintro e wh ⟨A6, c6, rfl, hO6, hbwh⟩; have HC6 := Lib.hid (own_cells hO6 (by unfold maxLen; omega)).1; have HC7 := Lib.hid ((HQ.out.below hbwh).mono hbwh.size); have HEQ := Lib.hid (eqSt_same lq rA rc A6 c6 wh hlq HC7.out HC6.out); have c0h := (hbwh.cell (p := ⟨bA, oA + q, none⟩) hbAl).trans c0; have hbAh : bA < wh.heap.size := (by have := hbwh.size; omega); clear hO6)
          | (go_at_call 35; (with_reducible refine (HEQ.out).mono ?_); rintro e wi ⟨rfl, hbwi⟩))
        go_roundw
        case rel => exact ⟨q + 1, by omega, by go_num, ba_via hbwi (ba_via hbwh hbr)⟩
        case measure => simp [intOf]; omega
      · have hqi : ¬ ((q : Int) < x.dn) := by omega
        go_wp2
        go_ret
        exact ⟨rfl, hbwr⟩)
theorem steps_walk (x : Dt) (ds : List Dm) (d : Int) (w : World) (h : DtOk w x ds) :
    Calls Tryz.prog 6 #[dtV x, .int .i64 d] w fun e w' => e = .returned (.bool true) ∧ Below w.heap.size w w' := by
  have HSM : ∀ W, Below w.heap.size w W → Calls Tryz.prog 29 #[dtV x] W fun e w' => e = .returned (.bool (S.small25 x ds)) ∧ Below W.heap.size W w' := fun W hw =>
    few_any x (S.small25 x ds) W (fun V hV => small25_any x ds w.heap.size V (hw.trans (hV.mono hw.size)).size (h.at_.at_ (Nat.le_refl _) (hw.trans (hV.mono hw.size))) (h.dems.at_ (Nat.le_refl _) (hw.trans (hV.mono hw.size))))
  have HLK : ∀ W, Below w.heap.size w W → Calls Tryz.prog 14 #[dtV x] W fun e w' => e = .returned (.bool (S.look x (S.dems ds))) ∧ Below W.heap.size W w' := fun W hw => rlook_any x ds w.heap.size W hw.size (h.at_.at_ (Nat.le_refl _) hw) (h.dems.at_ (Nat.le_refl _) hw)
  cases hsm : S.small25 x ds
  · rw [hsm] at HSM
    exact stepsLaw_big x d w HSM
  · rw [hsm] at HSM
    by_cases hlk : S.look x (S.dems ds) = false
    · have hg : S.given26 x ds d 0 ≠ 0 := by unfold S.given26; rw [if_pos hlk]; decide
      exact stepsLaw_no x d _ w (by simpa using hg) HSM (bad_Of h d hg) (bad_All h hlk) (any_rgiven h d 0) (hlk ▸ HLK)
    · have hlk2 : S.look x (S.dems ds) = true := by simpa using hlk
      have g := look_ok hlk2
      obtain ⟨rs, hrs⟩ := rods_ex g.laid
      have hC := few_chains hsm g.laid
      have h20 : ds.length ≤ 20 := by
        have := g.dems
        unfold S.dems at this
        simp only [Bool.and_eq_true, decide_eq_true_eq] at this
        exact this.1
      refine stepsLaw_yes x d (S.given26 x ds d 0) (S.supplies x ds rs) w (by rw [← h.dems.len]; exact h20) (fun i => ?_) ?_ HSM (good_All h hlk2 hC hrs) (any_rgiven h d 0) (hlk2 ▸ HLK) (fun i hi => ?_)
      · unfold S.supplies
        split
        · exact Nat.le_trans (sup_steps h hlk2 hC _ hrs) (by decide)
        · simp
      · by_cases hg : S.given26 x ds d 0 = 0
        · obtain ⟨_, ⟨k, dm, rfl, hk⟩, _⟩ := given26_zero hg
          exact .inr ⟨hg, _, Nat.le_trans (sup_steps h hlk2 hC _ hrs) (by decide), fun W hw => good_Of h hlk2 hC hk hrs W hw, good_rOf h hlk2 hC hk hrs⟩
        · exact .inl ⟨by simpa using hg, bad_Of h d hg⟩
      · have hix : i < ds.length := by rw [h.dems.len]; exact hi
        unfold S.supplies
        rw [List.getElem?_eq_getElem hix]
        exact good_rOf h hlk2 hC (List.getElem?_eq_getElem hix) hrs
end Go.Proofs.YtffkmgjmlahfpaaGreat
