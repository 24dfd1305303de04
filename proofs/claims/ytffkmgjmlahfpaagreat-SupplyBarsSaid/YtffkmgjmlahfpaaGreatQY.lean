/- Contracts: supply.chains, supply.suppliers that refuse; supply.Anchored, supply.Area, supply.Leg. The supply of any detail: what supply.At answers. Plain: a chain's main legs cover all places from where the first begins to where the last ends; no laid bar is in two chains. -/
import Derived.Test.YtffkmgjmlahfpaaGreatQU
import Derived.Test.YtffkmgjmlahfpaaGreatQW
import Derived.Test.YtffkmgjmlahfpaaGreatQX
import Derived.Test.YtffkmgjmlahfpaaGreatQO
set_option linter.unusedVariables false
set_option linter.unusedSimpArgs false
namespace Go.Proofs.YtffkmgjmlahfpaaGreat
open Go.RowKit
set_option maxRecDepth 20000 in
theorem schains_no (x : Dt) (w : World)
    (hLV : ∀ W, Below w.heap.size w W → Calls Tryz.prog 87 #[dtV x] W fun e w' => e = .returned (.bool false) ∧ Below W.heap.size W w') :
    Calls Tryz.prog 93 #[dtV x] w fun e w' => e = .returned (.tuple #[.slice none 0 0, .slice none 0 0, .int .i64 1]) ∧ Below w.heap.size w w' := by
  have HLV := Lib.hid hLV
  clear hLV
  unfold dtV at HLV
  unfold dtV
  have hDB := Blk.new w 34 #[.string x.m.name, .slice x.mA x.mn x.mc, .slice x.hA x.hn x.hc, .int .i64 x.m.cover, .int .i64 x.m.aggr, .int .i64 x.m.poker, .slice x.bA x.bn x.bc, .slice x.rA x.rn x.rc, .slice x.jA x.jn x.jc, .slice x.dA x.dn x.dc, .int .i64 x.rule.num, .int .i64 x.rule.den, .int .i64 x.rule.pnum, .int .i64 x.rule.pden, .int .i64 x.rule.bnum, .int .i64 x.rule.bden, .int .i64 x.rule.lnum, .int .i64 x.rule.lden, .int .i64 x.rule.least]
  have hW1 : Below w.heap.size w (w.alloc (.cells #[.string x.m.name, .slice x.mA x.mn x.mc, .slice x.hA x.hn x.hc, .int .i64 x.m.cover, .int .i64 x.m.aggr, .int .i64 x.m.poker, .slice x.bA x.bn x.bc, .slice x.rA x.rn x.rc, .slice x.jA x.jn x.jc, .slice x.dA x.dn x.dc, .int .i64 x.rule.num, .int .i64 x.rule.den, .int .i64 x.rule.pnum, .int .i64 x.rule.pden, .int .i64 x.rule.bnum, .int .i64 x.rule.bden, .int .i64 x.rule.lnum, .int .i64 x.rule.lden, .int .i64 x.rule.least] 34)) := ba_alloc (Below.refl _ _) _
  go_enter Tryz.func93, Tryz.ntmps93
  go_upto_region 1 with fail
  generalize (w.alloc (.cells #[.string x.m.name, .slice x.mA x.mn x.mc, .slice x.hA x.hn x.hc, .int .i64 x.m.cover, .int .i64 x.m.aggr, .int .i64 x.m.poker, .slice x.bA x.bn x.bc, .slice x.rA x.rn x.rc, .slice x.jA x.jn x.jc, .slice x.dA x.dn x.dc, .int .i64 x.rule.num, .int .i64 x.rule.den, .int .i64 x.rule.pnum, .int .i64 x.rule.pden, .int .i64 x.rule.bnum, .int .i64 x.rule.bden, .int .i64 x.rule.lnum, .int .i64 x.rule.lden, .int .i64 x.rule.least] 34)) = W1 at *
  have HDB := Lib.hid hDB
  clear hDB
  go_wp2_with (first
    | ((with_reducible refine at_load 34 1 ?_); refine wpList_load_mid rfl 34 (.tmp 1) rfl _ _ rfl _ _ (HDB.out.via (by repeat (with_reducible first | exact Below.refl _ _ | assumption | refine ba_alloc ?_ _ | refine ba_drew ?_ | refine ba_drewN ?_ _ | refine ba_via (by assumption) ?_ | (refine ba_set ?_ ?_ _; rotate_left; (first | omega | (simp; omega) | simp))))).range Tryz.underlying34 rfl (by kernel_rfl) ?_)
    | (go_at_call 87; (with_reducible refine (HLV.out _ (by repeat (with_reducible first | exact Below.refl _ _ | assumption | refine ba_alloc ?_ _ | refine ba_drew ?_ | refine ba_drewN ?_ _ | refine ba_via (by assumption) ?_ | (refine ba_set ?_ ?_ _; rotate_left; (first | omega | (simp; omega) | simp))))).mono ?_); rintro e w2 ⟨rfl, hbw2⟩))
  go_returns
  exact ⟨rfl, (by repeat (first | exact Below.refl _ _ | assumption | refine ba_alloc ?_ _ | refine ba_drew ?_ | refine ba_drewN ?_ _ | refine ba_via (by assumption) ?_ | (refine ba_set ?_ ?_ _; rotate_left; (first | omega | (simp; omega) | simp))))⟩
theorem sups_err (x : Dt) (k : Int) (er : Int) (w : World) (he : (er == 0) = false)
    (hCH : ∀ W, Below w.heap.size w W → Calls Tryz.prog 93 #[dtV x] W fun e w' => e = .returned (.tuple #[.slice none 0 0, .slice none 0 0, .int .i64 er]) ∧ Below W.heap.size W w') :
    Calls Tryz.prog 83 #[dtV x, .int .i64 k] w fun e w' => e = .returned (.tuple #[.slice none 0 0, .slice none 0 0, .int .i64 er]) ∧ Below w.heap.size w w' := by
  have HCH := Lib.hid hCH
  have he2 : ¬ (er = 0) := by simpa using he
  clear hCH
  unfold dtV at HCH
  unfold dtV
  have hDB := (Blk.new w 34 #[.string x.m.name, .slice x.mA x.mn x.mc, .slice x.hA x.hn x.hc, .int .i64 x.m.cover, .int .i64 x.m.aggr, .int .i64 x.m.poker, .slice x.bA x.bn x.bc, .slice x.rA x.rn x.rc, .slice x.jA x.jn x.jc, .slice x.dA x.dn x.dc, .int .i64 x.rule.num, .int .i64 x.rule.den, .int .i64 x.rule.pnum, .int .i64 x.rule.pden, .int .i64 x.rule.bnum, .int .i64 x.rule.bden, .int .i64 x.rule.lnum, .int .i64 x.rule.lden, .int .i64 x.rule.least]).alloc (.cells #[.int .i64 k] 3)
  have hW1 : Below w.heap.size w ((w.alloc (.cells #[.string x.m.name, .slice x.mA x.mn x.mc, .slice x.hA x.hn x.hc, .int .i64 x.m.cover, .int .i64 x.m.aggr, .int .i64 x.m.poker, .slice x.bA x.bn x.bc, .slice x.rA x.rn x.rc, .slice x.jA x.jn x.jc, .slice x.dA x.dn x.dc, .int .i64 x.rule.num, .int .i64 x.rule.den, .int .i64 x.rule.pnum, .int .i64 x.rule.pden, .int .i64 x.rule.bnum, .int .i64 x.rule.bden, .int .i64 x.rule.lnum, .int .i64 x.rule.lden, .int .i64 x.rule.least] 34)).alloc (.cells #[.int .i64 k] 3)) := ba_alloc (ba_alloc (Below.refl _ _) _) _
  go_enter Tryz.func83, Tryz.ntmps83
  go_upto_region 1 with fail
  generalize ((w.alloc (.cells #[.string x.m.name, .slice x.mA x.mn x.mc, .slice x.hA x.hn x.hc, .int .i64 x.m.cover, .int .i64 x.m.aggr, .int .i64 x.m.poker, .slice x.bA x.bn x.bc, .slice x.rA x.rn x.rc, .slice x.jA x.jn x.jc, .slice x.dA x.dn x.dc, .int .i64 x.rule.num, .int .i64 x.rule.den, .int .i64 x.rule.pnum, .int .i64 x.rule.pden, .int .i64 x.rule.bnum, .int .i64 x.rule.bden, .int .i64 x.rule.lnum, .int .i64 x.rule.lden, .int .i64 x.rule.least] 34)).alloc (.cells #[.int .i64 k] 3)) = W1 at *
  have HDB := Lib.hid hDB
  clear hDB
  go_wp2_with (first
    | ((with_reducible refine at_load 34 2 ?_); refine wpList_load_mid rfl 34 (.tmp 2) rfl _ _ rfl _ _ (HDB.out.via (by repeat (with_reducible first | exact Below.refl _ _ | assumption | refine ba_alloc ?_ _ | refine ba_drew ?_ | refine ba_drewN ?_ _ | refine ba_via (by assumption) ?_ | (refine ba_set ?_ ?_ _; rotate_left; (first | omega | (simp; omega) | simp))))).range Tryz.underlying34 rfl (by kernel_rfl) ?_)
    | (go_at_call 93; (with_reducible refine (HCH.out _ (by repeat (with_reducible first | exact Below.refl _ _ | assumption | refine ba_alloc ?_ _ | refine ba_drew ?_ | refine ba_drewN ?_ _ | refine ba_via (by assumption) ?_ | (refine ba_set ?_ ?_ _; rotate_left; (first | omega | (simp; omega) | simp))))).mono ?_); rintro e w2 ⟨rfl, hbw2⟩))
  go_returns
  exact ⟨rfl, (by repeat (first | exact Below.refl _ _ | assumption | refine ba_alloc ?_ _ | refine ba_drew ?_ | refine ba_drewN ?_ _ | refine ba_via (by assumption) ?_ | (refine ba_set ?_ ?_ _; rotate_left; (first | omega | (simp; omega) | simp))))⟩
theorem sups_range (x : Dt) (C : List (List Int)) (n : Nat) (k : Int) (w : World) (hk : k < 0 ∨ (x.dn : Int) ≤ k)
    (hCH : ∀ W, Below w.heap.size w W → Calls Tryz.prog 93 #[dtV x] W (GivesSup x C n W)) :
    Calls Tryz.prog 83 #[dtV x, .int .i64 k] w fun e w' => e = .returned (.tuple #[.slice none 0 0, .slice none 0 0, .int .i64 2]) ∧ Below w.heap.size w w' := by
  have HCH := Lib.hid hCH
  clear hCH
  unfold dtV at HCH
  unfold dtV
  have hDB := (Blk.new w 34 #[.string x.m.name, .slice x.mA x.mn x.mc, .slice x.hA x.hn x.hc, .int .i64 x.m.cover, .int .i64 x.m.aggr, .int .i64 x.m.poker, .slice x.bA x.bn x.bc, .slice x.rA x.rn x.rc, .slice x.jA x.jn x.jc, .slice x.dA x.dn x.dc, .int .i64 x.rule.num, .int .i64 x.rule.den, .int .i64 x.rule.pnum, .int .i64 x.rule.pden, .int .i64 x.rule.bnum, .int .i64 x.rule.bden, .int .i64 x.rule.lnum, .int .i64 x.rule.lden, .int .i64 x.rule.least]).alloc (.cells #[.int .i64 k] 3)
  have hKB := Blk.new (w.alloc (.cells #[.string x.m.name, .slice x.mA x.mn x.mc, .slice x.hA x.hn x.hc, .int .i64 x.m.cover, .int .i64 x.m.aggr, .int .i64 x.m.poker, .slice x.bA x.bn x.bc, .slice x.rA x.rn x.rc, .slice x.jA x.jn x.jc, .slice x.dA x.dn x.dc, .int .i64 x.rule.num, .int .i64 x.rule.den, .int .i64 x.rule.pnum, .int .i64 x.rule.pden, .int .i64 x.rule.bnum, .int .i64 x.rule.bden, .int .i64 x.rule.lnum, .int .i64 x.rule.lden, .int .i64 x.rule.least] 34)) 3 #[.int .i64 k]
  have hW1 : Below w.heap.size w ((w.alloc (.cells #[.string x.m.name, .slice x.mA x.mn x.mc, .slice x.hA x.hn x.hc, .int .i64 x.m.cover, .int .i64 x.m.aggr, .int .i64 x.m.poker, .slice x.bA x.bn x.bc, .slice x.rA x.rn x.rc, .slice x.jA x.jn x.jc, .slice x.dA x.dn x.dc, .int .i64 x.rule.num, .int .i64 x.rule.den, .int .i64 x.rule.pnum, .int .i64 x.rule.pden, .int .i64 x.rule.bnum, .int .i64 x.rule.bden, .int .i64 x.rule.lnum, .int .i64 x.rule.lden, .int .i64 x.rule.least] 34)).alloc (.cells #[.int .i64 k] 3)) := ba_alloc (ba_alloc (Below.refl _ _) _) _
  go_enter Tryz.func83, Tryz.ntmps83
  go_upto_region 1 with fail
  rw [show (w.alloc (.cells #[.string x.m.name, .slice x.mA x.mn x.mc, .slice x.hA x.hn x.hc, .int .i64 x.m.cover, .int .i64 x.m.aggr, .int .i64 x.m.poker, .slice x.bA x.bn x.bc, .slice x.rA x.rn x.rc, .slice x.jA x.jn x.jc, .slice x.dA x.dn x.dc, .int .i64 x.rule.num, .int .i64 x.rule.den, .int .i64 x.rule.pnum, .int .i64 x.rule.pden, .int .i64 x.rule.bnum, .int .i64 x.rule.bden, .int .i64 x.rule.lnum, .int .i64 x.rule.lden, .int .i64 x.rule.least] 34)).heap.size = w.heap.size + 1 by simp] at hKB
  generalize ((w.alloc (.cells #[.string x.m.name, .slice x.mA x.mn x.mc, .slice x.hA x.hn x.hc, .int .i64 x.m.cover, .int .i64 x.m.aggr, .int .i64 x.m.poker, .slice x.bA x.bn x.bc, .slice x.rA x.rn x.rc, .slice x.jA x.jn x.jc, .slice x.dA x.dn x.dc, .int .i64 x.rule.num, .int .i64 x.rule.den, .int .i64 x.rule.pnum, .int .i64 x.rule.pden, .int .i64 x.rule.bnum, .int .i64 x.rule.bden, .int .i64 x.rule.lnum, .int .i64 x.rule.lden, .int .i64 x.rule.least] 34)).alloc (.cells #[.int .i64 k] 3)) = W1 at *
  have HDB := Lib.hid hDB
  have HKB := Lib.hid hKB
  clear hDB hKB
  go_upto_region 2 with (first
    | ((with_reducible refine at_load 34 2 ?_); refine wpList_load_mid rfl 34 (.tmp 2) rfl _ _ rfl _ _ (HDB.out.via (by repeat (with_reducible first | exact Below.refl _ _ | assumption | refine ba_alloc ?_ _ | refine ba_drew ?_ | refine ba_drewN ?_ _ | refine ba_via (by assumption) ?_ | (refine ba_set ?_ ?_ _; rotate_left; (first | omega | (simp; omega) | simp))))).range Tryz.underlying34 rfl (by kernel_rfl) ?_)
    | (go_at_call 93; (with_reducible refine (HCH.out _ (by repeat (with_reducible first | exact Below.refl _ _ | assumption | refine ba_alloc ?_ _ | refine ba_drew ?_ | refine ba_drewN ?_ _ | refine ba_via (by assumption) ?_ | (refine ba_set ?_ ?_ _; rotate_left; (first | omega | (simp; omega) | simp))))).mono ?_); rintro e w2 ⟨A1, c1, rs, A2, c2, cs, rfl, hrl, hok, hRA, hOW, hcl, hsch, hcc, hbw2⟩; clear hrl hok hRA hOW hcl hsch hcc))
  have hb2 : Below w2.heap.size w2 (w2.alloc (.cells #[.slice A1 rs.length c1] 145)) := ba_alloc (Below.refl _ _) _
  have HD3 := Lib.hid ((HDB.out.via hbw2).via hb2)
  have HK3 := Lib.hid ((HKB.out.via hbw2).via hb2)
  have hw3 : Below w.heap.size w (w2.alloc (.cells #[.slice A1 rs.length c1] 145)) := ba_alloc (ba_via hbw2 hW1) _
  have hwl : w.heap.size < W1.heap.size := HDB.out.lt
  have hwl1 : w.heap.size + 1 < W1.heap.size := HKB.out.lt
  generalize (w2.alloc (.cells #[.slice A1 rs.length c1] 145)) = W3 at *
  have d9 := HD3.out.cell 9
  have k0 := HK3.out.cell 0
  have dl := HD3.out.lt
  have kl := HK3.out.lt
  simp only [List.getElem?_toArray, List.getElem?_cons_zero, List.getElem?_cons_succ] at d9 k0
  by_cases h1 : k < 0
  · go_wp2
    go_returns
    exact ⟨rfl, (by repeat (first | exact Below.refl _ _ | assumption | refine ba_alloc ?_ _ | refine ba_drew ?_ | refine ba_drewN ?_ _ | refine ba_via (by assumption) ?_ | (refine ba_set ?_ ?_ _; rotate_left; (first | omega | (simp; omega) | simp))))⟩
  · have h2 : (x.dn : Int) ≤ k := by omega
    go_wp2
    go_returns
    exact ⟨rfl, (by repeat (first | exact Below.refl _ _ | assumption | refine ba_alloc ?_ _ | refine ba_drew ?_ | refine ba_drewN ?_ _ | refine ba_via (by assumption) ?_ | (refine ba_set ?_ ?_ _; rotate_left; (first | omega | (simp; omega) | simp))))⟩
end Go.Proofs.YtffkmgjmlahfpaaGreat
set_option linter.unusedVariables false
set_option linter.unusedSimpArgs false
namespace Go.Proofs.YtffkmgjmlahfpaaGreat
open Go.RowKit
def S.nOf (x : Dt) : Nat := (S.mains (bars x.bs) x.rs).length
def S.cOf (x : Dt) : List (List Int) := S.chains x.js (S.nOf x)
structure LookOk (x : Dt) (ds : List Dm) : Prop where
  mem : S.member x.m = true
  laid : S.laid (bars x.bs) x.rs = true
  dems : S.dems ds = true
  rule : S.rule x.rule = true
  j1000 : x.jn ≤ 1000
  n2000 : S.nOf x ≤ 2000
  c2000 : (S.cOf x).length ≤ 2000
  cin : ChIn (S.cOf x) (S.nOf x)
  good : LapsGood x.js (S.nOf x) (S.rankOf (S.mains (bars x.bs) x.rs))
theorem look_ok {x : Dt} {ds : List Dm} (hlk : S.look x (S.dems ds) = true) : LookOk x ds := by
  have hlk2 := hlk
  simp only [S.look, Bool.and_eq_true, decide_eq_true_eq] at hlk2
  obtain ⟨⟨⟨⟨⟨hmem, hlaid⟩, hdm⟩, hrule⟩, hj1000⟩, hlok⟩ := hlk2
  have hn2000 : S.nOf x ≤ 2000 := by
    have h2 := hlaid
    simp only [S.laid, Bool.and_eq_true] at h2
    have := mains_len h2.2 (by omega)
    unfold S.nOf
    omega
  have hgood : LapsGood x.js (S.nOf x) (S.rankOf (S.mains (bars x.bs) x.rs)) := laps_good hlok
  refine ⟨hmem, hlaid, hdm, hrule, hj1000, hn2000, Nat.le_trans (chains_le x.js _ _) hn2000, fun l hl => ?_, hgood⟩
  unfold S.cOf S.chains S.chainsTo at hl
  obtain ⟨q, hq, rfl⟩ := List.mem_map.1 hl
  have hq2 := List.mem_range.1 (List.mem_filter.1 hq).1
  have := chainOf_le (S.nextF x.js) (S.nOf x) q
  exact ⟨Nat.succ_pos _, by omega, fun i hi => hgood.mem_range (i := q) (by omega) hi⟩
theorem dems_at {ds : List Dm} (h : S.dems ds = true) {k : Nat} {d : Dm} (hk : ds[k]? = some d) : S.demRight d = true := by
  unfold S.dems at h
  simp only [Bool.and_eq_true] at h
  have h2 := List.all_eq_true.1 h.2 k (List.mem_range.2 (List.getElem?_eq_some_iff.1 hk).1)
  unfold S.demAt at h2
  rw [hk] at h2
  simp only [Bool.and_eq_true] at h2
  exact h2.1
section
variable {x : Dt} {ds : List Dm} {w : World}
theorem good_dv (h : DtOk w x ds) : ∀ W, Below w.heap.size w W → Calls Tryz.prog 121 #[.slice x.dA x.dn x.dc] W fun e w' => e = .returned (.bool (S.dems ds)) ∧ Below W.heap.size W w' :=
  fun W hw => dvalid_any ds x.dA x.dn x.dc w.heap.size W hw.size h.cap (h.dems.at_ (Nat.le_refl _) hw)
theorem good_look (h : DtOk w x ds) (hlk : S.look x (S.dems ds) = true) : ∀ W, Below w.heap.size w W → Calls Tryz.prog 65 #[dtV x] W (GivesLook true (S.mains (bars x.bs) x.rs).length ((S.mains (bars x.bs) x.rs).flatMap mnC) W) :=
  fun W hw => look_yes x (S.dems ds) w.heap.size W hw.size (h.at_.at_ (Nat.le_refl _) hw) (fun V hV => good_dv h V (hw.trans (hV.mono hw.size))) hlk
theorem bad_look (h : DtOk w x ds) (hlk : S.look x (S.dems ds) = false) : ∀ W, Below w.heap.size w W → Calls Tryz.prog 65 #[dtV x] W (GivesLook false 0 [] W) :=
  fun W hw => look_no x (S.dems ds) w.heap.size W hw.size (h.at_.at_ (Nat.le_refl _) hw) (fun V hV => good_dv h V (hw.trans (hV.mono hw.size))) hlk
theorem good_chains (h : DtOk w x ds) (hlk : S.look x (S.dems ds) = true) : ∀ W, Below w.heap.size w W → Calls Tryz.prog 93 #[dtV x] W (GivesSup x (S.cOf x) (S.nOf x) W) := fun W hw => by
  have g := look_ok hlk
  have hat := h.at_.at_ (Nat.le_refl _) hw
  exact schains_any x (S.cOf x) (S.nOf x) w.heap.size W hw.size hat g.laid g.rule g.mem g.n2000 g.c2000 g.cin
    (fun V hV => lvalid_any x true w.heap.size _ _ V (hw.trans (hV.mono hw.size)).size (fun U hU => good_look h hlk U ((hw.trans (hV.mono hw.size)).trans (hU.mono (hw.trans (hV.mono hw.size)).size))))
    (fun V hV => rods_any x w.heap.size V (hw.trans (hV.mono hw.size)).size (h.at_.at_ (Nat.le_refl _) (hw.trans (hV.mono hw.size))) g.laid g.n2000)
    (fun V hV => lchains_yes x w.heap.size _ _ _ V (hw.trans (hV.mono hw.size)).size g.n2000 (fun U hU => good_look h hlk U ((hw.trans (hV.mono hw.size)).trans (hU.mono (hw.trans (hV.mono hw.size)).size)))
      (fun U hU => chains_any x _ _ w.heap.size U ((hw.trans (hV.mono hw.size)).trans (hU.mono (hw.trans (hV.mono hw.size)).size)).size (h.at_.at_ (Nat.le_refl _) ((hw.trans (hV.mono hw.size)).trans (hU.mono (hw.trans (hV.mono hw.size)).size))) g.good g.n2000 g.j1000))
theorem good_sups (h : DtOk w x ds) (hlk : S.look x (S.dems ds) = true) {k : Nat} {d : Dm} (hk : ds[k]? = some d) : ∀ W, Below w.heap.size w W → Calls Tryz.prog 83 #[dtV x, .int .i64 k] W (GivesSups x (S.cOf x) (S.nOf x) (fun rs => S.sup rs d.zone) W) := fun W hw => by
  have g := look_ok hlk
  exact sups_any x (S.cOf x) (S.nOf x) ds k d w.heap.size W hw.size (h.at_.at_ (Nat.le_refl _) hw) (h.dems.at_ (Nat.le_refl _) hw) hk (dems_at g.dems hk) g.laid g.n2000 g.c2000 g.cin (fun V hV => good_chains h hlk V (hw.trans (hV.mono hw.size)))
theorem good_At (h : DtOk w x ds) (hlk : S.look x (S.dems ds) = true) {k : Nat} {d : Dm} (hk : ds[k]? = some d) {p : Int} (hp : -1048576 ≤ p ∧ p ≤ 1048576) {rs : List Rod} (hrs : RodsOf x (S.nOf x) rs) :
    ∀ W, Below w.heap.size w W → Calls Tryz.prog 30 #[dtV x, .int .i64 k, .int .i64 p] W fun e w' => e = .returned (.tuple #[.int .i64 (S.supplyAt x rs (S.cOf x) d.zone p), .int .i64 0]) ∧ Below W.heap.size W w' := fun W hw => by
  have g := look_ok hlk
  refine (At_any x (S.cOf x) (S.nOf x) d.zone k p W g.c2000 (fun rs l c h1 h2 h3 h4 => area_bd g.cin g.laid rs l c ⟨h2, h1⟩ h3 h4) (fun V hV => at_any x (S.cOf x) (S.nOf x) d.zone k p V g.c2000 hp.1 hp.2 (fun U hU => good_sups h hlk hk U ((hw.trans (hV.mono hw.size)).trans (hU.mono (hw.trans (hV.mono hw.size)).size))))).mono ?_
  rintro e w' ⟨rs', cs, rfl, h1, h2, h3, h4, h5⟩
  exact ⟨by rw [supplyAt_same ⟨h1, h2⟩ hrs h3 h4], h5⟩
theorem good_Of (h : DtOk w x ds) (hlk : S.look x (S.dems ds) = true) (hC : (S.cOf x).length ≤ 100) {k : Nat} {d : Dm} (hk : ds[k]? = some d) {rs : List Rod} (hrs : RodsOf x (S.nOf x) rs) :
    ∀ W, Below w.heap.size w W → Calls Tryz.prog 31 #[dtV x, .int .i64 k] W fun e w' => ∃ (A : Option Addr) (c : Nat), e = .returned (.tuple #[.slice A (S.supplyOf x rs (S.cOf x) d.zone).length c, .int .i64 0]) ∧
      w'.ownsRow W.heap.size 81 2 (.slice A (S.supplyOf x rs (S.cOf x) d.zone).length c) (S.supplyOf x rs (S.cOf x) d.zone).length ((S.supplyOf x rs (S.cOf x) d.zone).flatMap stC) ∧ Below W.heap.size W w' := fun W hw => by
  have g := look_ok hlk
  refine (Of_any x (S.cOf x) (S.nOf x) d.zone k W hC (fun rs l c h1 h2 h3 h4 => area_bd g.cin g.laid rs l c ⟨h2, h1⟩ h3 h4) (fun rs cs h1 h2 h3 h4 => of_steps hC g.cin g.laid g.rule d.zone rs cs ⟨h2, h1⟩ h3 h4) (fun V hV => good_sups h hlk hk V (hw.trans (hV.mono hw.size)))).mono ?_
  rintro e w' ⟨A, c, rs', cs, rfl, h1, h2, h3, h4, h5, h6⟩
  rw [supplyOf_same ⟨h1, h2⟩ hrs h3 h4] at h5 ⊢
  exact ⟨A, c, rfl, h5, h6⟩
/-- The error of a detail, a demand, and a place. -/
def S.given26 (x : Dt) (ds : List Dm) (d p : Int) : Int := if S.look x (S.dems ds) = false then 1 else if d < 0 ∨ (ds.length : Int) ≤ d ∨ S.place p = false then 2 else 0
theorem bad_chains (h : DtOk w x ds) (hlk : S.look x (S.dems ds) = false) : ∀ W, Below w.heap.size w W → Calls Tryz.prog 93 #[dtV x] W fun e w' => e = .returned (.tuple #[.slice none 0 0, .slice none 0 0, .int .i64 1]) ∧ Below W.heap.size W w' :=
  fun W hw => schains_no x W (fun V hV => lvalid_any x false w.heap.size _ _ V (hw.trans (hV.mono hw.size)).size (fun U hU => bad_look h hlk U ((hw.trans (hV.mono hw.size)).trans (hU.mono (hw.trans (hV.mono hw.size)).size))))
theorem bad_sups (h : DtOk w x ds) (d : Int) (hg : S.given26 x ds d 0 ≠ 0) : ∀ W, Below w.heap.size w W → Calls Tryz.prog 83 #[dtV x, .int .i64 d] W fun e w' => e = .returned (.tuple #[.slice none 0 0, .slice none 0 0, .int .i64 (S.given26 x ds d 0)]) ∧ Below W.heap.size W w' := fun W hw => by
  unfold S.given26 at hg ⊢
  by_cases hlk : S.look x (S.dems ds) = false
  · rw [if_pos hlk]
    exact sups_err x d 1 W rfl (fun V hV => bad_chains h hlk V (hw.trans (hV.mono hw.size)))
  · rw [if_neg hlk] at hg ⊢
    have hlk2 : S.look x (S.dems ds) = true := by simpa using hlk
    by_cases hr : d < 0 ∨ (ds.length : Int) ≤ d ∨ S.place 0 = false
    · rw [if_pos hr]
      refine sups_range x (S.cOf x) (S.nOf x) d W ?_ (fun V hV => good_chains h hlk2 V (hw.trans (hV.mono hw.size)))
      rcases hr with h1 | h1 | h1
      · exact .inl h1
      · exact .inr (by rw [h.dems.len] at h1; exact h1)
      · exact absurd h1 (by decide)
    · rw [if_neg hr] at hg
      exact absurd rfl hg
theorem bad_at (h : DtOk w x ds) (d p : Int) (hg : S.given26 x ds d p ≠ 0) : ∀ W, Below w.heap.size w W → Calls Tryz.prog 81 #[dtV x, .int .i64 d, .int .i64 p] W fun e w' => e = .returned (.tuple #[.slice none 0 0, .slice none 0 0, .int .i64 (S.given26 x ds d p)]) ∧ Below W.heap.size W w' := fun W hw => by
  by_cases hg0 : S.given26 x ds d 0 = 0
  · unfold S.given26 at hg hg0 ⊢
    by_cases hlk : S.look x (S.dems ds) = false
    · rw [if_pos hlk] at hg0; cases hg0
    · rw [if_neg hlk] at hg hg0 ⊢
      have hlk2 : S.look x (S.dems ds) = true := by simpa using hlk
      by_cases hr : d < 0 ∨ (ds.length : Int) ≤ d ∨ S.place p = false
      · rw [if_pos hr]
        by_cases hr0 : d < 0 ∨ (ds.length : Int) ≤ d ∨ S.place 0 = false
        · rw [if_pos hr0] at hg0; cases hg0
        · obtain ⟨m, rfl⟩ := Int.eq_ofNat_of_zero_le (show 0 ≤ d by omega)
          have hml : m < ds.length := by omega
          refine at_far x (S.cOf x) (S.nOf x) ds[m].zone m p W ?_ (fun V hV => good_sups h hlk2 (List.getElem?_eq_getElem hml) V (hw.trans (hV.mono hw.size)))
          have hpl : S.place p = false := by
            rcases hr with h1 | h1 | h1
            · omega
            · omega
            · exact h1
          unfold S.place at hpl
          rw [Bool.and_eq_false_iff, decide_eq_false_iff_not, decide_eq_false_iff_not] at hpl
          omega
      · rw [if_neg hr] at hg
        exact absurd rfl hg
  · have he : S.given26 x ds d p = S.given26 x ds d 0 := by
      unfold S.given26 at hg0 ⊢
      by_cases hlk : S.look x (S.dems ds) = false
      · rw [if_pos hlk, if_pos hlk]
      · rw [if_neg hlk] at hg0 ⊢
        rw [if_neg hlk]
        by_cases hr : d < 0 ∨ (ds.length : Int) ≤ d ∨ S.place 0 = false
        · have hr2 : d < 0 ∨ (ds.length : Int) ≤ d := by
            rcases hr with h1 | h1 | h1
            · exact .inl h1
            · exact .inr h1
            · exact absurd h1 (by decide)
          rw [if_pos hr, if_pos (by rcases hr2 with h1 | h1; exact .inl h1; exact .inr (.inl h1))]
        · rw [if_neg hr] at hg0
          exact absurd rfl hg0
    rw [he]
    refine at_err x d p _ W ?_ (fun V hV => bad_sups h d hg0 V (hw.trans (hV.mono hw.size)))
    simpa using hg0
theorem bad_At (h : DtOk w x ds) (d p : Int) (hg : S.given26 x ds d p ≠ 0) : ∀ W, Below w.heap.size w W → Calls Tryz.prog 30 #[dtV x, .int .i64 d, .int .i64 p] W fun e w' => e = .returned (.tuple #[.int .i64 0, .int .i64 (S.given26 x ds d p)]) ∧ Below W.heap.size W w' :=
  fun W hw => At_err x d p _ W (by simpa using hg) (fun V hV => bad_at h d p hg V (hw.trans (hV.mono hw.size)))
end
theorem given26_zero {x : Dt} {ds : List Dm} {d p : Int} (h : S.given26 x ds d p = 0) : S.look x (S.dems ds) = true ∧ (∃ (m : Nat) (dm : Dm), d = m ∧ ds[m]? = some dm) ∧ -1048576 ≤ p ∧ p ≤ 1048576 := by
  unfold S.given26 at h
  split at h
  · cases h
  · rename_i h1
    split at h
    · cases h
    · rename_i h2
      have hpl : S.place p = true := by
        cases hp : S.place p
        · exact absurd (.inr (.inr hp)) h2
        · rfl
      unfold S.place at hpl
      simp only [Bool.and_eq_true, decide_eq_true_eq] at hpl
      obtain ⟨m, rfl⟩ := Int.eq_ofNat_of_zero_le (show 0 ≤ d by omega)
      have hml : m < ds.length := by omega
      exact ⟨by simpa using h1, ⟨m, ds[m], rfl, List.getElem?_eq_getElem hml⟩, hpl⟩
theorem few_bars {x : Dt} {ds : List Dm} (hs : S.small25 x ds = true) (hl : S.laid (bars x.bs) x.rs = true) : S.nOf x ≤ 96 := by
  have h16 : S.small16 (bars x.bs) x.rs = true := by
    unfold S.small25 at hs
    simp only [Bool.and_eq_true] at hs
    exact hs.1.1.2
  unfold S.small16 at h16
  simp only [Bool.and_eq_true, Bool.not_eq_true'] at h16
  have hb := h16.1.1.1.2
  have hd := h16.1.2
  have hl2 := hl
  simp only [S.laid, Bool.and_eq_true, decide_eq_true_eq] at hl2
  obtain ⟨⟨hsc, h60⟩, hok⟩ := hl2
  have h6 : x.rs.length ≤ 6 := by
    unfold S.lensBad at hb
    rw [Bool.or_eq_false_iff, Bool.and_eq_false_iff] at hb
    obtain ⟨hb1, _⟩ := hb
    rcases hb1 with h | h
    · have := of_decide_eq_false h; omega
    · have := of_decide_eq_false h; omega
  have hcnt : ∀ r, r ∈ x.rs → r.count ≤ 16 := fun r hr => by
    have h1 : S.runBad r = false := by
      cases hc : S.runBad r
      · rfl
      · have : x.rs.any S.runBad = true := List.any_eq_true.2 ⟨r, hr, hc⟩
        rw [hd] at this
        cases this
    have h2 := right_count (runs_in hok hr)
    unfold S.runBad at h1
    rw [Bool.or_eq_false_iff, Bool.and_eq_false_iff] at h1
    obtain ⟨_, h3⟩ := h1
    rcases h3 with h | h
    · have := of_decide_eq_false h; omega
    · have := of_decide_eq_false h; omega
  have hsum : ∀ k, k ≤ x.rs.length → S.sumTo x.rs k ≤ 16 * (k : Int) := by
    intro k
    induction k with
    | zero => intro _; rw [sumTo_zero]; simp
    | succ k ih =>
      intro hk
      rw [sumTo_succ x.rs (by omega)]
      have h1 := ih (by omega)
      have h2 := hcnt _ (List.getElem_mem (show k < x.rs.length by omega))
      push_cast
      omega
  have hm := mains_sum hsc (fun r hr => runs_in hok hr) (Nat.le_refl x.rs.length)
  rw [List.take_length] at hm
  have := hsum x.rs.length (Nat.le_refl _)
  unfold S.nOf
  omega
theorem few_chains {x : Dt} {ds : List Dm} (hs : S.small25 x ds = true) (hl : S.laid (bars x.bs) x.rs = true) : (S.cOf x).length ≤ 100 := by
  have h1 := few_bars hs hl
  have h2 : (S.cOf x).length ≤ S.nOf x := chains_le x.js _ _
  omega
end Go.Proofs.YtffkmgjmlahfpaaGreat
set_option linter.unusedVariables false
set_option linter.unusedSimpArgs false
namespace Go.Proofs.YtffkmgjmlahfpaaGreat
open Go.RowKit
def S.legI (rs : List Rod) (i : Int) : Bx := match rs[i.toNat]? with | some r => S.legOf r | none => S.zbox
/-- Each element and the next one are linked. -/
def Linked (R : Int → Int → Prop) : List Int → Prop
  | [] => True
  | [_] => True
  | a :: b :: t => R a b ∧ Linked R (b :: t)
theorem cover_list {lo hi : Int → Int} {p : Int} : ∀ (l : List Int) (a : Int), Linked (fun a b => lo b ≤ hi a) (a :: l) → lo a ≤ p → p ≤ hi ((a :: l).getLastD 0) → ∃ i, i ∈ a :: l ∧ lo i ≤ p ∧ p ≤ hi i := by
  intro l
  induction l with
  | nil => intro a _ h1 h2; exact ⟨a, by simp, h1, h2⟩
  | cons b t ih =>
    intro a hl h1 h2
    by_cases hp : p ≤ hi a
    · exact ⟨a, by simp, h1, hp⟩
    · obtain ⟨i, hi', h3⟩ := ih b hl.2 (by have := hl.1; omega) (by simpa using h2)
      exact ⟨i, List.mem_cons_of_mem _ hi', h3⟩
theorem rest_linked (f : Int → Option Int) : ∀ (k : Nat) (a : Int) (o : Option Int), o = f a → Linked (fun a b => f a = some b) (a :: S.rest f k o) := by
  intro k
  induction k with
  | zero =>
    intro a o ho
    cases o with
    | none => trivial
    | some i => trivial
  | succ k ih =>
    intro a o ho
    cases o with
    | none => trivial
    | some i => exact ⟨ho.symm, ih i (f i) rfl⟩
theorem linked_imp {R R' : Int → Int → Prop} : ∀ (l : List Int), (∀ a b, R a b → R' a b) → Linked R l → Linked R' l := by
  intro l h
  induction l with
  | nil => intro _; trivial
  | cons a t ih =>
    cases t with
    | nil => intro _; trivial
    | cons b t => intro hl; exact ⟨h a b hl.1, ih hl.2⟩
/-- The main leg of laid bar i, as lap has it and as supply has it. -/
theorem mains_rod {x : Dt} {n : Nat} {rs : List Rod} (hla : S.laid (bars x.bs) x.rs = true) (hrs : RodsOf x n rs) (hn : n = S.nOf x) {i : Nat} {m : Mn} (hm : (S.mains (bars x.bs) x.rs)[i]? = some m) (hh : m.has = true) : ∃ r, rs[i]? = some r ∧ 0 ≤ r.main ∧ S.legOf r = m.leg := by
  have hi := (List.getElem?_eq_some_iff.1 hm).1
  have hix : i < rs.length := by rw [hrs.len, hn]; exact hi
  refine ⟨rs[i], List.getElem?_eq_getElem hix, ?_⟩
  have hR := hrs.ok i hix
  generalize rs[i] = r at *
  obtain ⟨k, j, k0, hL, he⟩ := hR.ex
  have hg := hL.st.get
  rw [hm] at hg
  injection hg with hg
  have hlen : 0 < (S.laidPath r.bar.b (x.rs[k]'hL.st.lt) j).length := by rw [laidPath_len]; omega
  cases hml : S.mainLeg (S.laidPath r.bar.b (x.rs[k]'hL.st.lt) j) with
  | none => rw [hml] at hg; subst hg; cases hh
  | some b =>
    rw [hml] at hg
    obtain ⟨jj, h1, h2, h3⟩ := main_some hlen hml
    have hmain : r.main = (jj : Int) := by rw [hR.main, he]; exact h1
    refine ⟨by omega, ?_⟩
    unfold S.legOf
    rw [hmain, he, Int.toNat_natCast, List.getD_eq_getElem?_getD, h2, hg]
    rfl
theorem no_two {x : Dt} {ds : List Dm} (g : LookOk x ds) : (S.cOf x).flatten.Nodup := by
  unfold S.cOf S.chains S.chainsTo
  unfold List.Nodup
  rw [List.pairwise_flatten]
  refine ⟨fun l hl => ?_, ?_⟩
  · obtain ⟨q, _, rfl⟩ := List.mem_map.1 hl
    exact chain_nodup g.good q
  · rw [List.pairwise_map]
    have hnd : ((List.range (S.nOf x)).filter (fun i => !S.secF x.js (i : Nat))).Nodup := (List.nodup_range).filter _
    refine List.Pairwise.imp_of_mem ?_ hnd
    intro a b ha hb hab i hi i' hj he
    subst he
    have h1 : S.secF x.js (a : Nat) = false := by simpa using (List.mem_filter.1 ha).2
    have h2 : S.secF x.js (b : Nat) = false := by simpa using (List.mem_filter.1 hb).2
    exact hab (by have := g.good.same h1 h2 _ i (Nat.le_refl _) hi hj; omega)
end Go.Proofs.YtffkmgjmlahfpaaGreat
