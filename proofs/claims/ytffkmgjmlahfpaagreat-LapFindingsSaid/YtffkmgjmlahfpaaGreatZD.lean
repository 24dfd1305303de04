/- The walk through the law LapFindings: valid details. The walk through the law LapFindings, of every detail. -/
import Derived.Test.YtffkmgjmlahfpaaGreatZC
import Derived.Test.YtffkmgjmlahfpaaGreatOver
import Derived.Test.YtffkmgjmlahfpaaGreatChL
set_option linter.unusedVariables false
set_option linter.unusedSimpArgs false
namespace Go.Proofs.YtffkmgjmlahfpaaGreat
open Go.RowKit
abbrev withRule (x : Dt) (r : Rule) : Dt := { x with rule := r }
theorem withRule_at {w : World} {B : Nat} {x : Dt} (h : DtAt w B x) (r : Rule) : DtAt w B (withRule x r) := ⟨h.sol, h.name, h.bars, h.runs, h.jlen, h.jmax, h.joints⟩
theorem withRule_look {x : Dt} {td : Bool} (h : S.look x td = true) {r : Rule} (hr : S.rule r = true) : S.look (withRule x r) td = true := by
  simp only [S.look, Bool.and_eq_true, decide_eq_true_eq] at h ⊢
  exact ⟨⟨⟨⟨h.1.1.1.1, h.1.1.1.2⟩, hr⟩, h.1.2⟩, h.2⟩
/-- A rule of our own laid into a detail's block. -/
theorem put_rule {W : World} {p : Nat} {T : TypeId} {c0 c1 c2 c3 c4 c5 c6 c7 c8 c9 d0 d1 d2 d3 d4 d5 d6 d7 d8 : Value} (h : Blk W p T #[c0, c1, c2, c3, c4, c5, c6, c7, c8, c9, d0, d1, d2, d3, d4, d5, d6, d7, d8]) (r0 r1 r2 r3 r4 r5 r6 r7 r8 : Value) :
    Blk (W.setCells p 10 [r0, r1, r2, r3, r4, r5, r6, r7, r8]) p T #[c0, c1, c2, c3, c4, c5, c6, c7, c8, c9, r0, r1, r2, r3, r4, r5, r6, r7, r8] := by
  have := ((((((((h.set 10 r0).set 11 r1).set 12 r2).set 13 r3).set 14 r4).set 15 r5).set 16 r6).set 17 r7).set 18 r8
  simp only [List.setIfInBounds_toArray, List.set_cons_zero, List.set_cons_succ] at this
  exact this
theorem Blk.thereAt {w : World} {g : Nat} {t : TypeId} {cs : Array Value} (h : Blk w g t cs) (o : Nat) {n : Nat} (hn : o + n ≤ cs.size) : w.there g o n := fun j hj => ⟨by rw [h.cell]; simp; omega, h.frozen _⟩
theorem flush_take {L : List Mn} {js : List Jn} {k : Nat} (hk : k < js.length) : (js.take (k + 1)).countP (S.flush L) = (js.take k).countP (S.flush L) + if S.flush L js[k] = true then 1 else 0 := by
  rw [List.take_succ_eq_append_getElem hk, List.countP_append]
  simp [List.countP_cons]
set_option maxRecDepth 20000 in
set_option maxHeartbeats 8000000 in
theorem finds_good (x : Dt) (n : Nat) (L : List Mn) (w : World) (hL2 : n ≤ 2000) (hjl : x.js.length = x.jn) (hj1000 : x.jn ≤ 1000)
    (hSM : ∀ W, Below w.heap.size w W → Calls Tryz.prog 13 #[dtV x] W fun e w' => e = .returned (.bool true) ∧ Below W.heap.size W w')
    (hLK : ∀ W, Below w.heap.size w W → Calls Tryz.prog 14 #[dtV x] W fun e w' => e = .returned (.bool true) ∧ Below W.heap.size W w')
    (hC : ∀ r, S.rule r = true → ∀ W, Below w.heap.size w W → Calls Tryz.prog 15 #[dtV (withRule x r)] W (GivesRow 42 2 (S.lapFinds x.m r L x.js).length ((S.lapFinds x.m r L x.js).flatMap fdC) 0 W))
    (hO : ∀ (k : Nat) (hk : k < x.js.length), ∃ i1 i2 a b, PairOk L x.js[k] i1 i2 a b ∧ ∀ W, Below w.heap.size w W → Calls Tryz.prog 17 #[dtV x, .int .i64 k] W fun e w' => e = .returned (.tuple #[.agg #[.int .i64 b.leg.lo.x, .int .i64 a.leg.hi.x], .int .i64 0]) ∧ Below W.heap.size W w')
    (hr : S.rule x.rule = true) (hP : PairsOk L x.js) :
    Calls Tryz.prog 3 #[dtV x] w fun e w' => e = .returned (.bool true) ∧ Below w.heap.size w w' := by
  have HA := Lib.hid (fun w => awake_any w)
  have HSM := Lib.hid hSM
  have HLK := Lib.hid hLK
  have HC := Lib.hid (show ∀ W, Below w.heap.size w W → Calls Tryz.prog 15 #[dtV x] W (GivesRow 42 2 (S.lapFinds x.m x.rule L x.js).length ((S.lapFinds x.m x.rule L x.js).flatMap fdC) 0 W) from hC x.rule hr)
  have HCE := Lib.hid (show ∀ W, Below w.heap.size w W → Calls Tryz.prog 15 #[.agg #[.string x.m.name, .slice x.mA x.mn x.mc, .slice x.hA x.hn x.hc, .int .i64 x.m.cover, .int .i64 x.m.aggr, .int .i64 x.m.poker, .slice x.bA x.bn x.bc, .slice x.rA x.rn x.rc, .slice x.jA x.jn x.jc, .slice x.dA x.dn x.dc, .int .i64 1, .int .i64 1000, .int .i64 1, .int .i64 1, .int .i64 1, .int .i64 1, .int .i64 1, .int .i64 1, .int .i64 0]] W (GivesRow 42 2 (S.lapFinds x.m S.easyR L x.js).length ((S.lapFinds x.m S.easyR L x.js).flatMap fdC) 0 W) from hC S.easyR easy_rule)
  have HCH := Lib.hid (show ∀ W, Below w.heap.size w W → Calls Tryz.prog 15 #[.agg #[.string x.m.name, .slice x.mA x.mn x.mc, .slice x.hA x.hn x.hc, .int .i64 x.m.cover, .int .i64 x.m.aggr, .int .i64 x.m.poker, .slice x.bA x.bn x.bc, .slice x.rA x.rn x.rc, .slice x.jA x.jn x.jc, .slice x.dA x.dn x.dc, .int .i64 1000, .int .i64 1, .int .i64 1000, .int .i64 1, .int .i64 1, .int .i64 1, .int .i64 1000, .int .i64 1, .int .i64 1000]] W (GivesRow 42 2 (S.lapFinds x.m S.hardR L x.js).length ((S.lapFinds x.m S.hardR L x.js).flatMap fdC) 0 W) from hC S.hardR hard_rule)
  have HO := Lib.hid hO
  have hlaw := finds_law x.m hr hP
  have hl1 := lapFinds_len x.m x.rule L x.js
  have hl2 := lapFinds_len x.m S.easyR L x.js
  have hl3 := lapFinds_len x.m S.hardR L x.js
  clear hSM hLK hC hO hP hr
  unfold dtV at HSM HLK HC
  unfold dtV
  have e2 : IntKind.i64.wrap (2 * (x.jn : Int)) = 2 * (x.jn : Int) := IntWalk.i64_in _ (by omega)
  have f2 : ¬ (2 * (x.jn : Int) < ((S.lapFinds x.m x.rule L x.js).length : Int)) := by omega
  generalize S.lapFinds x.m x.rule L x.js = F at *
  generalize S.lapFinds x.m S.easyR L x.js = FE at *
  generalize S.lapFinds x.m S.hardR L x.js = FH at *
  go_enter Tryz.func3, Tryz.ntmps3
  have hDB := Blk.new w 34 #[.string x.m.name, .slice x.mA x.mn x.mc, .slice x.hA x.hn x.hc, .int .i64 x.m.cover, .int .i64 x.m.aggr, .int .i64 x.m.poker, .slice x.bA x.bn x.bc, .slice x.rA x.rn x.rc, .slice x.jA x.jn x.jc, .slice x.dA x.dn x.dc, .int .i64 x.rule.num, .int .i64 x.rule.den, .int .i64 x.rule.pnum, .int .i64 x.rule.pden, .int .i64 x.rule.bnum, .int .i64 x.rule.bden, .int .i64 x.rule.lnum, .int .i64 x.rule.lden, .int .i64 x.rule.least]
  have hW1 : Below w.heap.size w (w.alloc (.cells #[.string x.m.name, .slice x.mA x.mn x.mc, .slice x.hA x.hn x.hc, .int .i64 x.m.cover, .int .i64 x.m.aggr, .int .i64 x.m.poker, .slice x.bA x.bn x.bc, .slice x.rA x.rn x.rc, .slice x.jA x.jn x.jc, .slice x.dA x.dn x.dc, .int .i64 x.rule.num, .int .i64 x.rule.den, .int .i64 x.rule.pnum, .int .i64 x.rule.pden, .int .i64 x.rule.bnum, .int .i64 x.rule.bden, .int .i64 x.rule.lnum, .int .i64 x.rule.lden, .int .i64 x.rule.least] 34)) := ba_alloc (Below.refl _ _) _
  go_upto_region 1 with fail
  generalize (w.alloc (.cells #[.string x.m.name, .slice x.mA x.mn x.mc, .slice x.hA x.hn x.hc, .int .i64 x.m.cover, .int .i64 x.m.aggr, .int .i64 x.m.poker, .slice x.bA x.bn x.bc, .slice x.rA x.rn x.rc, .slice x.jA x.jn x.jc, .slice x.dA x.dn x.dc, .int .i64 x.rule.num, .int .i64 x.rule.den, .int .i64 x.rule.pnum, .int .i64 x.rule.pden, .int .i64 x.rule.bnum, .int .i64 x.rule.bden, .int .i64 x.rule.lnum, .int .i64 x.rule.lden, .int .i64 x.rule.least] 34)) = W1 at *
  have hDl := hDB.lt
  have HDB := Lib.hid hDB
  have HSM1 := Lib.hid (fun (W : World) (hw : Below W1.heap.size W1 W) => HSM.out W (ba_via hw hW1))
  have HLK1 := Lib.hid (fun (W : World) (hw : Below W1.heap.size W1 W) => HLK.out W (ba_via hw hW1))
  have HC1 := Lib.hid (fun (W : World) (hw : Below W1.heap.size W1 W) => HC.out W (ba_via hw hW1))
  have d8 := hDB.cell 8
  simp only [List.getElem?_toArray, List.getElem?_cons_zero, List.getElem?_cons_succ] at d8
  clear hDB
  go_upto_region 9 with (first
    | (go_at_call 12; (with_reducible refine (HA.out _).mono ?_); rintro e wa ⟨rfl, hbwa⟩; obtain ⟨hcwa, hfwa⟩ := bcell hbwa; have hka : w.heap.size < wa.heap.size := lt_via hbwa hDl)
    | (refine wpList_load_mid rfl 34 (.tmp 1) rfl _ _ rfl _ _ (HDB.out.via (by repeat (with_reducible first | exact Below.refl _ _ | assumption | refine ba_alloc ?_ _ | refine ba_drew ?_ | refine ba_drewN ?_ _ | refine ba_via (by assumption) ?_ | (refine ba_set ?_ ?_ _; rotate_left; (first | omega | (simp; omega) | simp))))).range Tryz.underlying34 rfl (by kernel_rfl) ?_)
    | (refine wpList_load_gdF (by rfl) 34 (.tmp 1) rfl _ _ rfl _ _ (HDB.out.via (by repeat (with_reducible first | exact Below.refl _ _ | assumption | refine ba_alloc ?_ _ | refine ba_drew ?_ | refine ba_drewN ?_ _ | refine ba_via (by assumption) ?_ | (refine ba_set ?_ ?_ _; rotate_left; (first | omega | (simp; omega) | simp))))).range Tryz.underlying34 rfl (by kernel_rfl) ?_)
    | (refine wp_load_mid 34 (.tmp 1) rfl _ _ rfl _ _ (HDB.out.via (by repeat (with_reducible first | exact Below.refl _ _ | assumption | refine ba_alloc ?_ _ | refine ba_drew ?_ | refine ba_drewN ?_ _ | refine ba_via (by assumption) ?_ | (refine ba_set ?_ ?_ _; rotate_left; (first | omega | (simp; omega) | simp))))).range Tryz.underlying34 rfl (by kernel_rfl) ?_)
    | (go_at_call 13; (with_reducible refine (HSM1.out _ (by repeat (with_reducible first | exact Below.refl _ _ | assumption | refine ba_alloc ?_ _ | refine ba_drew ?_ | refine ba_drewN ?_ _ | refine ba_via (by assumption) ?_ | (refine ba_set ?_ ?_ _; rotate_left; (first | omega | (simp; omega) | simp))))).mono ?_); rintro e wb ⟨rfl, hbwb⟩; obtain ⟨hcwb, hfwb⟩ := bcell hbwb; have hkb : w.heap.size < wb.heap.size := lt_via hbwb hka)
    | (go_at_call 14; (with_reducible refine (HLK1.out _ (by repeat (with_reducible first | exact Below.refl _ _ | assumption | refine ba_alloc ?_ _ | refine ba_drew ?_ | refine ba_drewN ?_ _ | refine ba_via (by assumption) ?_ | (refine ba_set ?_ ?_ _; rotate_left; (first | omega | (simp; omega) | simp))))).mono ?_); rintro e wc ⟨rfl, hbwc⟩; obtain ⟨hcwc, hfwc⟩ := bcell hbwc; have hkc : w.heap.size < wc.heap.size := lt_via hbwc hkb)
    | (go_at_call 15; (with_reducible refine (HC1.out _ (by repeat (with_reducible first | exact Below.refl _ _ | assumption | refine ba_alloc ?_ _ | refine ba_drew ?_ | refine ba_drewN ?_ _ | refine ba_via (by assumption) ?_ | (refine ba_set ?_ ?_ _; rotate_left; (first | omega | (simp; omega) | simp))))).mono ?_); rintro e wd ⟨AF, cF, rfl, hoF, hbwd⟩; obtain ⟨hcwd, hfwd⟩ := bcell hbwd; have hkd : w.heap.size < wd.heap.size := lt_via hbwd hkc))
  have hb9 : Below W1.heap.size W1 wd := (by repeat (with_reducible first | exact Below.refl _ _ | assumption | refine ba_alloc ?_ _ | refine ba_drew ?_ | refine ba_drewN ?_ _ | refine ba_via (by assumption) ?_ | (refine ba_set ?_ ?_ _; rotate_left; (first | omega | (simp; omega) | simp))))
  refine wp_copy_two (by kernel_rfl) (by kernel_rfl) rfl rfl rfl rfl rfl rfl 34 (.tmp 1) (.tmp 6) (.tmp 42) (.tmp 7) (.tmp 43) w.heap.size [.string x.m.name, .slice x.mA x.mn x.mc, .slice x.hA x.hn x.hc, .int .i64 x.m.cover, .int .i64 x.m.aggr, .int .i64 x.m.poker, .slice x.bA x.bn x.bc, .slice x.rA x.rn x.rc, .slice x.jA x.jn x.jc, .slice x.dA x.dn x.dc, .int .i64 x.rule.num, .int .i64 x.rule.den, .int .i64 x.rule.pnum, .int .i64 x.rule.pden, .int .i64 x.rule.bnum, .int .i64 x.rule.bden, .int .i64 x.rule.lnum, .int .i64 x.rule.lden, .int .i64 x.rule.least] [.string ⟨#[]⟩, .slice none 0 0, .slice none 0 0, .int .i64 0, .int .i64 0, .int .i64 0, .slice none 0 0, .slice none 0 0, .slice none 0 0, .slice none 0 0, .int .i64 0, .int .i64 0, .int .i64 0, .int .i64 0, .int .i64 0, .int .i64 0, .int .i64 0, .int .i64 0, .int .i64 0] _ rfl rfl rfl rfl (HDB.out.via hb9) Tryz.underlying34 rfl (by kernel_rfl) (fun _ _ => by kernel_rfl) (fun _ _ => by kernel_rfl) rfl rfl rfl (fun _ _ => rfl) (fun _ _ => rfl) (fun _ _ => rfl) (fun _ _ => rfl) rfl rfl (by intro d h; injection h with h; subst h; simp) (by intro c a d v w h; cases d <;> exact h) (by simp [Value.oneCell']) ?_
  intro p q W2 hne hp hq hBP hBQ hb2
  have hW2 : Below W1.heap.size W1 W2 := ba_via hb2 hb9
  have hoF2 := own_cells hoF (by unfold maxLen; omega)
  have hTP := hBP.thereAt 10 (n := 9) (by simp)
  have hP1 := put_rule hBP (.int .i64 1) (.int .i64 1000) (.int .i64 1) (.int .i64 1) (.int .i64 1) (.int .i64 1) (.int .i64 1) (.int .i64 1) (.int .i64 0)
  have hx1 := exc_setCells p [.int .i64 1, .int .i64 1000, .int .i64 1, .int .i64 1, .int .i64 1, .int .i64 1, .int .i64 1, .int .i64 1, .int .i64 0] 10 W2
  have hQ1 := hBQ.exc hx1 (by simp; omega)
  have hs9 := hb9.size
  have hX1 : Below W1.heap.size W1 (W2.setCells p 10 [.int .i64 1, .int .i64 1000, .int .i64 1, .int .i64 1, .int .i64 1, .int .i64 1, .int .i64 1, .int .i64 1, .int .i64 0]) := hW2.trans (hx1.below hW2.size (by intro g hg; simp at hg; omega))
  go_upto_region 11 with (refine wpList_store_mid rfl 32 (.tmp 45) (.tmp 44) rfl p 10 #[.int .i64 1, .int .i64 1000, .int .i64 1, .int .i64 1, .int .i64 1, .int .i64 1, .int .i64 1, .int .i64 1, .int .i64 0] rfl rfl hTP (by kernel_rfl) (by simp [Value.oneCell']) ?_)
  have hF1 : Below wd.heap.size wd (W2.setCells p 10 [.int .i64 1, .int .i64 1000, .int .i64 1, .int .i64 1, .int .i64 1, .int .i64 1, .int .i64 1, .int .i64 1, .int .i64 0]) := hb2.trans (hx1.below hb2.size (by intro g hg; simp at hg; omega))
  clear hx1 hTP hBP hBQ hW2 hb2
  generalize W2.setCells p 10 [.int .i64 1, .int .i64 1000, .int .i64 1, .int .i64 1, .int .i64 1, .int .i64 1, .int .i64 1, .int .i64 1, .int .i64 0] = X1 at *
  simp only [go_sem, List.setIfInBounds_toArray, List.set_cons_succ, List.set_cons_zero]
  have hTQ := hQ1.thereAt 10 (n := 9) (by simp)
  have hQ3 := put_rule hQ1 (.int .i64 1000) (.int .i64 1) (.int .i64 1000) (.int .i64 1) (.int .i64 1) (.int .i64 1) (.int .i64 1000) (.int .i64 1) (.int .i64 1000)
  have hx3 := exc_setCells q [.int .i64 1000, .int .i64 1, .int .i64 1000, .int .i64 1, .int .i64 1, .int .i64 1, .int .i64 1000, .int .i64 1, .int .i64 1000] 10 X1
  have hP3 := hP1.exc hx3 (by simp; omega)
  have hX3 : Below W1.heap.size W1 (X1.setCells q 10 [.int .i64 1000, .int .i64 1, .int .i64 1000, .int .i64 1, .int .i64 1, .int .i64 1, .int .i64 1000, .int .i64 1, .int .i64 1000]) := hX1.trans (hx3.below hX1.size (by intro g hg; simp at hg; omega))
  have hF3 : Below wd.heap.size wd (X1.setCells q 10 [.int .i64 1000, .int .i64 1, .int .i64 1000, .int .i64 1, .int .i64 1, .int .i64 1, .int .i64 1000, .int .i64 1, .int .i64 1000]) := hF1.trans (hx3.below hF1.size (by intro g hg; simp at hg; omega))
  clear hP1 hx3 hX1 hF1
  go_upto_region 12 with (refine wpList_store_mid rfl 32 (.tmp 47) (.tmp 46) rfl q 10 #[.int .i64 1000, .int .i64 1, .int .i64 1000, .int .i64 1, .int .i64 1, .int .i64 1, .int .i64 1000, .int .i64 1, .int .i64 1000] rfl rfl hTQ (by kernel_rfl) (by simp [Value.oneCell']) ?_)
  clear hTQ hQ1
  generalize X1.setCells q 10 [.int .i64 1000, .int .i64 1, .int .i64 1000, .int .i64 1, .int .i64 1, .int .i64 1, .int .i64 1000, .int .i64 1, .int .i64 1000] = X3 at *
  simp only [go_sem, List.setIfInBounds_toArray, List.set_cons_succ, List.set_cons_zero]
  have HCE3 := Lib.hid (fun (W : World) (hw : Below X3.heap.size X3 W) => HCE.out W (ba_via (ba_via hw hX3) hW1))
  have HCH3 := Lib.hid (fun (W : World) (hw : Below X3.heap.size X3 W) => HCH.out W (ba_via (ba_via hw hX3) hW1))
  have HP3 := Lib.hid hP3
  have HQ3 := Lib.hid hQ3
  clear hP3 hQ3 hcwa hcwb hcwc hcwd hfwa hfwb hfwc hfwd
  go_upto_region 14 with (first
    | (refine wpList_load_mid rfl 34 (.tmp 6) rfl _ _ rfl _ _ (HP3.out.via (by repeat (with_reducible first | exact Below.refl _ _ | assumption | refine ba_alloc ?_ _ | refine ba_drew ?_ | refine ba_drewN ?_ _ | refine ba_via (by assumption) ?_ | (refine ba_set ?_ ?_ _; rotate_left; (first | omega | (simp; omega) | simp))))).range Tryz.underlying34 rfl (by kernel_rfl) ?_)
    | (refine wpList_load_mid rfl 34 (.tmp 7) rfl _ _ rfl _ _ (HQ3.out.via (by repeat (with_reducible first | exact Below.refl _ _ | assumption | refine ba_alloc ?_ _ | refine ba_drew ?_ | refine ba_drewN ?_ _ | refine ba_via (by assumption) ?_ | (refine ba_set ?_ ?_ _; rotate_left; (first | omega | (simp; omega) | simp))))).range Tryz.underlying34 rfl (by kernel_rfl) ?_)
    | (go_at_call 15; (with_reducible refine (HCE3.out _ (by repeat (with_reducible first | exact Below.refl _ _ | assumption | refine ba_alloc ?_ _ | refine ba_drew ?_ | refine ba_drewN ?_ _ | refine ba_via (by assumption) ?_ | (refine ba_set ?_ ?_ _; rotate_left; (first | omega | (simp; omega) | simp))))).mono ?_); rintro e we ⟨AE, cE, rfl, hoE, hbwe⟩)
    | (go_at_call 15; (with_reducible refine (HCH3.out _ (by repeat (with_reducible first | exact Below.refl _ _ | assumption | refine ba_alloc ?_ _ | refine ba_drew ?_ | refine ba_drewN ?_ _ | refine ba_via (by assumption) ?_ | (refine ba_set ?_ ?_ _; rotate_left; (first | omega | (simp; omega) | simp))))).mono ?_); rintro e wf ⟨AH, cH, rfl, hoH, hbwf⟩))
  have hFc := (own_cells hoF (by unfold maxLen; omega)).1
  have hEc := (own_cells hoE (by unfold maxLen; omega)).1
  have hHc := (own_cells hoH (by unfold maxLen; omega)).1
  have hFE : Below wd.heap.size wd we := ba_via hbwe hF3
  have hFH : Below wd.heap.size wd wf := ba_via hbwf hFE
  obtain ⟨q1, q2, q3, q4, q5, q6⟩ := hlaw
  have KF := fun (k : Int) (W : World) (hw : Below wf.heap.size wf W) => kindc_any F k AF F.length cF wd.heap.size W rfl (by omega) (ba_via hw hFH).size (hFc.below (ba_via hw hFH))
  have KE := fun (k : Int) (W : World) (hw : Below wf.heap.size wf W) => kindc_any FE k AE FE.length cE we.heap.size W rfl (by omega) (ba_via hw hbwf).size (hEc.below (ba_via hw hbwf))
  have KH := fun (k : Int) (W : World) (hw : Below wf.heap.size wf W) => kindc_any FH k AH FH.length cH wf.heap.size W rfl (by omega) hw.size (hHc.below hw)
  have KF1 := Lib.hid (KF 1)
  have KF2 := Lib.hid (KF 2)
  have KE1 := Lib.hid (KE 1)
  have KE2 := KE 2
  rw [q1] at KE2
  have KE2 := Lib.hid KE2
  have KH1 := Lib.hid (KH 1)
  have KH2 := KH 2
  rw [q2] at KH2
  have KH2 := Lib.hid KH2
  clear KF KE KH q1 q2 hFc hEc hHc hoF hoE hoH hoF2
  generalize S.cnt 2 F = c2 at *
  generalize S.cnt 1 F = c1 at *
  generalize S.cnt 1 FE = ce at *
  generalize S.cnt 1 FH = ch at *
  have t1 : decide ((c1 : Int) < (ce : Int)) = false := by rw [decide_eq_false_iff_not]; omega
  have t2 : decide ((ch : Int) < (c1 : Int)) = false := by rw [decide_eq_false_iff_not]; omega
  have t1n : decide (c1 < ce) = false := by rw [decide_eq_false_iff_not]; omega
  have t2n : decide (ch < c1) = false := by rw [decide_eq_false_iff_not]; omega
  have HQ5 := Lib.hid q5
  have HQ6 := Lib.hid (show (ch : Int) = x.jn by omega)
  clear q3 q4 q5 q6
  go_upto_region 16 with (first
    | (go_at_call 16; (with_reducible refine (KE2.out _ (by repeat (with_reducible first | exact Below.refl _ _ | assumption | refine ba_alloc ?_ _ | refine ba_drew ?_ | refine ba_drewN ?_ _ | refine ba_via (by assumption) ?_ | (refine ba_set ?_ ?_ _; rotate_left; (first | omega | (simp; omega) | simp))))).mono ?_); rintro e v1 ⟨rfl, hbv1⟩)
    | (go_at_call 16; (with_reducible refine (KF2.out _ (by repeat (with_reducible first | exact Below.refl _ _ | assumption | refine ba_alloc ?_ _ | refine ba_drew ?_ | refine ba_drewN ?_ _ | refine ba_via (by assumption) ?_ | (refine ba_set ?_ ?_ _; rotate_left; (first | omega | (simp; omega) | simp))))).mono ?_); rintro e v2 ⟨rfl, hbv2⟩)
    | (go_at_call 16; (with_reducible refine (KH2.out _ (by repeat (with_reducible first | exact Below.refl _ _ | assumption | refine ba_alloc ?_ _ | refine ba_drew ?_ | refine ba_drewN ?_ _ | refine ba_via (by assumption) ?_ | (refine ba_set ?_ ?_ _; rotate_left; (first | omega | (simp; omega) | simp))))).mono ?_); rintro e v3 ⟨rfl, hbv3⟩)
    | (go_at_call 16; (with_reducible refine (KE1.out _ (by repeat (with_reducible first | exact Below.refl _ _ | assumption | refine ba_alloc ?_ _ | refine ba_drew ?_ | refine ba_drewN ?_ _ | refine ba_via (by assumption) ?_ | (refine ba_set ?_ ?_ _; rotate_left; (first | omega | (simp; omega) | simp))))).mono ?_); rintro e v5 ⟨rfl, hbv5⟩)
    | (go_at_call 16; (with_reducible refine (KF1.out _ (by repeat (with_reducible first | exact Below.refl _ _ | assumption | refine ba_alloc ?_ _ | refine ba_drew ?_ | refine ba_drewN ?_ _ | refine ba_via (by assumption) ?_ | (refine ba_set ?_ ?_ _; rotate_left; (first | omega | (simp; omega) | simp))))).mono ?_); rintro e v6 ⟨rfl, hbv6⟩)
    | (go_at_call 16; (with_reducible refine (KH1.out _ (by repeat (with_reducible first | exact Below.refl _ _ | assumption | refine ba_alloc ?_ _ | refine ba_drew ?_ | refine ba_drewN ?_ _ | refine ba_via (by assumption) ?_ | (refine ba_set ?_ ?_ _; rotate_left; (first | omega | (simp; omega) | simp))))).mono ?_); rintro e v7 ⟨rfl, hbv7⟩))
  have hbv : Below wf.heap.size wf v6 := (by repeat (with_reducible first | exact Below.refl _ _ | assumption | refine ba_alloc ?_ _ | refine ba_drew ?_ | refine ba_drewN ?_ _ | refine ba_via (by assumption) ?_ | (refine ba_set ?_ ?_ _; rotate_left; (first | omega | (simp; omega) | simp))))
  have hb1v : Below W1.heap.size W1 v6 := ba_via (ba_via hbv hFH) hb9
  have hD6 := HDB.out.via hb1v
  have d86 := hD6.cell 8
  have hDl6 := hD6.lt
  simp only [List.getElem?_toArray, List.getElem?_cons_zero, List.getElem?_cons_succ] at d86
  have HD6 := Lib.hid hD6
  have KE1' := Lib.hid (fun (W : World) (hw : Below v6.heap.size v6 W) => KE1.out W (ba_via hw hbv))
  have KH1' := Lib.hid (fun (W : World) (hw : Below v6.heap.size v6 W) => KH1.out W (ba_via hw hbv))
  have HOV := Lib.hid (fun (k : Nat) (hk : k < x.js.length) => HO.out k hk)
  have hb0v : Below w.heap.size w v6 := ba_via hb1v hW1
  have HTK := Lib.hid (show x.js.take x.jn = x.js from List.take_of_length_le (by omega))
  have HCT := Lib.hid (fun (k : Nat) => show (x.js.take k).countP (S.flush L) ≤ 1000 from by
    have h1 : (x.js.take k).countP (S.flush L) ≤ (x.js.take k).length := List.countP_le_length
    have h2 := List.length_take_le' k x.js
    omega)
  clear hD6 KE1 KE2 KF1 KF2 KH1 KH2 HO HC HC1 HCE HCE3 HCH HCH3 HSM HSM1 HLK HLK1 HA HP3 HQ3 d8
  clear hbv
  go_wp2
  go_loopw [12, 103] (fun v i wr => ∃ k : Nat, k ≤ x.jn ∧ i = .int .i64 k ∧ v = .int .i64 ((((x.js.take k).countP (S.flush L)) : Nat) : Int) ∧ Below v6.heap.size v6 wr) (fun _ i _ => x.jn - (intOf i).toNat)
  case atStart => exact ⟨0, Nat.zero_le _, rfl, rfl, Below.refl _ _⟩
  case round =>
    obtain ⟨k, hk, rfl, rfl, hbr⟩ := hrel
    by_cases hlt : k < x.jn
    · have hkx : k < x.js.length := by omega
      have hki : (k : Int) < x.jn := by omega
      obtain ⟨i1, i2, a, b, hp, hov⟩ := HOV.out k hkx
      unfold dtV at hov
      have HOW := Lib.hid (fun (W : World) (hw : Below wr.heap.size wr W) => hov W (ba_via (ba_via hw hbr) hb0v))
      have hfl := flush_pair hp
      have HT := Lib.hid (flush_take (L := L) hkx)
      have hcl := HCT.out k
      have hle := hp.over
      have hle2 : ¬ (a.leg.hi.x < b.leg.lo.x) := by omega
      generalize (x.js.take k).countP (S.flush L) = m at *
      have e1 : IntKind.i64.wrap ((m : Int) + 1) = (m : Int) + 1 := IntWalk.i64_in _ (by omega)
      have HDr := Lib.hid (HD6.out.via hbr)
      rw [hfl] at HT
      clear hov hp hfl
      generalize a.leg.hi.x = p1 at *
      generalize b.leg.lo.x = p0 at *
      go_upto_region 21 with (first
        | (refine wpList_load_mid rfl 34 (.tmp 1) rfl _ _ rfl _ _ (HDr.out.via (by repeat (with_reducible first | exact Below.refl _ _ | assumption | refine ba_alloc ?_ _ | refine ba_drew ?_ | refine ba_drewN ?_ _ | refine ba_via (by assumption) ?_ | (refine ba_set ?_ ?_ _; rotate_left; (first | omega | (simp; omega) | simp))))).range Tryz.underlying34 rfl (by kernel_rfl) ?_)
        | (go_at_call 17; (with_reducible refine (HOW.out _ (by repeat (with_reducible first | exact Below.refl _ _ | assumption | refine ba_alloc ?_ _ | refine ba_drew ?_ | refine ba_drewN ?_ _ | refine ba_via (by assumption) ?_ | (refine ba_set ?_ ?_ _; rotate_left; (first | omega | (simp; omega) | simp))))).mono ?_); rintro e wo ⟨rfl, hbwo⟩))
      have hbo : Below v6.heap.size v6 wo := ba_via hbwo hbr
      cases hf : (p1 == p0)
      · have HT2 := Lib.hid (show (x.js.take (k + 1)).countP (S.flush L) = m by rw [HT.out, hf]; rfl)
        go_wp2
        go_roundw
        case rel => exact ⟨k + 1, by omega, by go_num, by rw [HT2.out], (by repeat (first | exact Below.refl _ _ | assumption | refine ba_alloc ?_ _ | refine ba_drew ?_ | refine ba_drewN ?_ _ | refine ba_via (by assumption) ?_ | (refine ba_set ?_ ?_ _; rotate_left; (first | omega | (simp; omega) | simp))))⟩
        case measure => simp [intOf]; omega
      · have HT2 := Lib.hid (show (x.js.take (k + 1)).countP (S.flush L) = m + 1 by rw [HT.out, hf]; rfl)
        go_wp2
        go_roundw
        case rel => exact ⟨k + 1, by omega, by go_num, by rw [HT2.out]; simp, (by repeat (first | exact Below.refl _ _ | assumption | refine ba_alloc ?_ _ | refine ba_drew ?_ | refine ba_drewN ?_ _ | refine ba_via (by assumption) ?_ | (refine ba_set ?_ ?_ _; rotate_left; (first | omega | (simp; omega) | simp))))⟩
        case measure => simp [intOf]; omega
    · obtain rfl : k = x.jn := by omega
      rw [HTK.out, ← HQ5.out]
      have HDr := Lib.hid (HD6.out.via hbr)
      have d8r := HDr.out.cell 8
      have hlr := HDr.out.lt
      simp only [List.getElem?_toArray, List.getElem?_cons_zero, List.getElem?_cons_succ] at d8r
      go_upto_region 26 with fail
      refine wp_region_mix 5 [2, 5] (by kernel_rfl) (by kernel_rfl) (of_decide_eq_true (by kernel_rfl)) ?_
      try simp only [wpSegs, List.take_succ_cons, List.take_zero, List.drop_succ_cons, List.drop_zero, List.take_nil, List.drop_nil]
      repeat (go_big_quiet_step (fail))
      refine wpQuiet_nil ?_
      show wpList _ _ _ _ _ _
      go_wp2_with ((go_at_call 16; (with_reducible refine (KE1'.out _ (by repeat (with_reducible first | exact Below.refl _ _ | assumption | refine ba_alloc ?_ _ | refine ba_drew ?_ | refine ba_drewN ?_ _ | refine ba_via (by assumption) ?_ | (refine ba_set ?_ ?_ _; rotate_left; (first | omega | (simp; omega) | simp))))).mono ?_); rintro e x1 ⟨rfl, hbx1⟩))
      refine seg_next (grow_to (by repeat (with_reducible first | exact Below.refl _ _ | assumption | refine ba_alloc ?_ _ | refine ba_drew ?_ | refine ba_drewN ?_ _ | refine ba_via (by assumption) ?_ | (refine ba_set ?_ ?_ _; rotate_left; (first | omega | (simp; omega) | simp))))) ?_
      try simp only [wpSegs, List.take_succ_cons, List.take_zero, List.drop_succ_cons, List.drop_zero, List.take_nil, List.drop_nil]
      repeat (go_big_quiet_step (fail))
      refine wpQuiet_nil ?_
      show wpList _ _ _ _ _ _
      go_wp2_with ((go_at_call 16; (with_reducible refine (KH1'.out _ (by repeat (with_reducible first | exact Below.refl _ _ | assumption | refine ba_alloc ?_ _ | refine ba_drew ?_ | refine ba_drewN ?_ _ | refine ba_via (by assumption) ?_ | (refine ba_set ?_ ?_ _; rotate_left; (first | omega | (simp; omega) | simp))))).mono ?_); rintro e x2 ⟨rfl, hbx2⟩; have d82 := (HDr.out.via (show Below wr.heap.size wr x2 from (by repeat (with_reducible first | exact Below.refl _ _ | assumption | refine ba_alloc ?_ _ | refine ba_drew ?_ | refine ba_drewN ?_ _ | refine ba_via (by assumption) ?_ | (refine ba_set ?_ ?_ _; rotate_left; (first | omega | (simp; omega) | simp)))))).cell 8; simp only [List.getElem?_toArray, List.getElem?_cons_zero, List.getElem?_cons_succ] at d82; have hl2 := (HDr.out.via (show Below wr.heap.size wr x2 from (by repeat (with_reducible first | exact Below.refl _ _ | assumption | refine ba_alloc ?_ _ | refine ba_drew ?_ | refine ba_drewN ?_ _ | refine ba_via (by assumption) ?_ | (refine ba_set ?_ ?_ _; rotate_left; (first | omega | (simp; omega) | simp)))))).lt))
      refine seg_next (grow_to (by repeat (with_reducible first | exact Below.refl _ _ | assumption | refine ba_alloc ?_ _ | refine ba_drew ?_ | refine ba_drewN ?_ _ | refine ba_via (by assumption) ?_ | (refine ba_set ?_ ?_ _; rotate_left; (first | omega | (simp; omega) | simp))))) ?_
      try simp only [wpSegs, List.take_succ_cons, List.take_zero, List.drop_succ_cons, List.drop_zero, List.take_nil, List.drop_nil]
      repeat (go_big_quiet_step (fail))
      refine wpQuiet_nil ?_
      show wpList _ _ _ _ _ _
      go_wp2
      go_ret
      have hEq : ((ch : Int) == (x.jn : Int)) = true := by rw [HQ6.out]; exact beq_self_eq_true _
      exact ⟨ret_b (by simp [hEq]), ba_via (by repeat (with_reducible first | exact Below.refl _ _ | assumption | refine ba_alloc ?_ _ | refine ba_drew ?_ | refine ba_drewN ?_ _ | refine ba_via (by assumption) ?_ | (refine ba_set ?_ ?_ _; rotate_left; (first | omega | (simp; omega) | simp)))) hb0v⟩
end Go.Proofs.YtffkmgjmlahfpaaGreat
set_option linter.unusedVariables false
set_option linter.unusedSimpArgs false
namespace Go.Proofs.YtffkmgjmlahfpaaGreat
open Go.RowKit
set_option maxRecDepth 20000 in
set_option maxHeartbeats 8000000 in
theorem finds_big (x : Dt) (w : World)
    (hSM : ∀ W, Below w.heap.size w W → Calls Tryz.prog 13 #[dtV x] W fun e w' => e = .returned (.bool false) ∧ Below W.heap.size W w') :
    Calls Tryz.prog 3 #[dtV x] w fun e w' => e = .returned (.bool true) ∧ Below w.heap.size w w' := by
  have HA := Lib.hid (fun w => awake_any w)
  have HSM := Lib.hid hSM
  clear hSM
  unfold dtV at HSM
  unfold dtV
  have hDB := Blk.new w 34 #[.string x.m.name, .slice x.mA x.mn x.mc, .slice x.hA x.hn x.hc, .int .i64 x.m.cover, .int .i64 x.m.aggr, .int .i64 x.m.poker, .slice x.bA x.bn x.bc, .slice x.rA x.rn x.rc, .slice x.jA x.jn x.jc, .slice x.dA x.dn x.dc, .int .i64 x.rule.num, .int .i64 x.rule.den, .int .i64 x.rule.pnum, .int .i64 x.rule.pden, .int .i64 x.rule.bnum, .int .i64 x.rule.bden, .int .i64 x.rule.lnum, .int .i64 x.rule.lden, .int .i64 x.rule.least]
  have hW1 : Below w.heap.size w (w.alloc (.cells #[.string x.m.name, .slice x.mA x.mn x.mc, .slice x.hA x.hn x.hc, .int .i64 x.m.cover, .int .i64 x.m.aggr, .int .i64 x.m.poker, .slice x.bA x.bn x.bc, .slice x.rA x.rn x.rc, .slice x.jA x.jn x.jc, .slice x.dA x.dn x.dc, .int .i64 x.rule.num, .int .i64 x.rule.den, .int .i64 x.rule.pnum, .int .i64 x.rule.pden, .int .i64 x.rule.bnum, .int .i64 x.rule.bden, .int .i64 x.rule.lnum, .int .i64 x.rule.lden, .int .i64 x.rule.least] 34)) := ba_alloc (Below.refl _ _) _
  go_enter Tryz.func3, Tryz.ntmps3
  go_upto_region 1 with fail
  generalize (w.alloc (.cells #[.string x.m.name, .slice x.mA x.mn x.mc, .slice x.hA x.hn x.hc, .int .i64 x.m.cover, .int .i64 x.m.aggr, .int .i64 x.m.poker, .slice x.bA x.bn x.bc, .slice x.rA x.rn x.rc, .slice x.jA x.jn x.jc, .slice x.dA x.dn x.dc, .int .i64 x.rule.num, .int .i64 x.rule.den, .int .i64 x.rule.pnum, .int .i64 x.rule.pden, .int .i64 x.rule.bnum, .int .i64 x.rule.bden, .int .i64 x.rule.lnum, .int .i64 x.rule.lden, .int .i64 x.rule.least] 34)) = W1 at *
  have HDB := Lib.hid hDB
  have HSM1 := Lib.hid (fun (W : World) (hw : Below W1.heap.size W1 W) => HSM.out W (ba_via hw hW1))
  clear hDB HSM
  go_wp2_with (first
    | (go_at_call 12; (with_reducible refine (HA.out _).mono ?_); rintro e wa ⟨rfl, hbwa⟩)
    | (refine wpList_load_mid rfl 34 (.tmp 1) rfl _ _ rfl _ _ (HDB.out.via (by repeat (with_reducible first | exact Below.refl _ _ | assumption | refine ba_alloc ?_ _ | refine ba_drew ?_ | refine ba_drewN ?_ _ | refine ba_via (by assumption) ?_ | (refine ba_set ?_ ?_ _; rotate_left; (first | omega | (simp; omega) | simp))))).range Tryz.underlying34 rfl (by kernel_rfl) ?_)
    | (go_at_call 13; (with_reducible refine (HSM1.out _ (by repeat (with_reducible first | exact Below.refl _ _ | assumption | refine ba_alloc ?_ _ | refine ba_drew ?_ | refine ba_drewN ?_ _ | refine ba_via (by assumption) ?_ | (refine ba_set ?_ ?_ _; rotate_left; (first | omega | (simp; omega) | simp))))).mono ?_); rintro e wb ⟨rfl, hbwb⟩))
  go_ret
  exact ⟨rfl, ba_via (by repeat (with_reducible first | exact Below.refl _ _ | assumption | refine ba_alloc ?_ _ | refine ba_drew ?_ | refine ba_drewN ?_ _ | refine ba_via (by assumption) ?_ | (refine ba_set ?_ ?_ _; rotate_left; (first | omega | (simp; omega) | simp)))) hW1⟩
set_option maxRecDepth 20000 in
set_option maxHeartbeats 8000000 in
theorem finds_bad (x : Dt) (w : World)
    (hSM : ∀ W, Below w.heap.size w W → Calls Tryz.prog 13 #[dtV x] W fun e w' => e = .returned (.bool true) ∧ Below W.heap.size W w')
    (hLK : ∀ W, Below w.heap.size w W → Calls Tryz.prog 14 #[dtV x] W fun e w' => e = .returned (.bool false) ∧ Below W.heap.size W w') :
    Calls Tryz.prog 3 #[dtV x] w fun e w' => e = .returned (.bool true) ∧ Below w.heap.size w w' := by
  have HA := Lib.hid (fun w => awake_any w)
  have HSM := Lib.hid hSM
  have HLK := Lib.hid hLK
  clear hSM hLK
  unfold dtV at HSM HLK
  unfold dtV
  have hDB := Blk.new w 34 #[.string x.m.name, .slice x.mA x.mn x.mc, .slice x.hA x.hn x.hc, .int .i64 x.m.cover, .int .i64 x.m.aggr, .int .i64 x.m.poker, .slice x.bA x.bn x.bc, .slice x.rA x.rn x.rc, .slice x.jA x.jn x.jc, .slice x.dA x.dn x.dc, .int .i64 x.rule.num, .int .i64 x.rule.den, .int .i64 x.rule.pnum, .int .i64 x.rule.pden, .int .i64 x.rule.bnum, .int .i64 x.rule.bden, .int .i64 x.rule.lnum, .int .i64 x.rule.lden, .int .i64 x.rule.least]
  have hW1 : Below w.heap.size w (w.alloc (.cells #[.string x.m.name, .slice x.mA x.mn x.mc, .slice x.hA x.hn x.hc, .int .i64 x.m.cover, .int .i64 x.m.aggr, .int .i64 x.m.poker, .slice x.bA x.bn x.bc, .slice x.rA x.rn x.rc, .slice x.jA x.jn x.jc, .slice x.dA x.dn x.dc, .int .i64 x.rule.num, .int .i64 x.rule.den, .int .i64 x.rule.pnum, .int .i64 x.rule.pden, .int .i64 x.rule.bnum, .int .i64 x.rule.bden, .int .i64 x.rule.lnum, .int .i64 x.rule.lden, .int .i64 x.rule.least] 34)) := ba_alloc (Below.refl _ _) _
  go_enter Tryz.func3, Tryz.ntmps3
  go_upto_region 1 with fail
  generalize (w.alloc (.cells #[.string x.m.name, .slice x.mA x.mn x.mc, .slice x.hA x.hn x.hc, .int .i64 x.m.cover, .int .i64 x.m.aggr, .int .i64 x.m.poker, .slice x.bA x.bn x.bc, .slice x.rA x.rn x.rc, .slice x.jA x.jn x.jc, .slice x.dA x.dn x.dc, .int .i64 x.rule.num, .int .i64 x.rule.den, .int .i64 x.rule.pnum, .int .i64 x.rule.pden, .int .i64 x.rule.bnum, .int .i64 x.rule.bden, .int .i64 x.rule.lnum, .int .i64 x.rule.lden, .int .i64 x.rule.least] 34)) = W1 at *
  have HDB := Lib.hid hDB
  have HSM1 := Lib.hid (fun (W : World) (hw : Below W1.heap.size W1 W) => HSM.out W (ba_via hw hW1))
  have HLK1 := Lib.hid (fun (W : World) (hw : Below W1.heap.size W1 W) => HLK.out W (ba_via hw hW1))
  clear hDB HSM HLK
  go_wp2_with (first
    | (go_at_call 12; (with_reducible refine (HA.out _).mono ?_); rintro e wa ⟨rfl, hbwa⟩)
    | (refine wpList_load_mid rfl 34 (.tmp 1) rfl _ _ rfl _ _ (HDB.out.via (by repeat (with_reducible first | exact Below.refl _ _ | assumption | refine ba_alloc ?_ _ | refine ba_drew ?_ | refine ba_drewN ?_ _ | refine ba_via (by assumption) ?_ | (refine ba_set ?_ ?_ _; rotate_left; (first | omega | (simp; omega) | simp))))).range Tryz.underlying34 rfl (by kernel_rfl) ?_)
    | (refine wpList_load_gdF (by rfl) 34 (.tmp 1) rfl _ _ rfl _ _ (HDB.out.via (by repeat (with_reducible first | exact Below.refl _ _ | assumption | refine ba_alloc ?_ _ | refine ba_drew ?_ | refine ba_drewN ?_ _ | refine ba_via (by assumption) ?_ | (refine ba_set ?_ ?_ _; rotate_left; (first | omega | (simp; omega) | simp))))).range Tryz.underlying34 rfl (by kernel_rfl) ?_)
    | (refine wp_load_mid 34 (.tmp 1) rfl _ _ rfl _ _ (HDB.out.via (by repeat (with_reducible first | exact Below.refl _ _ | assumption | refine ba_alloc ?_ _ | refine ba_drew ?_ | refine ba_drewN ?_ _ | refine ba_via (by assumption) ?_ | (refine ba_set ?_ ?_ _; rotate_left; (first | omega | (simp; omega) | simp))))).range Tryz.underlying34 rfl (by kernel_rfl) ?_)
    | (go_at_call 13; (with_reducible refine (HSM1.out _ (by repeat (with_reducible first | exact Below.refl _ _ | assumption | refine ba_alloc ?_ _ | refine ba_drew ?_ | refine ba_drewN ?_ _ | refine ba_via (by assumption) ?_ | (refine ba_set ?_ ?_ _; rotate_left; (first | omega | (simp; omega) | simp))))).mono ?_); rintro e wb ⟨rfl, hbwb⟩)
    | (go_at_call 14; (with_reducible refine (HLK1.out _ (by repeat (with_reducible first | exact Below.refl _ _ | assumption | refine ba_alloc ?_ _ | refine ba_drew ?_ | refine ba_drewN ?_ _ | refine ba_via (by assumption) ?_ | (refine ba_set ?_ ?_ _; rotate_left; (first | omega | (simp; omega) | simp))))).mono ?_); rintro e wc ⟨rfl, hbwc⟩))
  go_ret
  exact ⟨rfl, ba_via (by repeat (with_reducible first | exact Below.refl _ _ | assumption | refine ba_alloc ?_ _ | refine ba_drew ?_ | refine ba_drewN ?_ _ | refine ba_via (by assumption) ?_ | (refine ba_set ?_ ?_ _; rotate_left; (first | omega | (simp; omega) | simp)))) hW1⟩
theorem finds_walk (x : Dt) (ds : List Dm) (w : World) (h : DtOk w x ds) :
    Calls Tryz.prog 3 #[dtV x] w fun e w' => e = .returned (.bool true) ∧ Below w.heap.size w w' := by
  have HSM := fun (W : World) (hw : Below w.heap.size w W) => small25_any x ds w.heap.size W hw.size (h.at_.at_ (Nat.le_refl _) hw) (h.dems.at_ (Nat.le_refl _) hw)
  cases hsm : S.small25 x ds
  · rw [hsm] at HSM
    exact finds_big x w HSM
  · rw [hsm] at HSM
    have hDV : ∀ W, Below w.heap.size w W → Calls Tryz.prog 121 #[.slice x.dA x.dn x.dc] W fun e w' => e = .returned (.bool (S.dems ds)) ∧ Below W.heap.size W w' := fun W hw => dvalid_any ds x.dA x.dn x.dc w.heap.size W hw.size h.cap (h.dems.at_ (Nat.le_refl _) hw)
    have HLK := fun (W : World) (hw : Below w.heap.size w W) => rlook_any x ds w.heap.size W hw.size (h.at_.at_ (Nat.le_refl _) hw) (h.dems.at_ (Nat.le_refl _) hw)
    cases hlk : S.look x (S.dems ds)
    · rw [hlk] at HLK
      exact finds_bad x w HSM HLK
    · rw [hlk] at HLK
      have hlk2 := hlk
      simp only [S.look, Bool.and_eq_true, decide_eq_true_eq] at hlk2
      obtain ⟨⟨⟨⟨⟨_, hlaid⟩, _⟩, hrule⟩, hj1000⟩, _⟩ := hlk2
      refine finds_good x 0 (S.mains (bars x.bs) x.rs) w (Nat.zero_le _) h.at_.jlen hj1000 HSM HLK (fun r hr W hw => ?_) (fun k hk => ?_) hrule (pairs_of hlk)
      · exact lcheck_yes (withRule x r) (S.dems ds) w.heap.size W hw.size (withRule_at (h.at_.at_ (Nat.le_refl _) hw) r) (withRule_look hlk hr) (fun V hV => look_yes (withRule x r) (S.dems ds) w.heap.size V (hw.trans (hV.mono hw.size)).size (withRule_at (h.at_.at_ (Nat.le_refl _) (hw.trans (hV.mono hw.size))) r) (fun U hU => hDV U ((hw.trans (hV.mono hw.size)).trans (hU.mono (hw.trans (hV.mono hw.size)).size))) (withRule_look hlk hr))
      · obtain ⟨i1, i2, a, b, h1, h2, h3, h4, h5, h6, h7, h8⟩ := look_pair hlk hk
        exact ⟨i1, i2, a, b, ⟨h1, h2, h3, h4, h5, h6, h7, h8⟩, fun W hw => Overlap_yes x (S.dems ds) w.heap.size W hw.size (h.at_.at_ (Nat.le_refl _) hw) (fun V hV => hDV V (hw.trans (hV.mono hw.size))) hlk k i1 i2 a b hk h1 h2 h3⟩
end Go.Proofs.YtffkmgjmlahfpaaGreat
