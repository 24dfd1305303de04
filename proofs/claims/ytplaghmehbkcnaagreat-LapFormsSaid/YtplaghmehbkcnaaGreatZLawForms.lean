/- The walk through the law LapForms. -/
import Derived.Test.YtplaghmehbkcnaaGreatZH
import Derived.Test.YtplaghmehbkcnaaGreatOverN
import Derived.Test.YtplaghmehbkcnaaGreatZD
import Derived.Test.YtplaghmehbkcnaaGreatZE
import Derived.Test.YtplaghmehbkcnaaGreatZF
import Derived.Test.YtplaghmehbkcnaaGreatZC
set_option linter.unusedVariables false
set_option linter.unusedSimpArgs false
namespace Go.Proofs.YtplaghmehbkcnaaGreat
open Go.RowKit
set_option maxRecDepth 20000 in
set_option maxHeartbeats 8000000 in
theorem forms_out (x : Dt) (r : Rule) (d : Int) (poor : Bool) (at_ : Int) (v : Bool) (eo : Int) (w : World)
    (hSM : ∀ W, Below w.heap.size w W → Calls Tryz.prog 7 #[dtV x] W fun e w' => e = .returned (.bool true) ∧ Below W.heap.size W w')
    (hLK : ∀ W, Below w.heap.size w W → Calls Tryz.prog 13 #[dtV x] W fun e w' => e = .returned (.bool v) ∧ Below W.heap.size W w')
    (hLV : ∀ W, Below w.heap.size w W → Calls Tryz.prog 14 #[dtV x] W fun e w' => e = .returned (.bool v) ∧ Below W.heap.size W w')
    (hO : ∀ W, Below w.heap.size w W → Calls Tryz.prog 9 #[dtV x, .int .i64 at_] W fun e w' => e = .returned (.tuple #[.agg #[.int .i64 0, .int .i64 0], .int .i64 eo]) ∧ Below W.heap.size W w')
    (hcs : (v = false ∧ eo = 1) ∨ (v = true ∧ eo = 2 ∧ at_ < 0) ∨ (v = true ∧ eo = 2 ∧ ¬ at_ < 0 ∧ (x.jn : Int) ≤ at_)) :
    Calls Tryz.prog 3 #[dtV x, ruleV r, .int .i64 d, .bool poor, .int .i64 at_] w fun e w' => e = .returned (.bool true) ∧ Below w.heap.size w w' := by
  have HA := Lib.hid (fun w => awake_any w)
  have HV := Lib.hid (fun w => rvalid_any r w)
  have HD := Lib.hid (fun w => issize_any d w)
  have HL := Lib.hid (fun w => lLength_any r d poor w)
  have HR := Lib.hid (fun (h : S.sized r d = 0) w => rlLength_any r d poor w h)
  have hrc : (S.rule r = false ∧ S.sized r d = 1 ∧ lLength r d poor = 0) ∨ (S.rule r = true ∧ S.size d = false ∧ S.sized r d = 2 ∧ lLength r d poor = 0) ∨ (S.rule r = true ∧ S.size d = true ∧ S.sized r d = 0) := by
    cases h1 : S.rule r
    · have : S.sized r d = 1 := by simp [S.sized, h1]
      exact .inl ⟨rfl, this, by simp [lLength, this]⟩
    · cases h2 : S.size d
      · have : S.sized r d = 2 := by simp [S.sized, h1, h2]
        exact .inr (.inl ⟨rfl, rfl, this, by simp [lLength, this]⟩)
      · exact .inr (.inr ⟨rfl, rfl, sized_yes h1 h2⟩)
  have HSM := Lib.hid hSM
  have HLK := Lib.hid hLK
  have HLV := Lib.hid hLV
  have HO := Lib.hid hO
  clear hSM hLK hLV hO
  unfold ruleV at HV HL HR
  unfold ruleV
  unfold dtV at HSM HLK HLV HO
  unfold dtV
  generalize lLength r d poor = n at *
  generalize S.sized r d = en at *
  generalize S.rule r = t1 at *
  generalize S.size d = t2 at *
  rcases hrc with ⟨rfl, rfl, rfl⟩ | ⟨rfl, rfl, rfl, rfl⟩ | ⟨rfl, rfl, rfl⟩
  rotate_left 2
  · replace HR := Lib.hid (HR.out rfl)
    rcases hcs with ⟨rfl, rfl⟩ | ⟨rfl, rfl, h1⟩ | ⟨rfl, rfl, h1, h2⟩
    all_goals (
      go_enter Tryz.func3, Tryz.ntmps3
      have hDB := (Blk.new w 34 #[.string x.m.name, .slice x.mA x.mn x.mc, .slice x.hA x.hn x.hc, .int .i64 x.m.cover, .int .i64 x.m.aggr, .int .i64 x.m.poker, .slice x.bA x.bn x.bc, .slice x.rA x.rn x.rc, .slice x.jA x.jn x.jc, .slice x.dA x.dn x.dc, .int .i64 x.rule.num, .int .i64 x.rule.den, .int .i64 x.rule.pnum, .int .i64 x.rule.pden, .int .i64 x.rule.bnum, .int .i64 x.rule.bden, .int .i64 x.rule.lnum, .int .i64 x.rule.lden, .int .i64 x.rule.least]).alloc (.cells #[.int .i64 r.num, .int .i64 r.den, .int .i64 r.pnum, .int .i64 r.pden, .int .i64 r.bnum, .int .i64 r.bden, .int .i64 r.lnum, .int .i64 r.lden, .int .i64 r.least] 32)
      have hRB := Blk.newN (W := w.alloc (.cells #[.string x.m.name, .slice x.mA x.mn x.mc, .slice x.hA x.hn x.hc, .int .i64 x.m.cover, .int .i64 x.m.aggr, .int .i64 x.m.poker, .slice x.bA x.bn x.bc, .slice x.rA x.rn x.rc, .slice x.jA x.jn x.jc, .slice x.dA x.dn x.dc, .int .i64 x.rule.num, .int .i64 x.rule.den, .int .i64 x.rule.pnum, .int .i64 x.rule.pden, .int .i64 x.rule.bnum, .int .i64 x.rule.bden, .int .i64 x.rule.lnum, .int .i64 x.rule.lden, .int .i64 x.rule.least] 34)) (n := w.heap.size + 1) (by simp) 32 #[.int .i64 r.num, .int .i64 r.den, .int .i64 r.pnum, .int .i64 r.pden, .int .i64 r.bnum, .int .i64 r.bden, .int .i64 r.lnum, .int .i64 r.lden, .int .i64 r.least]
      have hW1 : Below w.heap.size w ((w.alloc (.cells #[.string x.m.name, .slice x.mA x.mn x.mc, .slice x.hA x.hn x.hc, .int .i64 x.m.cover, .int .i64 x.m.aggr, .int .i64 x.m.poker, .slice x.bA x.bn x.bc, .slice x.rA x.rn x.rc, .slice x.jA x.jn x.jc, .slice x.dA x.dn x.dc, .int .i64 x.rule.num, .int .i64 x.rule.den, .int .i64 x.rule.pnum, .int .i64 x.rule.pden, .int .i64 x.rule.bnum, .int .i64 x.rule.bden, .int .i64 x.rule.lnum, .int .i64 x.rule.lden, .int .i64 x.rule.least] 34)).alloc (.cells #[.int .i64 r.num, .int .i64 r.den, .int .i64 r.pnum, .int .i64 r.pden, .int .i64 r.bnum, .int .i64 r.bden, .int .i64 r.lnum, .int .i64 r.lden, .int .i64 r.least] 32)) := ba_alloc (ba_alloc (Below.refl _ _) _) _
      go_upto_region 1 with fail
      generalize ((w.alloc (.cells #[.string x.m.name, .slice x.mA x.mn x.mc, .slice x.hA x.hn x.hc, .int .i64 x.m.cover, .int .i64 x.m.aggr, .int .i64 x.m.poker, .slice x.bA x.bn x.bc, .slice x.rA x.rn x.rc, .slice x.jA x.jn x.jc, .slice x.dA x.dn x.dc, .int .i64 x.rule.num, .int .i64 x.rule.den, .int .i64 x.rule.pnum, .int .i64 x.rule.pden, .int .i64 x.rule.bnum, .int .i64 x.rule.bden, .int .i64 x.rule.lnum, .int .i64 x.rule.lden, .int .i64 x.rule.least] 34)).alloc (.cells #[.int .i64 r.num, .int .i64 r.den, .int .i64 r.pnum, .int .i64 r.pden, .int .i64 r.bnum, .int .i64 r.bden, .int .i64 r.lnum, .int .i64 r.lden, .int .i64 r.least] 32)) = W1 at *
      have HDB := Lib.hid hDB
      have HRB := Lib.hid hRB
      have HSM1 := Lib.hid (fun (W : World) (hw : Below W1.heap.size W1 W) => HSM.out W (ba_via hw hW1))
      have HLK1 := Lib.hid (fun (W : World) (hw : Below W1.heap.size W1 W) => HLK.out W (ba_via hw hW1))
      have HLV1 := Lib.hid (fun (W : World) (hw : Below W1.heap.size W1 W) => HLV.out W (ba_via hw hW1))
      have HO1 := Lib.hid (fun (W : World) (hw : Below W1.heap.size W1 W) => HO.out W (ba_via hw hW1))
      clear hDB hRB
      go_upto_region 9 with (first
        | (go_at_call 6; (with_reducible refine (HA.out _).mono ?_); rintro e wa ⟨rfl, hbwa⟩; obtain ⟨hcwa, hfwa⟩ := bcell hbwa)
        | (refine wpList_load_mid rfl 34 (.tmp 5) rfl _ _ rfl _ _ (HDB.out.via (by repeat (with_reducible first | exact Below.refl _ _ | assumption | refine ba_alloc ?_ _ | refine ba_drew ?_ | refine ba_drewN ?_ _ | refine ba_via (by assumption) ?_ | (refine ba_set ?_ ?_ _; rotate_left; (first | omega | (simp; omega) | simp))))).range Tryz.underlying34 rfl (by kernel_rfl) ?_)
        | (refine wpList_load_mid rfl 32 (.tmp 6) rfl _ _ rfl _ _ (HRB.out.via (by repeat (with_reducible first | exact Below.refl _ _ | assumption | refine ba_alloc ?_ _ | refine ba_drew ?_ | refine ba_drewN ?_ _ | refine ba_via (by assumption) ?_ | (refine ba_set ?_ ?_ _; rotate_left; (first | omega | (simp; omega) | simp))))).range Tryz.underlying32 rfl (by kernel_rfl) ?_)
        | (go_at_call 7; (with_reducible refine (HSM1.out _ (by repeat (with_reducible first | exact Below.refl _ _ | assumption | refine ba_alloc ?_ _ | refine ba_drew ?_ | refine ba_drewN ?_ _ | refine ba_via (by assumption) ?_ | (refine ba_set ?_ ?_ _; rotate_left; (first | omega | (simp; omega) | simp))))).mono ?_); rintro e wb ⟨rfl, hbwb⟩; obtain ⟨hcwb, hfwb⟩ := bcell hbwb)
        | (go_at_call 8; (with_reducible refine (HL.out _).mono ?_); rintro e wc ⟨rfl, hbwc⟩; obtain ⟨hcwc, hfwc⟩ := bcell hbwc)
        | (go_at_call 9; (with_reducible refine (HO1.out _ (by repeat (with_reducible first | exact Below.refl _ _ | assumption | refine ba_alloc ?_ _ | refine ba_drew ?_ | refine ba_drewN ?_ _ | refine ba_via (by assumption) ?_ | (refine ba_set ?_ ?_ _; rotate_left; (first | omega | (simp; omega) | simp))))).mono ?_); rintro e wd ⟨rfl, hbwd⟩; obtain ⟨hcwd, hfwd⟩ := bcell hbwd))
      have hbD : Below W1.heap.size W1 wd := (by repeat (with_reducible first | exact Below.refl _ _ | assumption | refine ba_alloc ?_ _ | refine ba_drew ?_ | refine ba_drewN ?_ _ | refine ba_via (by assumption) ?_ | (refine ba_set ?_ ?_ _; rotate_left; (first | omega | (simp; omega) | simp))))
      have hW2 : Below W1.heap.size W1 (wd.alloc (.cells #[.int .i64 0, .int .i64 0] 41)) := ba_alloc hbD _
      have hS2 := Blk.new wd 41 #[.int .i64 0, .int .i64 0]
      have hg2 := hbD.size
      generalize (wd.alloc (.cells #[.int .i64 0, .int .i64 0] 41)) = W2 at *
      generalize wd.heap.size = g at *
      have HDB2 := Lib.hid (HDB.out.via hW2)
      have HRB2 := Lib.hid (HRB.out.via hW2)
      have HS2 := Lib.hid hS2
      have HLK2 := Lib.hid (fun (W : World) (hw : Below W2.heap.size W2 W) => HLK1.out W (ba_via hw hW2))
      have HLV2 := Lib.hid (fun (W : World) (hw : Below W2.heap.size W2 W) => HLV1.out W (ba_via hw hW2))
      clear hbD hbwa hbwb hbwc hbwd hcwa hcwb hcwc hcwd hfwa hfwb hfwc hfwd HDB HRB HSM HSM1 HLK HLK1 HLV HLV1 HO HO1 HA HL hS2
      clear wd wc wb wa
      go_upto_region 18 with (first
        | (refine wpList_load_mid rfl 34 (.tmp 5) rfl _ _ rfl _ _ (HDB2.out.via (by repeat (with_reducible first | exact Below.refl _ _ | assumption | refine ba_alloc ?_ _ | refine ba_drew ?_ | refine ba_drewN ?_ _ | refine ba_via (by assumption) ?_ | (refine ba_set ?_ ?_ _; rotate_left; (first | omega | (simp; omega) | simp))))).range Tryz.underlying34 rfl (by kernel_rfl) ?_)
        | (refine wpList_load_mid rfl 32 (.tmp 6) rfl _ _ rfl _ _ (HRB2.out.via (by repeat (with_reducible first | exact Below.refl _ _ | assumption | refine ba_alloc ?_ _ | refine ba_drew ?_ | refine ba_drewN ?_ _ | refine ba_via (by assumption) ?_ | (refine ba_set ?_ ?_ _; rotate_left; (first | omega | (simp; omega) | simp))))).range Tryz.underlying32 rfl (by kernel_rfl) ?_)
        | (go_at_call 10; (with_reducible refine (HV.out _).mono ?_); rintro e wa ⟨rfl, hbwa⟩; obtain ⟨hcwa, hfwa⟩ := bcell hbwa)
        | (go_at_call 11; (with_reducible refine (HD.out _).mono ?_); rintro e wb ⟨rfl, hbwb⟩; obtain ⟨hcwb, hfwb⟩ := bcell hbwb)
        | (go_at_call 12; (with_reducible refine (HR.out _).mono ?_); rintro e wc ⟨rfl, hbwc⟩; obtain ⟨hcwc, hfwc⟩ := bcell hbwc)
        | (go_at_call 13; (with_reducible refine (HLK2.out _ (by repeat (with_reducible first | exact Below.refl _ _ | assumption | refine ba_alloc ?_ _ | refine ba_drew ?_ | refine ba_drewN ?_ _ | refine ba_via (by assumption) ?_ | (refine ba_set ?_ ?_ _; rotate_left; (first | omega | (simp; omega) | simp))))).mono ?_); rintro e wd ⟨rfl, hbwd⟩; obtain ⟨hcwd, hfwd⟩ := bcell hbwd)
        | (go_at_call 14; (with_reducible refine (HLV2.out _ (by repeat (with_reducible first | exact Below.refl _ _ | assumption | refine ba_alloc ?_ _ | refine ba_drew ?_ | refine ba_drewN ?_ _ | refine ba_via (by assumption) ?_ | (refine ba_set ?_ ?_ _; rotate_left; (first | omega | (simp; omega) | simp))))).mono ?_); rintro e we ⟨rfl, hbwe⟩; obtain ⟨hcwe, hfwe⟩ := bcell hbwe))
      have hbE : Below W2.heap.size W2 we := (by repeat (with_reducible first | exact Below.refl _ _ | assumption | refine ba_alloc ?_ _ | refine ba_drew ?_ | refine ba_drewN ?_ _ | refine ba_via (by assumption) ?_ | (refine ba_set ?_ ?_ _; rotate_left; (first | omega | (simp; omega) | simp))))
      have hDC := (HDB2.out.via hbE).cell 8
      have hDl := (HDB2.out.via hbE).lt
      simp only [List.getElem?_toArray, List.getElem?_cons_zero, List.getElem?_cons_succ] at hDC
      go_wp2_with (refine wpList_load_mid rfl 41 (.tmp 13) rfl _ _ rfl _ _ (HS2.out.via hbE).range Tryz.underlying41 rfl (by kernel_rfl) ?_)
      go_ret
      exact ⟨rfl, ba_via (ba_via hbE hW2) hW1⟩)
  · clear HR
    rcases hcs with ⟨rfl, rfl⟩ | ⟨rfl, rfl, h1⟩ | ⟨rfl, rfl, h1, h2⟩
    all_goals (
      go_enter Tryz.func3, Tryz.ntmps3
      have hDB := (Blk.new w 34 #[.string x.m.name, .slice x.mA x.mn x.mc, .slice x.hA x.hn x.hc, .int .i64 x.m.cover, .int .i64 x.m.aggr, .int .i64 x.m.poker, .slice x.bA x.bn x.bc, .slice x.rA x.rn x.rc, .slice x.jA x.jn x.jc, .slice x.dA x.dn x.dc, .int .i64 x.rule.num, .int .i64 x.rule.den, .int .i64 x.rule.pnum, .int .i64 x.rule.pden, .int .i64 x.rule.bnum, .int .i64 x.rule.bden, .int .i64 x.rule.lnum, .int .i64 x.rule.lden, .int .i64 x.rule.least]).alloc (.cells #[.int .i64 r.num, .int .i64 r.den, .int .i64 r.pnum, .int .i64 r.pden, .int .i64 r.bnum, .int .i64 r.bden, .int .i64 r.lnum, .int .i64 r.lden, .int .i64 r.least] 32)
      have hRB := Blk.newN (W := w.alloc (.cells #[.string x.m.name, .slice x.mA x.mn x.mc, .slice x.hA x.hn x.hc, .int .i64 x.m.cover, .int .i64 x.m.aggr, .int .i64 x.m.poker, .slice x.bA x.bn x.bc, .slice x.rA x.rn x.rc, .slice x.jA x.jn x.jc, .slice x.dA x.dn x.dc, .int .i64 x.rule.num, .int .i64 x.rule.den, .int .i64 x.rule.pnum, .int .i64 x.rule.pden, .int .i64 x.rule.bnum, .int .i64 x.rule.bden, .int .i64 x.rule.lnum, .int .i64 x.rule.lden, .int .i64 x.rule.least] 34)) (n := w.heap.size + 1) (by simp) 32 #[.int .i64 r.num, .int .i64 r.den, .int .i64 r.pnum, .int .i64 r.pden, .int .i64 r.bnum, .int .i64 r.bden, .int .i64 r.lnum, .int .i64 r.lden, .int .i64 r.least]
      have hW1 : Below w.heap.size w ((w.alloc (.cells #[.string x.m.name, .slice x.mA x.mn x.mc, .slice x.hA x.hn x.hc, .int .i64 x.m.cover, .int .i64 x.m.aggr, .int .i64 x.m.poker, .slice x.bA x.bn x.bc, .slice x.rA x.rn x.rc, .slice x.jA x.jn x.jc, .slice x.dA x.dn x.dc, .int .i64 x.rule.num, .int .i64 x.rule.den, .int .i64 x.rule.pnum, .int .i64 x.rule.pden, .int .i64 x.rule.bnum, .int .i64 x.rule.bden, .int .i64 x.rule.lnum, .int .i64 x.rule.lden, .int .i64 x.rule.least] 34)).alloc (.cells #[.int .i64 r.num, .int .i64 r.den, .int .i64 r.pnum, .int .i64 r.pden, .int .i64 r.bnum, .int .i64 r.bden, .int .i64 r.lnum, .int .i64 r.lden, .int .i64 r.least] 32)) := ba_alloc (ba_alloc (Below.refl _ _) _) _
      go_upto_region 1 with fail
      generalize ((w.alloc (.cells #[.string x.m.name, .slice x.mA x.mn x.mc, .slice x.hA x.hn x.hc, .int .i64 x.m.cover, .int .i64 x.m.aggr, .int .i64 x.m.poker, .slice x.bA x.bn x.bc, .slice x.rA x.rn x.rc, .slice x.jA x.jn x.jc, .slice x.dA x.dn x.dc, .int .i64 x.rule.num, .int .i64 x.rule.den, .int .i64 x.rule.pnum, .int .i64 x.rule.pden, .int .i64 x.rule.bnum, .int .i64 x.rule.bden, .int .i64 x.rule.lnum, .int .i64 x.rule.lden, .int .i64 x.rule.least] 34)).alloc (.cells #[.int .i64 r.num, .int .i64 r.den, .int .i64 r.pnum, .int .i64 r.pden, .int .i64 r.bnum, .int .i64 r.bden, .int .i64 r.lnum, .int .i64 r.lden, .int .i64 r.least] 32)) = W1 at *
      have HDB := Lib.hid hDB
      have HRB := Lib.hid hRB
      have HSM1 := Lib.hid (fun (W : World) (hw : Below W1.heap.size W1 W) => HSM.out W (ba_via hw hW1))
      have HLK1 := Lib.hid (fun (W : World) (hw : Below W1.heap.size W1 W) => HLK.out W (ba_via hw hW1))
      have HLV1 := Lib.hid (fun (W : World) (hw : Below W1.heap.size W1 W) => HLV.out W (ba_via hw hW1))
      have HO1 := Lib.hid (fun (W : World) (hw : Below W1.heap.size W1 W) => HO.out W (ba_via hw hW1))
      clear hDB hRB
      go_upto_region 9 with (first
        | (go_at_call 6; (with_reducible refine (HA.out _).mono ?_); rintro e wa ⟨rfl, hbwa⟩; obtain ⟨hcwa, hfwa⟩ := bcell hbwa)
        | (refine wpList_load_mid rfl 34 (.tmp 5) rfl _ _ rfl _ _ (HDB.out.via (by repeat (with_reducible first | exact Below.refl _ _ | assumption | refine ba_alloc ?_ _ | refine ba_drew ?_ | refine ba_drewN ?_ _ | refine ba_via (by assumption) ?_ | (refine ba_set ?_ ?_ _; rotate_left; (first | omega | (simp; omega) | simp))))).range Tryz.underlying34 rfl (by kernel_rfl) ?_)
        | (refine wpList_load_mid rfl 32 (.tmp 6) rfl _ _ rfl _ _ (HRB.out.via (by repeat (with_reducible first | exact Below.refl _ _ | assumption | refine ba_alloc ?_ _ | refine ba_drew ?_ | refine ba_drewN ?_ _ | refine ba_via (by assumption) ?_ | (refine ba_set ?_ ?_ _; rotate_left; (first | omega | (simp; omega) | simp))))).range Tryz.underlying32 rfl (by kernel_rfl) ?_)
        | (go_at_call 7; (with_reducible refine (HSM1.out _ (by repeat (with_reducible first | exact Below.refl _ _ | assumption | refine ba_alloc ?_ _ | refine ba_drew ?_ | refine ba_drewN ?_ _ | refine ba_via (by assumption) ?_ | (refine ba_set ?_ ?_ _; rotate_left; (first | omega | (simp; omega) | simp))))).mono ?_); rintro e wb ⟨rfl, hbwb⟩; obtain ⟨hcwb, hfwb⟩ := bcell hbwb)
        | (go_at_call 8; (with_reducible refine (HL.out _).mono ?_); rintro e wc ⟨rfl, hbwc⟩; obtain ⟨hcwc, hfwc⟩ := bcell hbwc)
        | (go_at_call 9; (with_reducible refine (HO1.out _ (by repeat (with_reducible first | exact Below.refl _ _ | assumption | refine ba_alloc ?_ _ | refine ba_drew ?_ | refine ba_drewN ?_ _ | refine ba_via (by assumption) ?_ | (refine ba_set ?_ ?_ _; rotate_left; (first | omega | (simp; omega) | simp))))).mono ?_); rintro e wd ⟨rfl, hbwd⟩; obtain ⟨hcwd, hfwd⟩ := bcell hbwd))
      have hbD : Below W1.heap.size W1 wd := (by repeat (with_reducible first | exact Below.refl _ _ | assumption | refine ba_alloc ?_ _ | refine ba_drew ?_ | refine ba_drewN ?_ _ | refine ba_via (by assumption) ?_ | (refine ba_set ?_ ?_ _; rotate_left; (first | omega | (simp; omega) | simp))))
      have hW2 : Below W1.heap.size W1 (wd.alloc (.cells #[.int .i64 0, .int .i64 0] 41)) := ba_alloc hbD _
      have hS2 := Blk.new wd 41 #[.int .i64 0, .int .i64 0]
      have hg2 := hbD.size
      generalize (wd.alloc (.cells #[.int .i64 0, .int .i64 0] 41)) = W2 at *
      generalize wd.heap.size = g at *
      have HDB2 := Lib.hid (HDB.out.via hW2)
      have HRB2 := Lib.hid (HRB.out.via hW2)
      have HS2 := Lib.hid hS2
      have HLK2 := Lib.hid (fun (W : World) (hw : Below W2.heap.size W2 W) => HLK1.out W (ba_via hw hW2))
      have HLV2 := Lib.hid (fun (W : World) (hw : Below W2.heap.size W2 W) => HLV1.out W (ba_via hw hW2))
      clear hbD hbwa hbwb hbwc hbwd hcwa hcwb hcwc hcwd hfwa hfwb hfwc hfwd HDB HRB HSM HSM1 HLK HLK1 HLV HLV1 HO HO1 HA HL hS2
      clear wd wc wb wa
      go_upto_region 18 with (first
        | (refine wpList_load_mid rfl 34 (.tmp 5) rfl _ _ rfl _ _ (HDB2.out.via (by repeat (with_reducible first | exact Below.refl _ _ | assumption | refine ba_alloc ?_ _ | refine ba_drew ?_ | refine ba_drewN ?_ _ | refine ba_via (by assumption) ?_ | (refine ba_set ?_ ?_ _; rotate_left; (first | omega | (simp; omega) | simp))))).range Tryz.underlying34 rfl (by kernel_rfl) ?_)
        | (refine wpList_load_mid rfl 32 (.tmp 6) rfl _ _ rfl _ _ (HRB2.out.via (by repeat (with_reducible first | exact Below.refl _ _ | assumption | refine ba_alloc ?_ _ | refine ba_drew ?_ | refine ba_drewN ?_ _ | refine ba_via (by assumption) ?_ | (refine ba_set ?_ ?_ _; rotate_left; (first | omega | (simp; omega) | simp))))).range Tryz.underlying32 rfl (by kernel_rfl) ?_)
        | (go_at_call 10; (with_reducible refine (HV.out _).mono ?_); rintro e wa ⟨rfl, hbwa⟩; obtain ⟨hcwa, hfwa⟩ := bcell hbwa)
        | (go_at_call 11; (with_reducible refine (HD.out _).mono ?_); rintro e wb ⟨rfl, hbwb⟩; obtain ⟨hcwb, hfwb⟩ := bcell hbwb)
        | (go_at_call 12; (with_reducible refine (HR.out _).mono ?_); rintro e wc ⟨rfl, hbwc⟩; obtain ⟨hcwc, hfwc⟩ := bcell hbwc)
        | (go_at_call 13; (with_reducible refine (HLK2.out _ (by repeat (with_reducible first | exact Below.refl _ _ | assumption | refine ba_alloc ?_ _ | refine ba_drew ?_ | refine ba_drewN ?_ _ | refine ba_via (by assumption) ?_ | (refine ba_set ?_ ?_ _; rotate_left; (first | omega | (simp; omega) | simp))))).mono ?_); rintro e wd ⟨rfl, hbwd⟩; obtain ⟨hcwd, hfwd⟩ := bcell hbwd)
        | (go_at_call 14; (with_reducible refine (HLV2.out _ (by repeat (with_reducible first | exact Below.refl _ _ | assumption | refine ba_alloc ?_ _ | refine ba_drew ?_ | refine ba_drewN ?_ _ | refine ba_via (by assumption) ?_ | (refine ba_set ?_ ?_ _; rotate_left; (first | omega | (simp; omega) | simp))))).mono ?_); rintro e we ⟨rfl, hbwe⟩; obtain ⟨hcwe, hfwe⟩ := bcell hbwe))
      have hbE : Below W2.heap.size W2 we := (by repeat (with_reducible first | exact Below.refl _ _ | assumption | refine ba_alloc ?_ _ | refine ba_drew ?_ | refine ba_drewN ?_ _ | refine ba_via (by assumption) ?_ | (refine ba_set ?_ ?_ _; rotate_left; (first | omega | (simp; omega) | simp))))
      have hDC := (HDB2.out.via hbE).cell 8
      have hDl := (HDB2.out.via hbE).lt
      simp only [List.getElem?_toArray, List.getElem?_cons_zero, List.getElem?_cons_succ] at hDC
      go_wp2_with (refine wpList_load_mid rfl 41 (.tmp 13) rfl _ _ rfl _ _ (HS2.out.via hbE).range Tryz.underlying41 rfl (by kernel_rfl) ?_)
      go_ret
      exact ⟨rfl, ba_via (ba_via hbE hW2) hW1⟩)
  · clear HR
    rcases hcs with ⟨rfl, rfl⟩ | ⟨rfl, rfl, h1⟩ | ⟨rfl, rfl, h1, h2⟩
    all_goals (
      go_enter Tryz.func3, Tryz.ntmps3
      have hDB := (Blk.new w 34 #[.string x.m.name, .slice x.mA x.mn x.mc, .slice x.hA x.hn x.hc, .int .i64 x.m.cover, .int .i64 x.m.aggr, .int .i64 x.m.poker, .slice x.bA x.bn x.bc, .slice x.rA x.rn x.rc, .slice x.jA x.jn x.jc, .slice x.dA x.dn x.dc, .int .i64 x.rule.num, .int .i64 x.rule.den, .int .i64 x.rule.pnum, .int .i64 x.rule.pden, .int .i64 x.rule.bnum, .int .i64 x.rule.bden, .int .i64 x.rule.lnum, .int .i64 x.rule.lden, .int .i64 x.rule.least]).alloc (.cells #[.int .i64 r.num, .int .i64 r.den, .int .i64 r.pnum, .int .i64 r.pden, .int .i64 r.bnum, .int .i64 r.bden, .int .i64 r.lnum, .int .i64 r.lden, .int .i64 r.least] 32)
      have hRB := Blk.newN (W := w.alloc (.cells #[.string x.m.name, .slice x.mA x.mn x.mc, .slice x.hA x.hn x.hc, .int .i64 x.m.cover, .int .i64 x.m.aggr, .int .i64 x.m.poker, .slice x.bA x.bn x.bc, .slice x.rA x.rn x.rc, .slice x.jA x.jn x.jc, .slice x.dA x.dn x.dc, .int .i64 x.rule.num, .int .i64 x.rule.den, .int .i64 x.rule.pnum, .int .i64 x.rule.pden, .int .i64 x.rule.bnum, .int .i64 x.rule.bden, .int .i64 x.rule.lnum, .int .i64 x.rule.lden, .int .i64 x.rule.least] 34)) (n := w.heap.size + 1) (by simp) 32 #[.int .i64 r.num, .int .i64 r.den, .int .i64 r.pnum, .int .i64 r.pden, .int .i64 r.bnum, .int .i64 r.bden, .int .i64 r.lnum, .int .i64 r.lden, .int .i64 r.least]
      have hW1 : Below w.heap.size w ((w.alloc (.cells #[.string x.m.name, .slice x.mA x.mn x.mc, .slice x.hA x.hn x.hc, .int .i64 x.m.cover, .int .i64 x.m.aggr, .int .i64 x.m.poker, .slice x.bA x.bn x.bc, .slice x.rA x.rn x.rc, .slice x.jA x.jn x.jc, .slice x.dA x.dn x.dc, .int .i64 x.rule.num, .int .i64 x.rule.den, .int .i64 x.rule.pnum, .int .i64 x.rule.pden, .int .i64 x.rule.bnum, .int .i64 x.rule.bden, .int .i64 x.rule.lnum, .int .i64 x.rule.lden, .int .i64 x.rule.least] 34)).alloc (.cells #[.int .i64 r.num, .int .i64 r.den, .int .i64 r.pnum, .int .i64 r.pden, .int .i64 r.bnum, .int .i64 r.bden, .int .i64 r.lnum, .int .i64 r.lden, .int .i64 r.least] 32)) := ba_alloc (ba_alloc (Below.refl _ _) _) _
      go_upto_region 1 with fail
      generalize ((w.alloc (.cells #[.string x.m.name, .slice x.mA x.mn x.mc, .slice x.hA x.hn x.hc, .int .i64 x.m.cover, .int .i64 x.m.aggr, .int .i64 x.m.poker, .slice x.bA x.bn x.bc, .slice x.rA x.rn x.rc, .slice x.jA x.jn x.jc, .slice x.dA x.dn x.dc, .int .i64 x.rule.num, .int .i64 x.rule.den, .int .i64 x.rule.pnum, .int .i64 x.rule.pden, .int .i64 x.rule.bnum, .int .i64 x.rule.bden, .int .i64 x.rule.lnum, .int .i64 x.rule.lden, .int .i64 x.rule.least] 34)).alloc (.cells #[.int .i64 r.num, .int .i64 r.den, .int .i64 r.pnum, .int .i64 r.pden, .int .i64 r.bnum, .int .i64 r.bden, .int .i64 r.lnum, .int .i64 r.lden, .int .i64 r.least] 32)) = W1 at *
      have HDB := Lib.hid hDB
      have HRB := Lib.hid hRB
      have HSM1 := Lib.hid (fun (W : World) (hw : Below W1.heap.size W1 W) => HSM.out W (ba_via hw hW1))
      have HLK1 := Lib.hid (fun (W : World) (hw : Below W1.heap.size W1 W) => HLK.out W (ba_via hw hW1))
      have HLV1 := Lib.hid (fun (W : World) (hw : Below W1.heap.size W1 W) => HLV.out W (ba_via hw hW1))
      have HO1 := Lib.hid (fun (W : World) (hw : Below W1.heap.size W1 W) => HO.out W (ba_via hw hW1))
      clear hDB hRB
      go_upto_region 9 with (first
        | (go_at_call 6; (with_reducible refine (HA.out _).mono ?_); rintro e wa ⟨rfl, hbwa⟩; obtain ⟨hcwa, hfwa⟩ := bcell hbwa)
        | (refine wpList_load_mid rfl 34 (.tmp 5) rfl _ _ rfl _ _ (HDB.out.via (by repeat (with_reducible first | exact Below.refl _ _ | assumption | refine ba_alloc ?_ _ | refine ba_drew ?_ | refine ba_drewN ?_ _ | refine ba_via (by assumption) ?_ | (refine ba_set ?_ ?_ _; rotate_left; (first | omega | (simp; omega) | simp))))).range Tryz.underlying34 rfl (by kernel_rfl) ?_)
        | (refine wpList_load_mid rfl 32 (.tmp 6) rfl _ _ rfl _ _ (HRB.out.via (by repeat (with_reducible first | exact Below.refl _ _ | assumption | refine ba_alloc ?_ _ | refine ba_drew ?_ | refine ba_drewN ?_ _ | refine ba_via (by assumption) ?_ | (refine ba_set ?_ ?_ _; rotate_left; (first | omega | (simp; omega) | simp))))).range Tryz.underlying32 rfl (by kernel_rfl) ?_)
        | (go_at_call 7; (with_reducible refine (HSM1.out _ (by repeat (with_reducible first | exact Below.refl _ _ | assumption | refine ba_alloc ?_ _ | refine ba_drew ?_ | refine ba_drewN ?_ _ | refine ba_via (by assumption) ?_ | (refine ba_set ?_ ?_ _; rotate_left; (first | omega | (simp; omega) | simp))))).mono ?_); rintro e wb ⟨rfl, hbwb⟩; obtain ⟨hcwb, hfwb⟩ := bcell hbwb)
        | (go_at_call 8; (with_reducible refine (HL.out _).mono ?_); rintro e wc ⟨rfl, hbwc⟩; obtain ⟨hcwc, hfwc⟩ := bcell hbwc)
        | (go_at_call 9; (with_reducible refine (HO1.out _ (by repeat (with_reducible first | exact Below.refl _ _ | assumption | refine ba_alloc ?_ _ | refine ba_drew ?_ | refine ba_drewN ?_ _ | refine ba_via (by assumption) ?_ | (refine ba_set ?_ ?_ _; rotate_left; (first | omega | (simp; omega) | simp))))).mono ?_); rintro e wd ⟨rfl, hbwd⟩; obtain ⟨hcwd, hfwd⟩ := bcell hbwd))
      have hbD : Below W1.heap.size W1 wd := (by repeat (with_reducible first | exact Below.refl _ _ | assumption | refine ba_alloc ?_ _ | refine ba_drew ?_ | refine ba_drewN ?_ _ | refine ba_via (by assumption) ?_ | (refine ba_set ?_ ?_ _; rotate_left; (first | omega | (simp; omega) | simp))))
      have hW2 : Below W1.heap.size W1 (wd.alloc (.cells #[.int .i64 0, .int .i64 0] 41)) := ba_alloc hbD _
      have hS2 := Blk.new wd 41 #[.int .i64 0, .int .i64 0]
      have hg2 := hbD.size
      generalize (wd.alloc (.cells #[.int .i64 0, .int .i64 0] 41)) = W2 at *
      generalize wd.heap.size = g at *
      have HDB2 := Lib.hid (HDB.out.via hW2)
      have HRB2 := Lib.hid (HRB.out.via hW2)
      have HS2 := Lib.hid hS2
      have HLK2 := Lib.hid (fun (W : World) (hw : Below W2.heap.size W2 W) => HLK1.out W (ba_via hw hW2))
      have HLV2 := Lib.hid (fun (W : World) (hw : Below W2.heap.size W2 W) => HLV1.out W (ba_via hw hW2))
      clear hbD hbwa hbwb hbwc hbwd hcwa hcwb hcwc hcwd hfwa hfwb hfwc hfwd HDB HRB HSM HSM1 HLK HLK1 HLV HLV1 HO HO1 HA HL hS2
      clear wd wc wb wa
      go_upto_region 18 with (first
        | (refine wpList_load_mid rfl 34 (.tmp 5) rfl _ _ rfl _ _ (HDB2.out.via (by repeat (with_reducible first | exact Below.refl _ _ | assumption | refine ba_alloc ?_ _ | refine ba_drew ?_ | refine ba_drewN ?_ _ | refine ba_via (by assumption) ?_ | (refine ba_set ?_ ?_ _; rotate_left; (first | omega | (simp; omega) | simp))))).range Tryz.underlying34 rfl (by kernel_rfl) ?_)
        | (refine wpList_load_mid rfl 32 (.tmp 6) rfl _ _ rfl _ _ (HRB2.out.via (by repeat (with_reducible first | exact Below.refl _ _ | assumption | refine ba_alloc ?_ _ | refine ba_drew ?_ | refine ba_drewN ?_ _ | refine ba_via (by assumption) ?_ | (refine ba_set ?_ ?_ _; rotate_left; (first | omega | (simp; omega) | simp))))).range Tryz.underlying32 rfl (by kernel_rfl) ?_)
        | (go_at_call 10; (with_reducible refine (HV.out _).mono ?_); rintro e wa ⟨rfl, hbwa⟩; obtain ⟨hcwa, hfwa⟩ := bcell hbwa)
        | (go_at_call 11; (with_reducible refine (HD.out _).mono ?_); rintro e wb ⟨rfl, hbwb⟩; obtain ⟨hcwb, hfwb⟩ := bcell hbwb)
        | (go_at_call 12; (with_reducible refine (HR.out _).mono ?_); rintro e wc ⟨rfl, hbwc⟩; obtain ⟨hcwc, hfwc⟩ := bcell hbwc)
        | (go_at_call 13; (with_reducible refine (HLK2.out _ (by repeat (with_reducible first | exact Below.refl _ _ | assumption | refine ba_alloc ?_ _ | refine ba_drew ?_ | refine ba_drewN ?_ _ | refine ba_via (by assumption) ?_ | (refine ba_set ?_ ?_ _; rotate_left; (first | omega | (simp; omega) | simp))))).mono ?_); rintro e wd ⟨rfl, hbwd⟩; obtain ⟨hcwd, hfwd⟩ := bcell hbwd)
        | (go_at_call 14; (with_reducible refine (HLV2.out _ (by repeat (with_reducible first | exact Below.refl _ _ | assumption | refine ba_alloc ?_ _ | refine ba_drew ?_ | refine ba_drewN ?_ _ | refine ba_via (by assumption) ?_ | (refine ba_set ?_ ?_ _; rotate_left; (first | omega | (simp; omega) | simp))))).mono ?_); rintro e we ⟨rfl, hbwe⟩; obtain ⟨hcwe, hfwe⟩ := bcell hbwe))
      have hbE : Below W2.heap.size W2 we := (by repeat (with_reducible first | exact Below.refl _ _ | assumption | refine ba_alloc ?_ _ | refine ba_drew ?_ | refine ba_drewN ?_ _ | refine ba_via (by assumption) ?_ | (refine ba_set ?_ ?_ _; rotate_left; (first | omega | (simp; omega) | simp))))
      have hDC := (HDB2.out.via hbE).cell 8
      have hDl := (HDB2.out.via hbE).lt
      simp only [List.getElem?_toArray, List.getElem?_cons_zero, List.getElem?_cons_succ] at hDC
      go_wp2_with (refine wpList_load_mid rfl 41 (.tmp 13) rfl _ _ rfl _ _ (HS2.out.via hbE).range Tryz.underlying41 rfl (by kernel_rfl) ?_)
      go_ret
      exact ⟨rfl, ba_via (ba_via hbE hW2) hW1⟩)
end Go.Proofs.YtplaghmehbkcnaaGreat
