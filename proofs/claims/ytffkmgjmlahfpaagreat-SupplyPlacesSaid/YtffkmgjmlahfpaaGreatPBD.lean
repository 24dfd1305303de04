/- Contract of the reference for layer 26, of any detail: Bars. The walk through the law SupplyPlaces. SupplyPlaces, lifted to the row's frame. -/
import Derived.Test.YtffkmgjmlahfpaaGreatPAY
import Derived.Test.YtffkmgjmlahfpaaGreatPBB
import Derived.Test.YtffkmgjmlahfpaaGreatPBA
import Derived.Test.YtffkmgjmlahfpaaGreatPAG
import Derived.Test.YtffkmgjmlahfpaaGreatPAE
set_option linter.unusedVariables false
set_option linter.unusedSimpArgs false
namespace Go.Proofs.YtffkmgjmlahfpaaGreat
open Go.RowKit
section
variable {x : Dt} {ds : List Dm} {w : World}
theorem gB_same (x : Dt) (rs : List Rod) (C : List (List Int)) (z : Bx) (p : Int) (n : Nat) : S.gB (S.overM rs p) (fun i l => S.hasAt x rs z p (i : Int) l) C n = S.rbars x rs C z p n := rfl
theorem good_rBars (h : DtOk w x ds) (hlk : S.look x (S.dems ds) = true) {k : Nat} {d : Dm} (hk : ds[k]? = some d) (p : Int) {rs : List Rod} (hrs : RodsOf x (S.nOf x) rs) :
    ∀ W, Below w.heap.size w W → Calls Tryz.prog 38 #[dtV x, .int .i64 k, .int .i64 p] W (GivesOne 3 1 (S.barsAt x rs d.zone p).length (i64s (S.barsAt x rs d.zone p)) W) := fun W hw => by
  have g := look_ok hlk
  have key := rbars26_core x (S.cOf x) k p (S.nOf x) (fun i => S.mI rs (i : Int)) (fun i => S.tI rs (i : Int)) (S.overM rs p) (fun i l => S.hasAt x rs d.zone p (i : Int) l) _ _ _ W (says_at h hlk hk hrs hw) g.n2000 (fun l hl => (g.cin l hl).2.1)
    (fun i => by
      unfold S.overM S.mI S.tI
      rw [Int.toNat_natCast]
      cases hr : rs[i]? with
      | none => rfl
      | some r =>
        show (!decide (r.main < 0) && (decide ((S.legOf r).lo.x ≤ p) && decide (p ≤ (S.legOf r).hi.x))) = (!decide (r.main < 0) && (decide ((S.mlegOf r).lo.x ≤ p) && decide (p ≤ (S.mlegOf r).hi.x)))
        unfold S.mlegOf
        by_cases hm : r.main < 0
        · rw [decide_eq_true hm]; rfl
        · rw [if_neg hm])
    (fun i l => by
      show S.hasAt x rs d.zone p (i : Int) l = _
      unfold S.hasAt
      rw [refIn_same])
    (fun V hV => good_rcount h hlk V (hw.trans (hV.mono hw.size)))
    (fun i hi V hV => by
      have hix : i < rs.length := by rw [hrs.len]; exact hi
      have := rmain_rod x rs w.heap.size V (hw.trans (hV.mono hw.size)).size (h.at_.at_ (Nat.le_refl _) (hw.trans (hV.mono hw.size))) g.laid hrs (List.getElem?_eq_getElem hix)
      show Calls Tryz.prog 43 #[dtV x, .int .i64 i] V fun e w' => e = .returned (.tuple #[boxV (S.mI rs (i : Int)), .bool (S.tI rs (i : Int))]) ∧ Below V.heap.size V w'
      unfold S.mI S.tI
      rw [Int.toNat_natCast, List.getElem?_eq_getElem hix]
      exact this)
    (fun V hV => good_rchains h hlk V (hw.trans (hV.mono hw.size)))
  rw [gB_same, rbars_same hlk hrs] at key
  exact key
end
theorem eqi_same (B : List Int) (A : Option Addr) (c : Nat) (A' : Option Addr) (c' : Nat) (W : World) (hs : Cells W W.heap.size A (i64s B)) (hs' : Cells W W.heap.size A' (i64s B)) (hl : B.length ≤ 9223372036854775807) :
    Calls Tryz.prog 24 #[.slice A B.length c, .slice A' B.length c'] W fun e w' => e = .returned (.bool true) ∧ Below W.heap.size W w' := by
  have := equal_any A A' B.length B.length c c' B B W.heap.size W (Nat.le_refl _) rfl rfl hl hl hs hs'
  rwa [show S.eqi B B = true by unfold S.eqi; simp] at this
set_option maxRecDepth 20000 in
set_option maxHeartbeats 4000000 in
theorem placesLaw_big (x : Dt) (d p : Int) (w : World)
    (hSM : ∀ W, Below w.heap.size w W → Calls Tryz.prog 29 #[dtV x] W fun e w' => e = .returned (.bool false) ∧ Below W.heap.size W w') :
    Calls Tryz.prog 7 #[dtV x, .int .i64 d, .int .i64 p] w fun e w' => e = .returned (.bool true) ∧ Below w.heap.size w w' := by
  have HA := Lib.hid (fun w => awake26_any w)
  have HSM := Lib.hid hSM
  clear hSM
  unfold dtV at HSM
  unfold dtV
  have hDB := Blk.new w 34 #[.string x.m.name, .slice x.mA x.mn x.mc, .slice x.hA x.hn x.hc, .int .i64 x.m.cover, .int .i64 x.m.aggr, .int .i64 x.m.poker, .slice x.bA x.bn x.bc, .slice x.rA x.rn x.rc, .slice x.jA x.jn x.jc, .slice x.dA x.dn x.dc, .int .i64 x.rule.num, .int .i64 x.rule.den, .int .i64 x.rule.pnum, .int .i64 x.rule.pden, .int .i64 x.rule.bnum, .int .i64 x.rule.bden, .int .i64 x.rule.lnum, .int .i64 x.rule.lden, .int .i64 x.rule.least]
  have hW1 : Below w.heap.size w (w.alloc (.cells #[.string x.m.name, .slice x.mA x.mn x.mc, .slice x.hA x.hn x.hc, .int .i64 x.m.cover, .int .i64 x.m.aggr, .int .i64 x.m.poker, .slice x.bA x.bn x.bc, .slice x.rA x.rn x.rc, .slice x.jA x.jn x.jc, .slice x.dA x.dn x.dc, .int .i64 x.rule.num, .int .i64 x.rule.den, .int .i64 x.rule.pnum, .int .i64 x.rule.pden, .int .i64 x.rule.bnum, .int .i64 x.rule.bden, .int .i64 x.rule.lnum, .int .i64 x.rule.lden, .int .i64 x.rule.least] 34)) := ba_alloc (Below.refl _ _) _
  go_enter Tryz.func7, Tryz.ntmps7
  go_upto_region 1 with fail
  generalize (w.alloc (.cells #[.string x.m.name, .slice x.mA x.mn x.mc, .slice x.hA x.hn x.hc, .int .i64 x.m.cover, .int .i64 x.m.aggr, .int .i64 x.m.poker, .slice x.bA x.bn x.bc, .slice x.rA x.rn x.rc, .slice x.jA x.jn x.jc, .slice x.dA x.dn x.dc, .int .i64 x.rule.num, .int .i64 x.rule.den, .int .i64 x.rule.pnum, .int .i64 x.rule.pden, .int .i64 x.rule.bnum, .int .i64 x.rule.bden, .int .i64 x.rule.lnum, .int .i64 x.rule.lden, .int .i64 x.rule.least] 34)) = W1 at *
  have HDB := Lib.hid hDB
  clear hDB
  go_wp2_with (first
    | (go_at_call 28; (with_reducible refine (HA.out _).mono ?_); rintro e wa ⟨rfl, hbwa⟩)
    | ((with_reducible refine at_load 34 3 ?_); refine wpList_load_mid rfl 34 (.tmp 3) rfl _ _ rfl _ _ (HDB.out.via belr).range Tryz.underlying34 rfl (by kernel_rfl) ?_)
    | (go_at_call 29; (with_reducible refine (HSM.out _ belr).mono ?_); rintro e wb ⟨rfl, hbwb⟩))
  go_ret
  exact ⟨rfl, bel⟩
set_option maxRecDepth 20000 in
set_option maxHeartbeats 4000000 in
theorem placesLaw_err (x : Dt) (d p er : Int) (w : World) (he : (er == 0) = false)
    (hSM : ∀ W, Below w.heap.size w W → Calls Tryz.prog 29 #[dtV x] W fun e w' => e = .returned (.bool true) ∧ Below W.heap.size W w')
    (hAT : ∀ W, Below w.heap.size w W → Calls Tryz.prog 30 #[dtV x, .int .i64 d, .int .i64 p] W fun e w' => e = .returned (.tuple #[.int .i64 0, .int .i64 er]) ∧ Below W.heap.size W w')
    (hBA : ∀ W, Below w.heap.size w W → Calls Tryz.prog 36 #[dtV x, .int .i64 d, .int .i64 p] W fun e w' => e = .returned (.tuple #[.slice none 0 0, .int .i64 er]) ∧ Below W.heap.size W w')
    (hGV : ∀ W, Below w.heap.size w W → Calls Tryz.prog 33 #[dtV x, .int .i64 d, .int .i64 p] W fun e w' => e = .returned (.int .i64 er) ∧ Below W.heap.size W w') :
    Calls Tryz.prog 7 #[dtV x, .int .i64 d, .int .i64 p] w fun e w' => e = .returned (.bool true) ∧ Below w.heap.size w w' := by
  have HA := Lib.hid (fun w => awake26_any w)
  have HSM := Lib.hid hSM
  have HAT := Lib.hid hAT
  have HBA := Lib.hid hBA
  have HGV := Lib.hid hGV
  have he2 : ¬ (er = 0) := by simpa using he
  clear hSM hAT hBA hGV
  unfold dtV at HSM HAT HBA HGV
  unfold dtV
  have hDB := Blk.new w 34 #[.string x.m.name, .slice x.mA x.mn x.mc, .slice x.hA x.hn x.hc, .int .i64 x.m.cover, .int .i64 x.m.aggr, .int .i64 x.m.poker, .slice x.bA x.bn x.bc, .slice x.rA x.rn x.rc, .slice x.jA x.jn x.jc, .slice x.dA x.dn x.dc, .int .i64 x.rule.num, .int .i64 x.rule.den, .int .i64 x.rule.pnum, .int .i64 x.rule.pden, .int .i64 x.rule.bnum, .int .i64 x.rule.bden, .int .i64 x.rule.lnum, .int .i64 x.rule.lden, .int .i64 x.rule.least]
  have hW1 : Below w.heap.size w (w.alloc (.cells #[.string x.m.name, .slice x.mA x.mn x.mc, .slice x.hA x.hn x.hc, .int .i64 x.m.cover, .int .i64 x.m.aggr, .int .i64 x.m.poker, .slice x.bA x.bn x.bc, .slice x.rA x.rn x.rc, .slice x.jA x.jn x.jc, .slice x.dA x.dn x.dc, .int .i64 x.rule.num, .int .i64 x.rule.den, .int .i64 x.rule.pnum, .int .i64 x.rule.pden, .int .i64 x.rule.bnum, .int .i64 x.rule.bden, .int .i64 x.rule.lnum, .int .i64 x.rule.lden, .int .i64 x.rule.least] 34)) := ba_alloc (Below.refl _ _) _
  go_enter Tryz.func7, Tryz.ntmps7
  go_upto_region 1 with fail
  generalize (w.alloc (.cells #[.string x.m.name, .slice x.mA x.mn x.mc, .slice x.hA x.hn x.hc, .int .i64 x.m.cover, .int .i64 x.m.aggr, .int .i64 x.m.poker, .slice x.bA x.bn x.bc, .slice x.rA x.rn x.rc, .slice x.jA x.jn x.jc, .slice x.dA x.dn x.dc, .int .i64 x.rule.num, .int .i64 x.rule.den, .int .i64 x.rule.pnum, .int .i64 x.rule.pden, .int .i64 x.rule.bnum, .int .i64 x.rule.bden, .int .i64 x.rule.lnum, .int .i64 x.rule.lden, .int .i64 x.rule.least] 34)) = W1 at *
  have HDB := Lib.hid hDB
  clear hDB
  go_wp2_with (first
    | (go_at_call 28; (with_reducible refine (HA.out _).mono ?_); rintro e wa ⟨rfl, hbwa⟩)
    | ((with_reducible refine at_load 34 3 ?_); refine wpList_load_mid rfl 34 (.tmp 3) rfl _ _ rfl _ _ (HDB.out.via belr).range Tryz.underlying34 rfl (by kernel_rfl) ?_)
    | (go_at_call 29; (with_reducible refine (HSM.out _ belr).mono ?_); rintro e wb ⟨rfl, hbwb⟩)
    | (go_at_call 30; (with_reducible refine (HAT.out _ belr).mono ?_); rintro e wd ⟨rfl, hbwd⟩)
    | (go_at_call 36; (with_reducible refine (HBA.out _ belr).mono ?_); rintro e we ⟨rfl, hbwe⟩)
    | (go_at_call 33; (with_reducible refine (HGV.out _ belr).mono ?_); rintro e wf ⟨rfl, hbwf⟩))
  go_ret
  exact ⟨rfl, bel⟩
set_option maxRecDepth 20000 in
set_option maxHeartbeats 8000000 in
theorem placesLaw_yes (x : Dt) (B : List Int) (d p n : Int) (w : World) (hBl : B.length ≤ 200100)
    (hSM : ∀ W, Below w.heap.size w W → Calls Tryz.prog 29 #[dtV x] W fun e w' => e = .returned (.bool true) ∧ Below W.heap.size W w')
    (hAT : ∀ W, Below w.heap.size w W → Calls Tryz.prog 30 #[dtV x, .int .i64 d, .int .i64 p] W fun e w' => e = .returned (.tuple #[.int .i64 n, .int .i64 0]) ∧ Below W.heap.size W w')
    (hBA : ∀ W, Below w.heap.size w W → Calls Tryz.prog 36 #[dtV x, .int .i64 d, .int .i64 p] W fun e w' => ∃ (A : Option Addr) (c : Nat), e = .returned (.tuple #[.slice A B.length c, .int .i64 0]) ∧ w'.ownsRow W.heap.size 3 1 (.slice A B.length c) B.length (i64s B) ∧ Below W.heap.size W w')
    (hGV : ∀ W, Below w.heap.size w W → Calls Tryz.prog 33 #[dtV x, .int .i64 d, .int .i64 p] W fun e w' => e = .returned (.int .i64 0) ∧ Below W.heap.size W w')
    (hRA : ∀ W, Below w.heap.size w W → Calls Tryz.prog 37 #[dtV x, .int .i64 d, .int .i64 p] W fun e w' => e = .returned (.int .i64 n) ∧ Below W.heap.size W w')
    (hRB : ∀ W, Below w.heap.size w W → Calls Tryz.prog 38 #[dtV x, .int .i64 d, .int .i64 p] W (GivesOne 3 1 B.length (i64s B) W)) :
    Calls Tryz.prog 7 #[dtV x, .int .i64 d, .int .i64 p] w fun e w' => e = .returned (.bool true) ∧ Below w.heap.size w w' := by
  have HA := Lib.hid (fun w => awake26_any w)
  have HSM := Lib.hid hSM
  have HAT := Lib.hid hAT
  have HBA := Lib.hid hBA
  have HGV := Lib.hid hGV
  have HRA := Lib.hid hRA
  have HRB := Lib.hid hRB
  clear hSM hAT hBA hGV hRA hRB
  unfold dtV at HSM HAT HBA HGV HRA HRB
  unfold dtV
  have hDB := Blk.new w 34 #[.string x.m.name, .slice x.mA x.mn x.mc, .slice x.hA x.hn x.hc, .int .i64 x.m.cover, .int .i64 x.m.aggr, .int .i64 x.m.poker, .slice x.bA x.bn x.bc, .slice x.rA x.rn x.rc, .slice x.jA x.jn x.jc, .slice x.dA x.dn x.dc, .int .i64 x.rule.num, .int .i64 x.rule.den, .int .i64 x.rule.pnum, .int .i64 x.rule.pden, .int .i64 x.rule.bnum, .int .i64 x.rule.bden, .int .i64 x.rule.lnum, .int .i64 x.rule.lden, .int .i64 x.rule.least]
  have hW1 : Below w.heap.size w (w.alloc (.cells #[.string x.m.name, .slice x.mA x.mn x.mc, .slice x.hA x.hn x.hc, .int .i64 x.m.cover, .int .i64 x.m.aggr, .int .i64 x.m.poker, .slice x.bA x.bn x.bc, .slice x.rA x.rn x.rc, .slice x.jA x.jn x.jc, .slice x.dA x.dn x.dc, .int .i64 x.rule.num, .int .i64 x.rule.den, .int .i64 x.rule.pnum, .int .i64 x.rule.pden, .int .i64 x.rule.bnum, .int .i64 x.rule.bden, .int .i64 x.rule.lnum, .int .i64 x.rule.lden, .int .i64 x.rule.least] 34)) := ba_alloc (Below.refl _ _) _
  go_enter Tryz.func7, Tryz.ntmps7
  go_upto_region 1 with fail
  generalize (w.alloc (.cells #[.string x.m.name, .slice x.mA x.mn x.mc, .slice x.hA x.hn x.hc, .int .i64 x.m.cover, .int .i64 x.m.aggr, .int .i64 x.m.poker, .slice x.bA x.bn x.bc, .slice x.rA x.rn x.rc, .slice x.jA x.jn x.jc, .slice x.dA x.dn x.dc, .int .i64 x.rule.num, .int .i64 x.rule.den, .int .i64 x.rule.pnum, .int .i64 x.rule.pden, .int .i64 x.rule.bnum, .int .i64 x.rule.bden, .int .i64 x.rule.lnum, .int .i64 x.rule.lden, .int .i64 x.rule.least] 34)) = W1 at *
  have HDB := Lib.hid hDB
  clear hDB
  go_upto_region 9 with (first
    | (go_at_call 28; (with_reducible refine (HA.out _).mono ?_); rintro e wa ⟨rfl, hbwa⟩)
    | ((with_reducible refine at_load 34 3 ?_); refine wpList_load_mid rfl 34 (.tmp 3) rfl _ _ rfl _ _ (HDB.out.via belr).range Tryz.underlying34 rfl (by kernel_rfl) ?_)
    | (go_at_call 29; (with_reducible refine (HSM.out _ belr).mono ?_); rintro e wb ⟨rfl, hbwb⟩)
    | (go_at_call 30; (with_reducible refine (HAT.out _ belr).mono ?_); rintro e wd ⟨rfl, hbwd⟩)
    | (go_at_call 36; (with_reducible refine (HBA.out _ belr).mono ?_); rintro e we ⟨A, cB, rfl, hO, hbwe⟩; have HBC := Lib.hid (own_cells hO (by unfold maxLen; omega)).1; clear hO)
    | (go_at_call 33; (with_reducible refine (HGV.out _ belr).mono ?_); rintro e wf ⟨rfl, hbwf⟩))
  have hbwf' : Below we.heap.size we wf := hbwf
  have hb1f : Below W1.heap.size W1 wf := ba_via hbwf (ba_via hbwe (ba_via hbwd (ba_via hbwb hbwa)))
  have hwf : Below w.heap.size w wf := ba_via hb1f hW1
  have HDF := Lib.hid (HDB.out.via hb1f)
  have HBF := Lib.hid ((HBC.out.below hbwf).mono hbwf.size)
  clear hbwa hbwb hbwd hbwe hbwf hbwf' hW1 HDB HA HSM HAT HBA HGV HBC hb1f
  have HEQ := Lib.hid (fun (W : World) (hw : Below wf.heap.size wf W) (A' : Option Addr) (c' : Nat) (hs : Cells W W.heap.size A' (i64s B)) => eqi_same B A cB A' c' W ((HBF.out.below hw).mono hw.size) hs (by omega))
  have nn : (n == n) = true := by simp
  go_wp2_with (first
    | ((with_reducible refine at_load 34 3 ?_); refine wpList_load_mid rfl 34 (.tmp 3) rfl _ _ rfl _ _ (HDF.out.via belr).range Tryz.underlying34 rfl (by kernel_rfl) ?_)
    | ((with_reducible refine at_loadg 34 3 ?_); refine wpList_load_gdF (by rfl) 34 (.tmp 3) rfl _ _ rfl _ _ (HDF.out.via belr).range Tryz.underlying34 rfl (by kernel_rfl) ?_)
    | ((with_reducible refine at_loadw 34 3 ?_); refine wp_load_mid 34 (.tmp 3) rfl _ _ rfl _ _ (HDF.out.via belr).range Tryz.underlying34 rfl (by kernel_rfl) ?_)
    | (go_at_call 37; (with_reducible refine (HRA.out _ belr).mono ?_); rintro e w1 ⟨rfl, hbw1⟩)
    | (go_at_call 38; (with_reducible refine (HRB.out _ belr).mono ?_); rintro e w2 ⟨A2, c2, rfl, hO2, hbw2⟩; have HC2 := Lib.hid (own_cells hO2 (by unfold maxLen; omega)).1; clear hO2)
    | (go_at_call 24; (with_reducible refine (HEQ.out _ belr A2 c2 HC2.out).mono ?_); rintro e w3 ⟨rfl, hbw3⟩))
  go_ret
  exact ⟨rfl, bel⟩
theorem places_walk (x : Dt) (ds : List Dm) (d p : Int) (w : World) (h : DtOk w x ds) :
    Calls Tryz.prog 7 #[dtV x, .int .i64 d, .int .i64 p] w fun e w' => e = .returned (.bool true) ∧ Below w.heap.size w w' := by
  have HSM : ∀ W, Below w.heap.size w W → Calls Tryz.prog 29 #[dtV x] W fun e w' => e = .returned (.bool (S.small25 x ds)) ∧ Below W.heap.size W w' := fun W hw =>
    few_any x (S.small25 x ds) W (fun V hV => small25_any x ds w.heap.size V (hw.trans (hV.mono hw.size)).size (h.at_.at_ (Nat.le_refl _) (hw.trans (hV.mono hw.size))) (h.dems.at_ (Nat.le_refl _) (hw.trans (hV.mono hw.size))))
  cases hsm : S.small25 x ds
  · rw [hsm] at HSM
    exact placesLaw_big x d p w HSM
  · rw [hsm] at HSM
    by_cases hg : S.given26 x ds d p = 0
    · obtain ⟨hlk, ⟨k, dm, rfl, hk⟩, hp⟩ := given26_zero hg
      have g := look_ok hlk
      obtain ⟨rs, hrs⟩ := rods_ex g.laid
      have hC := few_chains hsm g.laid
      exact placesLaw_yes x (S.barsAt x rs dm.zone p) k p (S.supplyAt x rs (S.cOf x) dm.zone p) w (barsAt_len hlk hC rs dm.zone p) HSM (good_At h hlk hk hp hrs) (good_Bars h hlk hC hk hp hrs)
        (fun W hw => hg ▸ any_rgiven h k p W hw) (good_rAt h hlk hk p hrs) (good_rBars h hlk hk p hrs)
    · exact placesLaw_err x d p _ w (by simpa using hg) HSM (bad_At h d p hg) (bad_Bars h d p hg) (any_rgiven h d p)
end Go.Proofs.YtffkmgjmlahfpaaGreat
set_option linter.unusedVariables false
set_option linter.unusedSimpArgs false
namespace Go.Proofs.YtffkmgjmlahfpaaGreat
open Go.ChangeShapes Go.WideShapes Go.ChangeAt Go.RowKit
theorem laidOut_supplyPlaces : laidOutB Tryz.prog = true := by kernel_rfl
set_option maxRecDepth 100000 in
theorem supplyPlaces_lifted (os : Os) (started : os.Started) (H : Type) (enc : TypeId × Value → H) :
    ReturnsInHanded {} Tryz.checked os 7 .any (Rows.supplyPlacesSpec.pre6 enc Tryz.prog Tryz.f7 Rows.supplyPlacesRow.domain false) (Rows.supplyPlacesSpec.post enc Tryz.prog Tryz.f7 false true false false) := by
  refine returnsInHanded_of_change (C := Tryz.checked) own started (by kernel_rfl) Tryz.func7
    (ChangeSpec.witness6 (enc := enc) (C := Tryz.checked) false ⟨#[], #[.agg #[.string ⟨#[]⟩, .slice none 0 0, .slice none 0 0, .int .i64 0, .int .i64 0, .int .i64 0, .slice none 0 0, .slice none 0 0, .slice none 0 0, .slice none 0 0, .int .i64 0, .int .i64 0, .int .i64 0, .int .i64 0, .int .i64 0, .int .i64 0, .int .i64 0, .int .i64 0, .int .i64 0], .int .i64 0, .int .i64 0], []⟩ 8 (by kernel_rfl) (by kernel_rfl) (by kernel_rfl) (by kernel_rfl)) ?_
  intro W base args ds gs before hval0 hW hcnd _
  have hval : ∀ (j : Nat) t v, Tryz.f7.params[j]? = some t → args[j]? = some v → Value.okWide Tryz.prog W .any base t v := hval0
  have hW' := hW
  obtain ⟨p, q, hA0, hV, rfl, hfz, hnd⟩ := hW
  have hA : DataW.TrodAll enc Tryz.prog W 0 (fun _ => true) true Tryz.f7.params.toList args.toList ds p := hA0
  rw [Tryz.params7] at hA hval
  obtain ⟨v0, vs0, d0, ds0, p0, q0, hargs, rfl, rfl, h0, r0⟩ := trodAll_cons hA
  obtain ⟨v1, vs1, d1, ds1, p1, q1, rfl, rfl, rfl, h1, r1⟩ := trodAll_cons r0
  obtain ⟨v2, vs2, d2, ds2, p2, q2, rfl, rfl, rfl, h2, r2⟩ := trodAll_cons r1
  obtain ⟨rfl, rfl, rfl⟩ := trodAll_nil r2
  obtain rfl : args = #[v0, v1, v2] := by cases args; simp_all
  obtain ⟨rfl, rfl⟩ := trodVars_none hV
  have k0 := h0
  have lt0 : ∀ x ∈ p0, x.block < W.heap.size := by obtain ⟨m, hm⟩ := k0; exact DataW.trod_lt m _ _ _ hm
  have o0 := hval 0 34 v0 rfl rfl
  have k1 := h1
  have lt1 : ∀ x ∈ p1, x.block < W.heap.size := by obtain ⟨m, hm⟩ := k1; exact DataW.trod_lt m _ _ _ hm
  have o1 := hval 1 3 v1 rfl rfl
  have k2 := h2
  have lt2 : ∀ x ∈ p2, x.block < W.heap.size := by obtain ⟨m, hm⟩ := k2; exact DataW.trod_lt m _ _ _ hm
  have o2 := hval 2 3 v2 rfl rfl
  clear hA0 hval0 hval
  obtain ⟨cs0, rfl, _⟩ := okWide_struct Tryz.underlying34 o0
  obtain ⟨x, ds, rfl, hok, _⟩ := arg_detail h0
  obtain ⟨d, rfl, _, _, _⟩ := open_int Tryz.underlying3 o1 h1
  obtain ⟨p, rfl, _, _, _⟩ := open_int Tryz.underlying3 o2 h2
  refine (places_walk x ds d p W hok).mono fun e W' ⟨he, bel⟩ => ?_
  subst he
  exact ⟨_, rfl, _, _, _, [], _, [], hW', trodAll_mk1 (shut_bool Tryz.underlying4 _), (trodAll_cons_mk (Below.trod laidOut_supplyPlaces (by kernel_rfl) (of_decide_eq_true (by kernel_rfl)) k0 bel lt0) (trodAll_cons_mk (Below.trod laidOut_supplyPlaces (by kernel_rfl) (of_decide_eq_true (by kernel_rfl)) k1 bel lt1) (trodAll_cons_mk (Below.trod laidOut_supplyPlaces (by kernel_rfl) (of_decide_eq_true (by kernel_rfl)) k2 bel lt2) trodAll_mk0))), rfl, bel.frame _, fun h => by cases h⟩

end Go.Proofs.YtffkmgjmlahfpaaGreat
