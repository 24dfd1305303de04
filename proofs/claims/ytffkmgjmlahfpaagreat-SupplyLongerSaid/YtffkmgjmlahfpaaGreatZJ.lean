/- Contract: supply.chains of a valid detail. Contracts: supply.chains, supply.suppliers that refuse; supply.Anchored, supply.Area, supply.Leg. The supply of any detail: what supply.At answers. The example of the law of layer 26: stirruplaw26.example. Plain: the example of layer 26 as data: its laid bar, its chain, its supply. Contract: supply.Anchored. Contract: slices.Equal over steps. Contract: stirruplaw26.awake: the example of the chapter holds. Plain: longer anchorage lengths never supply more. The walk through the law SupplyLonger. -/
import Derived.Test.YtffkmgjmlahfpaaGreatZH
import Derived.Test.YtffkmgjmlahfpaaGreatZI
import Derived.Test.YtffkmgjmlahfpaaGreatZF
set_option linter.unusedVariables false
set_option linter.unusedSimpArgs false
namespace Go.Proofs.YtffkmgjmlahfpaaGreat
open Go.RowKit
set_option maxRecDepth 20000 in
set_option maxHeartbeats 8000000 in
theorem schains_any (x : Dt) (C : List (List Int)) (n : Nat) (B : Nat) (w : World) (hB : B ≤ w.heap.size) (hA : DtAt w B x) (hl : S.laid (bars x.bs) x.rs = true) (hr : S.rule x.rule = true) (hm : S.member x.m = true) (hn : n ≤ 2000) (hC : C.length ≤ 2000)
    (hCI : ∀ l, l ∈ C → 0 < l.length ∧ l.length ≤ 2001 ∧ ∀ i, i ∈ l → 0 ≤ i ∧ i < (n : Int))
    (hLV : ∀ W, Below w.heap.size w W → Calls Tryz.prog 87 #[dtV x] W fun e w' => e = .returned (.bool true) ∧ Below W.heap.size W w')
    (hRD : ∀ W, Below w.heap.size w W → Calls Tryz.prog 92 #[dtV x] W (GivesRods x n W))
    (hCH : ∀ W, Below w.heap.size w W → Calls Tryz.prog 18 #[dtV x] W (GivesChE C W)) :
    Calls Tryz.prog 93 #[dtV x] w (GivesSup x C n w) := by
  have HLV := Lib.hid hLV
  have HRD := Lib.hid hRD
  have HCH := Lib.hid hCH
  have HA := Lib.hid hA
  have HCI := Lib.hid hCI
  clear hLV hRD hCH hCI
  unfold dtV at HLV HRD HCH
  unfold dtV
  have hDB := Blk.new w 34 #[.string x.m.name, .slice x.mA x.mn x.mc, .slice x.hA x.hn x.hc, .int .i64 x.m.cover, .int .i64 x.m.aggr, .int .i64 x.m.poker, .slice x.bA x.bn x.bc, .slice x.rA x.rn x.rc, .slice x.jA x.jn x.jc, .slice x.dA x.dn x.dc, .int .i64 x.rule.num, .int .i64 x.rule.den, .int .i64 x.rule.pnum, .int .i64 x.rule.pden, .int .i64 x.rule.bnum, .int .i64 x.rule.bden, .int .i64 x.rule.lnum, .int .i64 x.rule.lden, .int .i64 x.rule.least]
  have hW1 : Below w.heap.size w (w.alloc (.cells #[.string x.m.name, .slice x.mA x.mn x.mc, .slice x.hA x.hn x.hc, .int .i64 x.m.cover, .int .i64 x.m.aggr, .int .i64 x.m.poker, .slice x.bA x.bn x.bc, .slice x.rA x.rn x.rc, .slice x.jA x.jn x.jc, .slice x.dA x.dn x.dc, .int .i64 x.rule.num, .int .i64 x.rule.den, .int .i64 x.rule.pnum, .int .i64 x.rule.pden, .int .i64 x.rule.bnum, .int .i64 x.rule.bden, .int .i64 x.rule.lnum, .int .i64 x.rule.lden, .int .i64 x.rule.least] 34)) := ba_alloc (Below.refl _ _) _
  go_enter Tryz.func93, Tryz.ntmps93
  go_upto_region 1 with fail
  generalize (w.alloc (.cells #[.string x.m.name, .slice x.mA x.mn x.mc, .slice x.hA x.hn x.hc, .int .i64 x.m.cover, .int .i64 x.m.aggr, .int .i64 x.m.poker, .slice x.bA x.bn x.bc, .slice x.rA x.rn x.rc, .slice x.jA x.jn x.jc, .slice x.dA x.dn x.dc, .int .i64 x.rule.num, .int .i64 x.rule.den, .int .i64 x.rule.pnum, .int .i64 x.rule.pden, .int .i64 x.rule.bnum, .int .i64 x.rule.bden, .int .i64 x.rule.lnum, .int .i64 x.rule.lden, .int .i64 x.rule.least] 34)) = W1 at *
  have HDB := Lib.hid hDB
  clear hDB
  go_upto_region 4 with (first
    | ((with_reducible refine at_load 34 1 ?_); refine wpList_load_mid rfl 34 (.tmp 1) rfl _ _ rfl _ _ (HDB.out.via (by repeat (with_reducible first | exact Below.refl _ _ | assumption | refine ba_alloc ?_ _ | refine ba_drew ?_ | refine ba_drewN ?_ _ | refine ba_via (by assumption) ?_ | (refine ba_set ?_ ?_ _; rotate_left; (first | omega | (simp; omega) | simp))))).range Tryz.underlying34 rfl (by kernel_rfl) ?_)
    | (go_at_call 87; (with_reducible refine (HLV.out _ (by repeat (with_reducible first | exact Below.refl _ _ | assumption | refine ba_alloc ?_ _ | refine ba_drew ?_ | refine ba_drewN ?_ _ | refine ba_via (by assumption) ?_ | (refine ba_set ?_ ?_ _; rotate_left; (first | omega | (simp; omega) | simp))))).mono ?_); rintro e w1 ⟨rfl, hbw1⟩)
    | (go_at_call 92; (with_reducible refine (HRD.out _ (by repeat (with_reducible first | exact Below.refl _ _ | assumption | refine ba_alloc ?_ _ | refine ba_drew ?_ | refine ba_drewN ?_ _ | refine ba_via (by assumption) ?_ | (refine ba_set ?_ ?_ _; rotate_left; (first | omega | (simp; omega) | simp))))).mono ?_); rintro e w2 ⟨A1, c1, rs, rfl, hrl, hok, hRA, hbw2⟩; have HRL := Lib.hid hrl; have HOK := Lib.hid hok; have HRA := Lib.hid hRA; clear hrl hok hRA))
  have hL2 := Blk.new w2 145 #[.slice A1 rs.length c1]
  have hW2 : Below w.heap.size w (w2.alloc (.cells #[.slice A1 rs.length c1] 145)) := ba_alloc (ba_via hbw2 (ba_via hbw1 hW1)) _
  have HR2 := Lib.hid (RodsAt.kept HRA.out (ba_alloc (Below.refl _ _) (.cells #[.slice A1 rs.length c1] 145)))
  have HD2 := Lib.hid (HDB.out.via (show Below W1.heap.size W1 (w2.alloc (.cells #[.slice A1 rs.length c1] 145)) from (by repeat (with_reducible first | exact Below.refl _ _ | assumption | refine ba_alloc ?_ _ | refine ba_drew ?_ | refine ba_drewN ?_ _ | refine ba_via (by assumption) ?_ | (refine ba_set ?_ ?_ _; rotate_left; (first | omega | (simp; omega) | simp))))))
  have hs12 := hbw1.size
  have hsw1 := hW1.size
  generalize (w2.alloc (.cells #[.slice A1 rs.length c1] 145)) = W2 at *
  generalize w2.heap.size = gl at *
  clear hbw1 hbw2 HDB HRA
  go_wp2_with (first
    | ((with_reducible refine at_load 34 1 ?_); refine wpList_load_mid rfl 34 (.tmp 1) rfl _ _ rfl _ _ (HD2.out.via (by repeat (with_reducible first | exact Below.refl _ _ | assumption | refine ba_alloc ?_ _ | refine ba_drew ?_ | refine ba_drewN ?_ _ | refine ba_via (by assumption) ?_ | (refine ba_set ?_ ?_ _; rotate_left; (first | omega | (simp; omega) | simp))))).range Tryz.underlying34 rfl (by kernel_rfl) ?_)
    | (go_at_call 18; (with_reducible refine (HCH.out _ (by repeat (with_reducible first | exact Below.refl _ _ | assumption | refine ba_alloc ?_ _ | refine ba_drew ?_ | refine ba_drewN ?_ _ | refine ba_via (by assumption) ?_ | (refine ba_set ?_ ?_ _; rotate_left; (first | omega | (simp; omega) | simp))))).mono ?_); rintro e w3 ⟨A2, c2, chs, rfl, hcm, hcc, hccl, hce, hbw3⟩; have HCM := Lib.hid hcm; clear hcm))
  have hs23 := hbw3.size
  have HR3 := Lib.hid (RodsAt.kept HR2.out hbw3)
  have HL3 := Lib.hid (hL2.via hbw3)
  have HD3 := Lib.hid (HD2.out.via hbw3)
  have HRL2 := Lib.hid (fun r hr => rod_fit (HOK.out r hr) hl)
  have hW3 : Below w.heap.size w w3 := ba_via hbw3 hW2
  have HCC := Lib.hid hccl
  have HCE := Lib.hid hce
  have hgl : gl < w3.heap.size := by have := hL2.lt; omega
  clear hccl hce HR2 HD2 hL2 HLV HRD HCH
  obtain ⟨nc, hnc⟩ : ∃ nc, nc = chs.length := ⟨_, rfl⟩
  have HNC := Lib.hid hnc
  have hnc2 : nc ≤ 2000 := by rw [hnc]; have := congrArg List.length HCM.out; rw [List.length_map] at this; omega
  have hcc2 : nc ≤ c2 := by omega
  rw [← hnc] at hcc ⊢
  clear hnc
  go_loopw [6, 8, 42] (fun s6 v i wr => ∃ (q : Nat) (cs : List SCh), q ≤ nc ∧ i = .int .i64 q ∧ s6 = .int .i64 0 ∧ Hid (cs.length = q) ∧ Hid (∀ (i : Nat) (hi : i < cs.length) (hj : i < C.length), SchOk x rs C[i] cs[i]) ∧ Hid (∀ c, c ∈ cs → ∃ ch, ch ∈ chs ∧ c.A = ch.A ∧ c.l = ch.l) ∧ wr.ownsRow w3.heap.size 152 5 v cs.length (cs.flatMap schC) ∧ Below w3.heap.size w3 wr) (fun _ _ i _ => nc - (intOf i).toNat)
  case atStart => exact ⟨0, [], Nat.zero_le _, rfl, rfl, Lib.hid rfl, Lib.hid fun i hi => absurd hi (by simp), Lib.hid (fun c hc => by cases hc), World.ownsRow_nil _ _ _ _, Below.refl _ _⟩
  case round =>
    obtain ⟨q, cs, hq, rfl, rfl, hcl, hcok, hcin, hOW, hbr⟩ := hrel
    by_cases hlt : q < nc
    · have hqi : (q : Int) < nc := by omega
      have hqx : q < chs.length := by have := HNC.out; omega
      have hchm : chs[q] ∈ chs := List.getElem_mem hqx
      have hqC : q < C.length := by rw [← HCM.out, List.length_map]; exact hqx
      have HCQ := Lib.hid (show C[q] = chs[q].l by simp [← HCM.out])
      have hci := HCI.out C[q] (List.getElem_mem hqC)
      rw [HCQ.out] at hci
      have hce := HCE.out _ hchm
      obtain ⟨bA, oA, hAe, hbA, hxx⟩ := (HCC.out.below hbr).at_ (by simp; omega)
      clear hxx
      subst hAe
      have c0 := (HCC.out.below hbr).get (k := q) (v := chV chs[q]) (by simp [hqx])
      generalize hch : chs[q] = ch at *
      have hsr := hbr.size
      have hbAl : bA < wr.heap.size := by omega
      have HCI2 := Lib.hid hci.2.2
      have hlen0 := hci.1
      have hlen1 := hci.2.1
      have HB := Lib.hid (fun (W : World) (hw : Below wr.heap.size wr W) => hce.1.below (Below.trans hbr (hw.mono hsr)))
      have HOW := Lib.hid hOW
      have HCHM := Lib.hid hchm
      have HCHE := Lib.hid hch
      clear hci hce hOW hchm hch
      have HSZ := Lib.hid (fun (a : Int) (ha : a ∈ ch.l) => show ∃ (k : Nat) (p : Rod), a = (k : Int) ∧ rs[k]? = some p ∧ S.sizeI rs a = p.bar.b.size ∧ RodFit x p ∧ p ∈ rs from by
        obtain ⟨h1, h2⟩ := HCI2.out a ha
        have hk : a.toNat < rs.length := by have := HRL.out; omega
        exact ⟨a.toNat, rs[a.toNat], by omega, List.getElem?_eq_getElem hk, by unfold S.sizeI; rw [List.getElem?_eq_getElem hk], HRL2.out a.toNat hk, List.getElem_mem hk⟩)
      go_upto_region 14 with fail
      have hC14 := Blk.new wr 152 #[.slice ch.A ch.l.length ch.c, .int .i64 0, .int .i64 0, .bool false, .int .i64 0]
      have hb14 : Below wr.heap.size wr (wr.alloc (.cells #[.slice ch.A ch.l.length ch.c, .int .i64 0, .int .i64 0, .bool false, .int .i64 0] 152)) := ba_alloc (Below.refl _ _) _
      generalize (wr.alloc (.cells #[.slice ch.A ch.l.length ch.c, .int .i64 0, .int .i64 0, .bool false, .int .i64 0] 152)) = W14 at *
      have h14s := hb14.size
      have h14l := hC14.lt
      have hL14 := (HL3.out.via hbr).via hb14
      have hRd14 := (HR3.out.kept hbr).kept hb14
      have HRC := Lib.hid (show Cells W14 W14.heap.size A1 (rs.flatMap rodC) from (own_cells hRd14.own (by have := HRL.out; unfold maxLen; omega)).1)
      have HMF := Lib.hid (fun (W : World) (hw : Below W14.heap.size W14 W) => minf_any (S.sizeI rs) ch.A ch.l.length ch.c ch.l gl w3.heap.size W rfl hlen0 (by omega) (by have := hw.size; omega) (HB.out W (hb14.trans (hw.mono h14s))) (fun a b W' ha hb hw' => by
        obtain ⟨ka, pa, rfl, hpa, hsa, _, _⟩ := HSZ.out a ha
        obtain ⟨kb, pb, rfl, hpb, hsb, _, _⟩ := HSZ.out b hb
        have hwW := hw.trans (hw'.mono hw.size)
        rw [hsa, hsb]
        exact rcmp_any rs ka kb pa pb gl A1 rs.length c1 W14.heap.size W' hwW.size rfl hpa hpb ((hL14.via hwW).cell 0) (hL14.via hwW).lt (HRC.out.below hwW)))
      obtain ⟨km, pm, hkm, hpm, hsm, hfm, hpmm⟩ := HSZ.out (minBy (S.sizeI rs) ch.l) (by have := minBy_mem (S.sizeI rs) (xs := ch.l) (k := ch.l.length) hlen0 (Nat.le_refl _); rwa [List.take_length] at this)
      have HAR := Lib.hid (show S.steelArea (S.sizeI rs (minBy (S.sizeI rs) ch.l)) = S.steelArea pm.bar.b.size by rw [hsm])
      have HST := Lib.hid (fun W => steelArea_any pm.bar.b.size W (bar_size hfm.bar))
      rw [hkm] at HMF
      obtain ⟨hkmx, hkme⟩ := List.getElem?_eq_some_iff.1 hpm
      obtain ⟨b1, o1, hA1, hb1, hxx⟩ := HRC.out.at_ (by rw [flat_len rodC 7 rodC_len]; omega)
      clear hxx
      subst hA1
      have m1 := HRC.out.rowj rodC_len hkmx 1 rfl
      rw [hkme] at m1
      have hkmi : (km : Int) < (rs.length : Int) := by omega
      clear hkm hpm hsm hfm hpmm hkme hkmx
      generalize pm.bar.b.size = sz at *
      generalize S.steelArea sz = ar at *
      have l0 := hL14.cell 0
      have ll := hL14.lt
      simp only [List.getElem?_toArray, List.getElem?_cons_zero, List.getElem?_cons_succ] at l0
      go_upto_region 18 with (first
        | ((go_at_call 152; (with_reducible refine (HMF.out _ (by repeat (with_reducible first | exact Below.refl _ _ | assumption | refine ba_alloc ?_ _ | refine ba_drew ?_ | refine ba_drewN ?_ _ | refine ba_via (by assumption) ?_ | (refine ba_set ?_ ?_ _; rotate_left; (first | omega | (simp; omega) | simp))))).mono ?_); rintro e w4 ⟨rfl, hbw4⟩); have hb4l : b1 < w4.heap.size := (by have := hbw4.size; omega); have hgl4 : gl < w4.heap.size := (by have := hbw4.size; omega); have l04 := (hL14.via hbw4).cell 0; have m14 := (hbw4.cell (p := ⟨b1, o1 + km * 7 + 1, none⟩) hb1).trans m1; simp only [List.getElem?_toArray, List.getElem?_cons_zero, List.getElem?_cons_succ] at l04)
        | ((go_at_call 46; (with_reducible refine (HST.out _).mono ?_); rintro e w5 ⟨rfl, hbw5⟩); have hC5 := (hC14.via hbw4).via hbw5; have y4 := hC5.cell 4; have fr4 := hC5.frozen 4; have yl := hC5.lt; simp only [List.getElem?_toArray, List.getElem?_cons_zero, List.getElem?_cons_succ] at y4))
      have hb17 : Below wr.heap.size wr (w5.setCell ⟨wr.heap.size, 4, none⟩ (.int .i64 ar)) := ba_set (ba_via hbw5 (ba_via hbw4 hb14)) (Nat.le_refl _) _
      have hC17 := ((hC14.via hbw4).via hbw5).set 4 (.int .i64 ar)
      have hL17 := ((hL14.via hbw4).via hbw5).far (p := ⟨wr.heap.size, 4, none⟩) (by simp; omega) (.int .i64 ar)
      simp only [List.setIfInBounds_toArray, List.set_cons_zero, List.set_cons_succ] at hC17
      obtain ⟨ln, hln⟩ : ∃ ln : Nat, ch.l.length = ln + 1 := ⟨ch.l.length - 1, by omega⟩
      have hBI := HB.out _ hb17
      obtain ⟨bI, oI, hAI, hbI, hxx⟩ := hBI.at_ (by simp; omega)
      clear hxx
      rw [hAI] at hBI
      have i0 := hBI.get (k := 0) (i64s_get (xs := ch.l) (k := 0) (by omega))
      have i1 := hBI.get (k := ln) (i64s_get (xs := ch.l) (k := ln) (by omega))
      have HFA := Lib.hid (show ch.l[0] = ch.l.headD 0 by rw [List.headD_eq_head?_getD, List.head?_eq_getElem?, List.getElem?_eq_getElem (by omega)]; rfl)
      obtain ⟨ka, pa, hka, hpa, hsa, hfa, hpam⟩ := HSZ.out ch.l[0] (List.getElem_mem _)
      obtain ⟨kb, pb, hkb, hpb, hsb, hfb, hpbm⟩ := HSZ.out ch.l[ln] (List.getElem_mem _)
      rw [hka] at i0
      rw [hkb] at i1
      simp only [Nat.add_zero] at i0
      have HK := Lib.hid (show (ka : Int) = ch.l.headD 0 ∧ ch.l[ln]? = some (kb : Int) from ⟨hka.symm.trans HFA.out, by rw [List.getElem?_eq_getElem (by omega), hkb]⟩)
      clear hka hkb
      have hRd17 := (HR3.out.kept hbr).kept hb17
      have hRC17 := (own_cells hRd17.own (by have := HRL.out; unfold maxLen; omega)).1
      obtain ⟨hkax, hkae⟩ := List.getElem?_eq_some_iff.1 hpa
      obtain ⟨hkbx, hkbe⟩ := List.getElem?_eq_some_iff.1 hpb
      have aa0 := hRC17.row0 rodC_len hkax rfl
      have aa1 := hRC17.rowj rodC_len hkax 1 rfl
      have aa2 := hRC17.rowj rodC_len hkax 2 rfl
      have aa3 := hRC17.rowj rodC_len hkax 3 rfl
      have aa4 := hRC17.rowj rodC_len hkax 4 rfl
      have aa5 := hRC17.rowj rodC_len hkax 5 rfl
      have aa6 := hRC17.rowj rodC_len hkax 6 rfl
      rw [hkae] at aa0 aa1 aa2 aa3 aa4 aa5 aa6
      have bb0 := hRC17.row0 rodC_len hkbx rfl
      have bb1 := hRC17.rowj rodC_len hkbx 1 rfl
      have bb2 := hRC17.rowj rodC_len hkbx 2 rfl
      have bb3 := hRC17.rowj rodC_len hkbx 3 rfl
      have bb4 := hRC17.rowj rodC_len hkbx 4 rfl
      have bb5 := hRC17.rowj rodC_len hkbx 5 rfl
      have bb6 := hRC17.rowj rodC_len hkbx 6 rfl
      rw [hkbe] at bb0 bb1 bb2 bb3 bb4 bb5 bb6
      have l17 := hL17.cell 0
      have ll17 := hL17.lt
      simp only [List.getElem?_toArray, List.getElem?_cons_zero, List.getElem?_cons_succ] at l17
      have hkai : (ka : Int) < (rs.length : Int) := by omega
      have hkbi : (kb : Int) < (rs.length : Int) := by omega
      have hb1w : b1 < (w5.setCell ⟨wr.heap.size, 4, none⟩ (.int .i64 ar)).heap.size := by have h1 := hbw4.size; have h2 := hbw5.size; simp; omega
      have hbIw : bI < (w5.setCell ⟨wr.heap.size, 4, none⟩ (.int .i64 ar)).heap.size := by have := hb17.size; omega
      have HPA := Lib.hid hpa
      have HPB := Lib.hid hpb
      clear hbw4 hbw5 hb14 hC14 hL14 h14s h14l l0 ll m1 HRC HMF HST hRC17 hBI hpa hpb hsa hsb hkae hkbe hkax hkbx y4 fr4 yl hC5 hb4l hgl4 l04 m14
      unfold chV
      rw [hAI]
      generalize hlz : ch.l.length = lz
      have HLZ := Lib.hid hlz
      have e1 : IntKind.i64.wrap ((lz : Int) - 1) = (ln : Int) := by rw [show ((lz : Int) - 1) = (ln : Int) by omega]; exact IntWalk.i64_in _ (by omega)
      have e3 : (lz : Int) - 1 = (ln : Int) := by omega
      have hlni : (ln : Int) < (lz : Int) := by omega
      have hln0 : (0 : Int) < (lz : Int) := by omega
      have hlz3 : (lz : Int) ≤ 2002 := by omega
      have hlzN : 0 < lz := by omega
      have hlnN : ln < lz := by omega
      have hlz4 : lz ≠ 0 := by omega
      have e7 : IntKind.i64.wrap (ln : Int) = (ln : Int) := IntWalk.i64_in _ (by omega)
      have hlnz : (0 : Int) ≤ (ln : Int) := by omega
      have HLN := Lib.hid hln
      clear HFA hlz hln
      generalize hW17g : (w5.setCell ⟨wr.heap.size, 4, none⟩ (.int .i64 ar)) = W17 at *
      clear hW17g
      have hkeep : ∀ W', Below W17.heap.size W17 W' → W'.cell? ⟨gl, 0, none⟩ = some (.slice (some ⟨b1, o1, none⟩) rs.length c1) ∧ W'.cell? ⟨bI, oI, none⟩ = some (.int .i64 ka) ∧ W'.cell? ⟨bI, oI + ln, none⟩ = some (.int .i64 kb) ∧ W'.cell? ⟨b1, o1 + ka * 7, none⟩ = some (.string pa.bar.b.mark) ∧ W'.cell? ⟨b1, o1 + ka * 7 + 1, none⟩ = some (.int .i64 pa.bar.b.size) ∧ W'.cell? ⟨b1, o1 + ka * 7 + 2, none⟩ = some (.int .i64 pa.bar.b.count) ∧ W'.cell? ⟨b1, o1 + ka * 7 + 3, none⟩ = some (.int .i64 pa.bar.b.code) ∧ W'.cell? ⟨b1, o1 + ka * 7 + 4, none⟩ = some (.slice pa.bar.A pa.bar.n pa.bar.c) ∧ W'.cell? ⟨b1, o1 + ka * 7 + 5, none⟩ = some (.slice pa.A pa.legs.length pa.c) ∧ W'.cell? ⟨b1, o1 + ka * 7 + 6, none⟩ = some (.int .i64 pa.main) ∧ W'.cell? ⟨b1, o1 + kb * 7, none⟩ = some (.string pb.bar.b.mark) ∧ W'.cell? ⟨b1, o1 + kb * 7 + 1, none⟩ = some (.int .i64 pb.bar.b.size) ∧ W'.cell? ⟨b1, o1 + kb * 7 + 2, none⟩ = some (.int .i64 pb.bar.b.count) ∧ W'.cell? ⟨b1, o1 + kb * 7 + 3, none⟩ = some (.int .i64 pb.bar.b.code) ∧ W'.cell? ⟨b1, o1 + kb * 7 + 4, none⟩ = some (.slice pb.bar.A pb.bar.n pb.bar.c) ∧ W'.cell? ⟨b1, o1 + kb * 7 + 5, none⟩ = some (.slice pb.A pb.legs.length pb.c) ∧ W'.cell? ⟨b1, o1 + kb * 7 + 6, none⟩ = some (.int .i64 pb.main) := fun W' h => ⟨(h.cell (p := ⟨gl, 0, none⟩) ll17).trans l17, (h.cell (p := ⟨bI, oI, none⟩) hbIw).trans i0, (h.cell (p := ⟨bI, oI + ln, none⟩) hbIw).trans i1, (h.cell (p := ⟨b1, o1 + ka * 7, none⟩) hb1w).trans aa0, (h.cell (p := ⟨b1, o1 + ka * 7 + 1, none⟩) hb1w).trans aa1, (h.cell (p := ⟨b1, o1 + ka * 7 + 2, none⟩) hb1w).trans aa2, (h.cell (p := ⟨b1, o1 + ka * 7 + 3, none⟩) hb1w).trans aa3, (h.cell (p := ⟨b1, o1 + ka * 7 + 4, none⟩) hb1w).trans aa4, (h.cell (p := ⟨b1, o1 + ka * 7 + 5, none⟩) hb1w).trans aa5, (h.cell (p := ⟨b1, o1 + ka * 7 + 6, none⟩) hb1w).trans aa6, (h.cell (p := ⟨b1, o1 + kb * 7, none⟩) hb1w).trans bb0, (h.cell (p := ⟨b1, o1 + kb * 7 + 1, none⟩) hb1w).trans bb1, (h.cell (p := ⟨b1, o1 + kb * 7 + 2, none⟩) hb1w).trans bb2, (h.cell (p := ⟨b1, o1 + kb * 7 + 3, none⟩) hb1w).trans bb3, (h.cell (p := ⟨b1, o1 + kb * 7 + 4, none⟩) hb1w).trans bb4, (h.cell (p := ⟨b1, o1 + kb * 7 + 5, none⟩) hb1w).trans bb5, (h.cell (p := ⟨b1, o1 + kb * 7 + 6, none⟩) hb1w).trans bb6⟩
      go_cut [13, 14] from 65 to 79 (fun s13 s14 wx => ∃ gp gq : Nat, s13 = .pointer (some ⟨gp, 0, none⟩) ∧ s14 = .pointer (some ⟨gq, 0, none⟩) ∧ Blk wx gp 160 #[.string pa.bar.b.mark, .int .i64 pa.bar.b.size, .int .i64 pa.bar.b.count, .int .i64 pa.bar.b.code, .slice pa.bar.A pa.bar.n pa.bar.c, .slice pa.A pa.legs.length pa.c, .int .i64 pa.main] ∧ Blk wx gq 160 #[.string pb.bar.b.mark, .int .i64 pb.bar.b.size, .int .i64 pb.bar.b.count, .int .i64 pb.bar.b.code, .slice pb.bar.A pb.bar.n pb.bar.c, .slice pb.A pb.legs.length pb.c, .int .i64 pb.main] ∧ Below W17.heap.size W17 wx)
      case first =>
        go_region_held3 (fun W' => W'.cell? ⟨gl, 0, none⟩ = some (.slice (some ⟨b1, o1, none⟩) rs.length c1) ∧ W'.cell? ⟨bI, oI, none⟩ = some (.int .i64 ka) ∧ W'.cell? ⟨bI, oI + ln, none⟩ = some (.int .i64 kb) ∧ W'.cell? ⟨b1, o1 + ka * 7, none⟩ = some (.string pa.bar.b.mark) ∧ W'.cell? ⟨b1, o1 + ka * 7 + 1, none⟩ = some (.int .i64 pa.bar.b.size) ∧ W'.cell? ⟨b1, o1 + ka * 7 + 2, none⟩ = some (.int .i64 pa.bar.b.count) ∧ W'.cell? ⟨b1, o1 + ka * 7 + 3, none⟩ = some (.int .i64 pa.bar.b.code) ∧ W'.cell? ⟨b1, o1 + ka * 7 + 4, none⟩ = some (.slice pa.bar.A pa.bar.n pa.bar.c) ∧ W'.cell? ⟨b1, o1 + ka * 7 + 5, none⟩ = some (.slice pa.A pa.legs.length pa.c) ∧ W'.cell? ⟨b1, o1 + ka * 7 + 6, none⟩ = some (.int .i64 pa.main) ∧ W'.cell? ⟨b1, o1 + kb * 7, none⟩ = some (.string pb.bar.b.mark) ∧ W'.cell? ⟨b1, o1 + kb * 7 + 1, none⟩ = some (.int .i64 pb.bar.b.size) ∧ W'.cell? ⟨b1, o1 + kb * 7 + 2, none⟩ = some (.int .i64 pb.bar.b.count) ∧ W'.cell? ⟨b1, o1 + kb * 7 + 3, none⟩ = some (.int .i64 pb.bar.b.code) ∧ W'.cell? ⟨b1, o1 + kb * 7 + 4, none⟩ = some (.slice pb.bar.A pb.bar.n pb.bar.c) ∧ W'.cell? ⟨b1, o1 + kb * 7 + 5, none⟩ = some (.slice pb.A pb.legs.length pb.c) ∧ W'.cell? ⟨b1, o1 + kb * 7 + 6, none⟩ = some (.int .i64 pb.main)) (first | exact hkeep _ (by repeat (with_reducible first | exact Below.refl _ _ | assumption | refine ba_alloc ?_ _ | refine ba_drew ?_ | refine ba_drewN ?_ _ | refine ba_via (by assumption) ?_ | (refine ba_set ?_ ?_ _; rotate_left; (first | omega | (simp; omega) | simp))))) (fail)
        all_goals (
          go_wp2_with fail
          go_meet
          exact ⟨_, _, rfl, rfl, (by repeat (with_reducible first | (refine Blk.newN ?_ _ _; first | rfl | (simp; done) | (simp [World.setCell]; done)) | refine Blk.set7 ?_ _ _ _ _ _ _ _ | (refine Blk.far7 ?_ ?_ _ _ _ _ _ _ _; rotate_left; omega) | refine Blk.alloc ?_ _ | refine Blk.drew ?_ | refine Blk.via ?_ (by assumption) | (refine BlkE7.newN ?_ _ _ _ _ _ _ _ _; first | rfl | (simp; done) | (simp [World.setCell]; done)) | (refine BlkE7.far7 ?_ ?_ _ _ _ _ _ _ _; rotate_left; omega) | refine BlkE7.alloc ?_ _ | refine BlkE7.drew ?_ | refine BlkE7.via ?_ (by assumption))), (by repeat (with_reducible first | (refine Blk.newN ?_ _ _; first | rfl | (simp; done) | (simp [World.setCell]; done)) | refine Blk.set7 ?_ _ _ _ _ _ _ _ | (refine Blk.far7 ?_ ?_ _ _ _ _ _ _ _; rotate_left; omega) | refine Blk.alloc ?_ _ | refine Blk.drew ?_ | refine Blk.via ?_ (by assumption) | (refine BlkE7.newN ?_ _ _ _ _ _ _ _ _; first | rfl | (simp; done) | (simp [World.setCell]; done)) | (refine BlkE7.far7 ?_ ?_ _ _ _ _ _ _ _; rotate_left; omega) | refine BlkE7.alloc ?_ _ | refine BlkE7.drew ?_ | refine BlkE7.via ?_ (by assumption))), (by repeat (with_reducible first | exact Below.refl _ _ | assumption | refine ba_alloc ?_ _ | refine ba_drew ?_ | refine ba_drewN ?_ _ | refine ba_via (by assumption) ?_ | (refine ba_set ?_ ?_ _; rotate_left; (first | omega | (simp; omega) | simp))))⟩)
      case rest =>
        obtain ⟨gp, gq, rfl, rfl, hP, hQ, hbc⟩ := hcut
        have HAI := Lib.hid hAI
        clear hAI
        have hCc := hC17.via hbc
        have hDc := ((HD3.out.via hbr).via hb17).via hbc
        have hbwc : Below wr.heap.size wr wc := hb17.trans (hbc.mono hb17.size)
        have hww : Below w.heap.size w wc := (hW3.trans (hbr.mono hW3.size)).trans (hbwc.mono (by have := hW3.size; omega))
        have HRdc := Lib.hid (hRd17.kept hbc)
        have HDA := Lib.hid (DtAt.wide (HA.out.at_ hB hww) (size_via hB hww))
        have HFIN := Lib.hid (fun (i : Nat) (hiq : i = q) (hj : i < C.length) (lo hi : Int) (b : Bool) (hs : (lo, hi, b) = S.spanOf x pa pb) => show SchOk x rs C[i] ⟨ch.A, ch.c, ch.l, lo, hi, b, ar⟩ from by
          subst hiq
          refine ⟨HCQ.out.symm, by rw [HCQ.out]; exact HAR.out.symm, pa, pb, ?_, ?_, hs⟩
          · rw [HCQ.out, ← HK.out.1]; exact HPA.out
          · rw [HCQ.out, List.getLastD_eq_getLast?, List.getLast?_eq_getElem?]
            have h2 := HK.out.2
            have h3 := HLN.out
            have h4 := HLZ.out
            rw [show ch.l.length - 1 = ln by omega, h2]
            exact HPB.out)
        have HFA := Lib.hid hfa
        have HFB := Lib.hid hfb
        have HPAM := Lib.hid (HRdc.out.each pa hpam).cells
        have HPBM := Lib.hid (HRdc.out.each pb hpbm).cells
        try clear HRdc; try clear hRd17; try clear hfa; try clear hfb; try clear hpam; try clear hpbm; try clear hkeep; try clear aa0; try clear aa1; try clear aa2; try clear aa3; try clear aa4; try clear aa5; try clear aa6; try clear bb0; try clear bb1; try clear bb2; try clear bb3; try clear bb4; try clear bb5; try clear bb6; try clear i0; try clear i1; try clear l17; try clear ll17; try clear HSZ; try clear HB; try clear HCI2; try clear HCE; try clear HL3; try clear HR3; try clear HNC; try clear HRL; try clear HOK; try clear HRL2; try clear hL17; try clear hgl; try clear hkai; try clear hkbi; try clear hb1w; try clear hbIw; try clear e1; try clear e3; try clear e7; try clear hln0; try clear hlz3; try clear hlzN; try clear hlnN; try clear hlz4; try clear hlnz; try clear hlni; try clear hbAl; try clear c0; try clear hlen0; try clear hlen1; try clear hkmi; try clear hb1; try clear hbI; try clear hgl
        have p5 := hP.cell 5
        have p6 := hP.cell 6
        have q5 := hQ.cell 5
        have q6 := hQ.cell 6
        have pl := hP.lt
        have ql := hQ.lt
        have dl := hDc.lt
        simp only [List.getElem?_toArray, List.getElem?_cons_zero, List.getElem?_cons_succ] at p5 p6 q5 q6
        by_cases h1 : pa.main < 0
        · have h1' : ¬ ((0 : Int) ≤ pa.main) := by omega
          go_upto_region 29 with fail
          have hCt := hCc
          have hbt := hbwc
          have HSP := Lib.hid (show ((0 : Int), (0 : Int), false) = S.spanOf x pa pb from by unfold S.spanOf; rw [if_pos h1])
          have t0 := hCt.cell 0
          have t1 := hCt.cell 1
          have t2 := hCt.cell 2
          have t3 := hCt.cell 3
          have t4 := hCt.cell 4
          have tl := hCt.lt
          simp only [List.getElem?_toArray, List.getElem?_cons_zero, List.getElem?_cons_succ] at t0 t1 t2 t3 t4
          have hOWt := own_kept HOW.out (fun k hk => hbt.block k (HOW.out.lt k hk).2)
          have hcl9 := hcl.out
          have hbE1 : w3.heap.size ≤ wc.heap.size := by have := hbt.size; omega
          have hcsl : cs.length ≤ 2000 := by omega
          have HBT := Lib.hid hbt
          have HOWT := Lib.hid hOWt
          clear hbt hOWt hCt
          go_wp2_with (at_builtin; refine wpList_push rfl (.tmp 141) (.tmp 143) _ rfl elemSch ((show Row wc wc u8.ownBlock w3.heap.size 152 5 u8 cs.length (cs.flatMap schC) from ⟨HOWT.out, fun k hk => .inl hk.symm⟩).alloc _) ((Exc.refl u8.ownBlock.toList wc).alloc _) (by intro k hk; simp [hk]) hbE1 rfl wc.heap.size 1 1 [.slice ch.A ch.l.length ch.c, .int .i64 (0), .int .i64 (0), .bool false, .int .i64 ar] rfl rfl ?_ (by simp [Value.oneCell']) (by unfold maxLen; omega) (by omega) ?_; (· intro j u hu; have := (Cells.newRow wc #[.slice ch.A ch.l.length ch.c, .int .i64 (0), .int .i64 (0), .bool false, .int .i64 ar] 152 (0, 0)).get (k := j) (v := u) hu; simpa using this); intro v2 wE hRE hXE hOE)
          have hown := hRE.own
          rw [show ([.slice ch.A ch.l.length ch.c, .int .i64 (0), .int .i64 (0), .bool false, .int .i64 ar] : List Value) = schC ⟨ch.A, ch.c, ch.l, 0, 0, false, ar⟩ from rfl] at hown
          have hbE : Below w3.heap.size w3 wE := (hbr.trans (HBT.out.mono hsr)).trans (hXE.below (by omega) (fun g hg => (HOWT.out.lt g (by simpa using hg)).1))
          go_roundw
          case rel =>
            refine ⟨q + 1, cs ++ [⟨ch.A, ch.c, ch.l, 0, 0, false, ar⟩], by omega, by go_num, rfl, Lib.hid (by simp; omega), Lib.hid (fun i hi hj => ?_), Lib.hid (fun c hc => ?_), by simpa using hown, hbE⟩
            · by_cases hiq : i < cs.length
              · rw [List.getElem_append_left hiq]
                exact hcok.out i hiq hj
              · have hi2 : i = cs.length := by simp at hi; omega
                subst hi2
                rw [List.getElem_append_right (Nat.le_refl _)]
                simp only [Nat.sub_self, List.getElem_cons_zero]
                exact HFIN.out cs.length hcl9 hj _ _ _ HSP.out
            · rcases List.mem_append.1 hc with hc | hc
              · exact hcin.out c hc
              · rw [List.mem_singleton] at hc
                subst hc
                exact ⟨ch, HCHM.out, rfl, rfl⟩
          case measure => simp [intOf]; omega
        · have h1' : (0 : Int) ≤ pa.main := by omega
          by_cases h2 : pb.main < 0
          · have h2' : ¬ ((0 : Int) ≤ pb.main) := by omega
            go_upto_region 29 with fail
            have hCt := hCc
            have hbt := hbwc
            have HSP := Lib.hid (show ((0 : Int), (0 : Int), false) = S.spanOf x pa pb from by unfold S.spanOf; rw [if_neg (by omega), if_pos h2])
            have t0 := hCt.cell 0
            have t1 := hCt.cell 1
            have t2 := hCt.cell 2
            have t3 := hCt.cell 3
            have t4 := hCt.cell 4
            have tl := hCt.lt
            simp only [List.getElem?_toArray, List.getElem?_cons_zero, List.getElem?_cons_succ] at t0 t1 t2 t3 t4
            have hOWt := own_kept HOW.out (fun k hk => hbt.block k (HOW.out.lt k hk).2)
            have hcl9 := hcl.out
            have hbE1 : w3.heap.size ≤ wc.heap.size := by have := hbt.size; omega
            have hcsl : cs.length ≤ 2000 := by omega
            have HBT := Lib.hid hbt
            have HOWT := Lib.hid hOWt
            clear hbt hOWt hCt
            go_wp2_with (at_builtin; refine wpList_push rfl (.tmp 141) (.tmp 143) _ rfl elemSch ((show Row wc wc u8.ownBlock w3.heap.size 152 5 u8 cs.length (cs.flatMap schC) from ⟨HOWT.out, fun k hk => .inl hk.symm⟩).alloc _) ((Exc.refl u8.ownBlock.toList wc).alloc _) (by intro k hk; simp [hk]) hbE1 rfl wc.heap.size 1 1 [.slice ch.A ch.l.length ch.c, .int .i64 (0), .int .i64 (0), .bool false, .int .i64 ar] rfl rfl ?_ (by simp [Value.oneCell']) (by unfold maxLen; omega) (by omega) ?_; (· intro j u hu; have := (Cells.newRow wc #[.slice ch.A ch.l.length ch.c, .int .i64 (0), .int .i64 (0), .bool false, .int .i64 ar] 152 (0, 0)).get (k := j) (v := u) hu; simpa using this); intro v2 wE hRE hXE hOE)
            have hown := hRE.own
            rw [show ([.slice ch.A ch.l.length ch.c, .int .i64 (0), .int .i64 (0), .bool false, .int .i64 ar] : List Value) = schC ⟨ch.A, ch.c, ch.l, 0, 0, false, ar⟩ from rfl] at hown
            have hbE : Below w3.heap.size w3 wE := (hbr.trans (HBT.out.mono hsr)).trans (hXE.below (by omega) (fun g hg => (HOWT.out.lt g (by simpa using hg)).1))
            go_roundw
            case rel =>
              refine ⟨q + 1, cs ++ [⟨ch.A, ch.c, ch.l, 0, 0, false, ar⟩], by omega, by go_num, rfl, Lib.hid (by simp; omega), Lib.hid (fun i hi hj => ?_), Lib.hid (fun c hc => ?_), by simpa using hown, hbE⟩
              · by_cases hiq : i < cs.length
                · rw [List.getElem_append_left hiq]
                  exact hcok.out i hiq hj
                · have hi2 : i = cs.length := by simp at hi; omega
                  subst hi2
                  rw [List.getElem_append_right (Nat.le_refl _)]
                  simp only [Nat.sub_self, List.getElem_cons_zero]
                  exact HFIN.out cs.length hcl9 hj _ _ _ HSP.out
              · rcases List.mem_append.1 hc with hc | hc
                · exact hcin.out c hc
                · rw [List.mem_singleton] at hc
                  subst hc
                  exact ⟨ch, HCHM.out, rfl, rfl⟩
            case measure => simp [intOf]; omega
          · have h2' : (0 : Int) ≤ pb.main := by omega
            have HE1 := Lib.hid (fun (W : World) (hw : Below wc.heap.size wc W) => ends_rod x pa wc.heap.size W hw.size (HDA.out.at_ (Nat.le_refl _) hw) (HPAM.out.below hw) HFA.out hr hm h1')
            have HE2 := Lib.hid (fun (W : World) (hw : Below wc.heap.size wc W) => ends_rod x pb wc.heap.size W hw.size (HDA.out.at_ (Nat.le_refl _) hw) (HPBM.out.below hw) HFB.out hr hm h2')
            obtain ⟨ja, hja, hjae, hjam⟩ := idxf_some (xs := pa.legs) (p := S.isMainB) (by rw [← HFA.out.main]; exact h1')
            obtain ⟨jb, hjb, hjbe, hjbm⟩ := idxf_some (xs := pb.legs) (p := S.isMainB) (by rw [← HFB.out.main]; exact h2')
            have hma : pa.main = (ja : Int) := HFA.out.main.trans hjae
            have hmb : pb.main = (jb : Int) := HFB.out.main.trans hjbe
            have hLa : S.legOf pa = pa.legs[ja] := by unfold S.legOf; rw [hma]; simp [List.getD_eq_getElem?_getD, hja]
            have hLb : S.legOf pb = pb.legs[jb] := by unfold S.legOf; rw [hmb]; simp [List.getD_eq_getElem?_getD, hjb]
            have HG1 := Lib.hid (fun (W : World) (hw : Below wc.heap.size wc W) => rleg_any pa ja (S.legOf pa) wc.heap.size W hw.size (by rw [hLa]; exact List.getElem?_eq_getElem hja) hma (HPAM.out.below hw))
            have HG2 := Lib.hid (fun (W : World) (hw : Below wc.heap.size wc W) => rleg_any pb jb (S.legOf pb) wc.heap.size W hw.size (by rw [hLb]; exact List.getElem?_eq_getElem hjb) hmb (HPBM.out.below hw))
            have hba := boxOk_x (HFA.out.legs _ (List.getElem_mem hja))
            have hbb := boxOk_x (HFB.out.legs _ (List.getElem_mem hjb))
            rw [← hLa] at hba
            rw [← hLb] at hbb
            have hlowa := endLen_bd x pa hr HFA.out (S.legOf pa).lo
            have hupb := endLen_bd x pb hr HFB.out (S.legOf pb).hi
            change 0 ≤ S.lowOf x pa ∧ S.lowOf x pa ≤ 40000000000 at hlowa
            change 0 ≤ S.upOf x pb ∧ S.upOf x pb ≤ 40000000000 at hupb
            have HSPE := Lib.hid (show S.spanOf x pa pb = if (S.legOf pa).lo.x + S.lowOf x pa < (S.legOf pb).hi.x - S.upOf x pb then ((S.legOf pa).lo.x + S.lowOf x pa, (S.legOf pb).hi.x - S.upOf x pb, true) else (0, 0, false) by unfold S.spanOf; rw [if_neg h1, if_neg h2])
            unfold ruleV memV barV at HE1 HE2
            unfold boxV rodV at HG1 HG2
            clear hja hjae hjam hjb hjbe hjbm hLa hLb hma hmb
            generalize S.legOf pa = La at *
            generalize S.legOf pb = Lb at *
            generalize S.lowOf x pa = ea at *
            generalize S.upOf x pb = eb at *
            generalize S.upOf x pa = ea' at *
            generalize S.lowOf x pb = eb' at *
            have a1 : -1048576 ≤ La.lo.x := hba.1
            have a2 : La.lo.x ≤ 1048576 := by omega
            have a3 : -1048576 ≤ Lb.hi.x := by omega
            have a4 : Lb.hi.x ≤ 1048576 := hbb.2.2
            have a5 := hlowa.1
            have a6 := hlowa.2
            have a7 := hupb.1
            have a8 := hupb.2
            have e21 : IntKind.i64.wrap (La.lo.x + ea) = La.lo.x + ea := IntWalk.i64_in _ (by omega)
            have e22 : IntKind.i64.wrap (Lb.hi.x - eb) = Lb.hi.x - eb := IntWalk.i64_in _ (by omega)
            clear hba hbb hlowa hupb
            have HRR := Lib.hid (fun (W : World) (hw : Below wc.heap.size wc W) => Blk.mid (hDc.via hw) 10 [.int .i64 x.rule.num, .int .i64 x.rule.den, .int .i64 x.rule.pnum, .int .i64 x.rule.pden, .int .i64 x.rule.bnum, .int .i64 x.rule.bden, .int .i64 x.rule.lnum, .int .i64 x.rule.lden, .int .i64 x.rule.least] rfl)
            have HRM := Lib.hid (fun (W : World) (hw : Below wc.heap.size wc W) => Blk.mid (hDc.via hw) 0 [.string x.m.name, .slice x.mA x.mn x.mc, .slice x.hA x.hn x.hc, .int .i64 x.m.cover, .int .i64 x.m.aggr, .int .i64 x.m.poker] rfl)
            have HRP := Lib.hid (fun (W : World) (hw : Below wc.heap.size wc W) => Blk.mid (hP.via hw) 0 [.string pa.bar.b.mark, .int .i64 pa.bar.b.size, .int .i64 pa.bar.b.count, .int .i64 pa.bar.b.code, .slice pa.bar.A pa.bar.n pa.bar.c] rfl)
            have HRQ := Lib.hid (fun (W : World) (hw : Below wc.heap.size wc W) => Blk.mid (hQ.via hw) 0 [.string pb.bar.b.mark, .int .i64 pb.bar.b.size, .int .i64 pb.bar.b.count, .int .i64 pb.bar.b.code, .slice pb.bar.A pb.bar.n pb.bar.c] rfl)
            have HRPL := Lib.hid (fun (W : World) (hw : Below wc.heap.size wc W) => Blk.mid (hP.via hw) 5 [.slice pa.A pa.legs.length pa.c] rfl)
            have HRQL := Lib.hid (fun (W : World) (hw : Below wc.heap.size wc W) => Blk.mid (hQ.via hw) 5 [.slice pb.A pb.legs.length pb.c] rfl)
            have HP := Lib.hid hP
            have HQ := Lib.hid hQ
            have HDc := Lib.hid hDc
            have HCc := Lib.hid hCc
            clear hP hQ hDc hCc hC17
            go_upto_region 26 with (first
              | ((with_reducible refine at_load 32 89 ?_); refine wpList_load_mid rfl 32 (.tmp 89) rfl _ _ rfl _ _ (HRR.out _ (by repeat (with_reducible first | exact Below.refl _ _ | assumption | refine ba_alloc ?_ _ | refine ba_drew ?_ | refine ba_drewN ?_ _ | refine ba_via (by assumption) ?_ | (refine ba_set ?_ ?_ _; rotate_left; (first | omega | (simp; omega) | simp))))) Tryz.underlying32 rfl (by kernel_rfl) ?_)
              | ((with_reducible refine at_load 26 91 ?_); refine wpList_load_mid rfl 26 (.tmp 91) rfl _ _ rfl _ _ (HRM.out _ (by repeat (with_reducible first | exact Below.refl _ _ | assumption | refine ba_alloc ?_ _ | refine ba_drew ?_ | refine ba_drewN ?_ _ | refine ba_via (by assumption) ?_ | (refine ba_set ?_ ?_ _; rotate_left; (first | omega | (simp; omega) | simp))))) Tryz.underlying26 rfl (by kernel_rfl) ?_)
              | ((with_reducible refine at_load 158 93 ?_); refine wpList_load_mid rfl 158 (.tmp 93) rfl _ _ rfl _ _ (HRP.out _ (by repeat (with_reducible first | exact Below.refl _ _ | assumption | refine ba_alloc ?_ _ | refine ba_drew ?_ | refine ba_drewN ?_ _ | refine ba_via (by assumption) ?_ | (refine ba_set ?_ ?_ _; rotate_left; (first | omega | (simp; omega) | simp))))) Tryz.underlying158 rfl (by kernel_rfl) ?_)
              | ((go_at_call 155; (with_reducible refine (HE1.out _ (by repeat (with_reducible first | exact Below.refl _ _ | assumption | refine ba_alloc ?_ _ | refine ba_drew ?_ | refine ba_drewN ?_ _ | refine ba_via (by assumption) ?_ | (refine ba_set ?_ ?_ _; rotate_left; (first | omega | (simp; omega) | simp))))).mono ?_); rintro e w6 ⟨rfl, hbw6⟩); have q56 := (HQ.out.via hbw6).cell 5; have ql6 := (HQ.out.via hbw6).lt; simp only [List.getElem?_toArray, List.getElem?_cons_zero, List.getElem?_cons_succ] at q56)
              | ((with_reducible refine at_load 32 105 ?_); refine wpList_load_mid rfl 32 (.tmp 105) rfl _ _ rfl _ _ (HRR.out _ (by repeat (with_reducible first | exact Below.refl _ _ | assumption | refine ba_alloc ?_ _ | refine ba_drew ?_ | refine ba_drewN ?_ _ | refine ba_via (by assumption) ?_ | (refine ba_set ?_ ?_ _; rotate_left; (first | omega | (simp; omega) | simp))))) Tryz.underlying32 rfl (by kernel_rfl) ?_)
              | ((with_reducible refine at_load 26 107 ?_); refine wpList_load_mid rfl 26 (.tmp 107) rfl _ _ rfl _ _ (HRM.out _ (by repeat (with_reducible first | exact Below.refl _ _ | assumption | refine ba_alloc ?_ _ | refine ba_drew ?_ | refine ba_drewN ?_ _ | refine ba_via (by assumption) ?_ | (refine ba_set ?_ ?_ _; rotate_left; (first | omega | (simp; omega) | simp))))) Tryz.underlying26 rfl (by kernel_rfl) ?_)
              | ((with_reducible refine at_load 158 109 ?_); refine wpList_load_mid rfl 158 (.tmp 109) rfl _ _ rfl _ _ (HRQ.out _ (by repeat (with_reducible first | exact Below.refl _ _ | assumption | refine ba_alloc ?_ _ | refine ba_drew ?_ | refine ba_drewN ?_ _ | refine ba_via (by assumption) ?_ | (refine ba_set ?_ ?_ _; rotate_left; (first | omega | (simp; omega) | simp))))) Tryz.underlying158 rfl (by kernel_rfl) ?_)
              | (go_at_call 155; (with_reducible refine (HE2.out _ (by repeat (with_reducible first | exact Below.refl _ _ | assumption | refine ba_alloc ?_ _ | refine ba_drew ?_ | refine ba_drewN ?_ _ | refine ba_via (by assumption) ?_ | (refine ba_set ?_ ?_ _; rotate_left; (first | omega | (simp; omega) | simp))))).mono ?_); rintro e w7 ⟨rfl, hbw7⟩))
            have hb7 : Below wc.heap.size wc w7 := ba_via hbw7 hbw6
            have HP7 := Lib.hid (HP.out.via hb7)
            have HQ7 := Lib.hid (HQ.out.via hb7)
            have HC7 := Lib.hid (HCc.out.via hb7)
            have h7s := hb7.size
            have hb27 : Below wr.heap.size wr w7 := hbwc.trans (hb7.mono hbwc.size)
            clear HE1 HE2 HRR HRM HRP HRQ HRPL HRQL q56 ql6 p5 p6 q5 q6 HPAM HPBM
            have HG1' := Lib.hid (fun (W : World) (hw : Below w7.heap.size w7 W) => HG1.out W (hb7.trans (hw.mono h7s)))
            have HG2' := Lib.hid (fun (W : World) (hw : Below w7.heap.size w7 W) => HG2.out W (hb7.trans (hw.mono h7s)))
            clear HG1 HG2 HP HQ HCc HDc HDA hb7 hbw7 hbw6
            have F1 : ∀ W, Sem.run Tryz.prog (Instr.field 89 (.agg #[.int .i64 La.lo.x, .int .i64 La.lo.y, .int .i64 La.lo.z, .int .i64 La.hi.x, .int .i64 La.hi.y, .int .i64 La.hi.z]) 0) W = .ok (.agg #[.int .i64 La.lo.x, .int .i64 La.lo.y, .int .i64 La.lo.z]) W := fun W => by kernel_rfl
            have F2 : ∀ W, Sem.run Tryz.prog (Instr.field 87 (.agg #[.int .i64 La.lo.x, .int .i64 La.lo.y, .int .i64 La.lo.z]) 0) W = .ok (.int .i64 La.lo.x) W := fun W => by kernel_rfl
            have F3 : ∀ W, Sem.run Tryz.prog (Instr.field 89 (.agg #[.int .i64 Lb.lo.x, .int .i64 Lb.lo.y, .int .i64 Lb.lo.z, .int .i64 Lb.hi.x, .int .i64 Lb.hi.y, .int .i64 Lb.hi.z]) 1) W = .ok (.agg #[.int .i64 Lb.hi.x, .int .i64 Lb.hi.y, .int .i64 Lb.hi.z]) W := fun W => by kernel_rfl
            have F4 : ∀ W, Sem.run Tryz.prog (Instr.field 87 (.agg #[.int .i64 Lb.hi.x, .int .i64 Lb.hi.y, .int .i64 Lb.hi.z]) 0) W = .ok (.int .i64 Lb.hi.x) W := fun W => by kernel_rfl
            refine wp_region_mixF 5 [1, 5] [] _ 45 #[.int .i64 0, .int .i64 0] (by kernel_rfl) (by kernel_rfl) (of_decide_eq_true (by kernel_rfl)) rfl rfl (fun _ _ => by kernel_rfl) (by intro c a d v w h; cases d <;> exact h) ?_
            try simp only [wpSegsF, List.take_succ_cons, List.take_zero, List.drop_succ_cons, List.drop_zero, List.take_nil, List.drop_nil]
            repeat (first | (refine quietLoad (by rfl) 160 (.tmp 13) rfl _ _ rfl _ _ (quietBy fun W hw => (HP7.out.via hw).range) Tryz.underlying160 rfl (by kernel_rfl) ?_; intro aQ hQ; simp only [go_sem, List.setIfInBounds_toArray, List.set_cons_succ, List.set_cons_zero] at hQ; subst hQ) | go_big_quiet_step (fail))
            refine wpQuiet_nil ?_
            intro wA hCA hGA
            have hbA : Below w7.heap.size w7 wA := hCA
            clear hCA hGA
            go_wp2_with ((go_at_call 90; (with_reducible refine (HG1'.out _ hbA).mono ?_); rintro e w8 ⟨rfl, hbw8⟩))
            refine segF_next (show Below _ _ _ from (by repeat (with_reducible first | exact Below.refl _ _ | assumption | refine ba_alloc ?_ _ | refine ba_drew ?_ | refine ba_drewN ?_ _ | refine ba_via (by assumption) ?_ | (refine ba_set ?_ ?_ _; rotate_left; (first | omega | (simp; omega) | simp))))) ?_
            try simp only [wpSegsF, List.take_succ_cons, List.take_zero, List.drop_succ_cons, List.drop_zero, List.take_nil, List.drop_nil]
            repeat (first | (refine quietLoad (by rfl) 160 (.tmp 14) rfl _ _ rfl _ _ (quietBy fun W hw => (HQ7.out.via hw).range) Tryz.underlying160 rfl (by kernel_rfl) ?_; intro aQ hQ; simp only [go_sem, List.setIfInBounds_toArray, List.set_cons_succ, List.set_cons_zero] at hQ; subst hQ) | go_big_quiet_step (fail))
            refine wpQuiet_nil ?_
            intro wB hCB hGB
            have hbB : Below w7.heap.size w7 wB := hCB
            clear hCB hGB hbw8 hbA
            go_wp2_with ((go_at_call 90; (with_reducible refine (HG2'.out _ hbB).mono ?_); rintro e w9 ⟨rfl, hbw9⟩))
            refine segF_next (show Below _ _ _ from (by repeat (with_reducible first | exact Below.refl _ _ | assumption | refine ba_alloc ?_ _ | refine ba_drew ?_ | refine ba_drewN ?_ _ | refine ba_via (by assumption) ?_ | (refine ba_set ?_ ?_ _; rotate_left; (first | omega | (simp; omega) | simp))))) ?_
            try simp only [wpSegsF, endAt, List.take_succ_cons, List.take_zero, List.drop_succ_cons, List.drop_zero, List.take_nil, List.drop_nil]
            repeat (go_big_quiet_step (fail))
            refine wpQuiet_nil ?_
            intro g20 wD hOwD hGwD hLg20 hKg20
            try simp only [endAt, List.drop_succ_cons, List.drop_zero, Nat.reduceAdd]
            have hbD : Below w7.heap.size w7 wD := hOwD
            have hg20 : w7.heap.size ≤ g20 := hLg20
            have hKD : Blk wD g20 45 #[.int .i64 0, .int .i64 0] := hKg20
            clear hOwD hGwD hLg20 hKg20 hbw9 hbB F1 F2 F3 F4 HG1' HG2'
            have k0 := hKD.cell 0
            have k1 := hKD.cell 1
            have kf0 := hKD.frozen 0
            have kf1 := hKD.frozen 1
            have kl := hKD.lt
            try simp only [List.getElem?_toArray, List.getElem?_cons_zero, List.getElem?_cons_succ] at k0 k1
            have hS20 := (hKD.set 0 (.int .i64 (La.lo.x + ea))).set 1 (.int .i64 (Lb.hi.x - eb))
            simp only [List.setIfInBounds_toArray, List.set_cons_zero, List.set_cons_succ] at hS20
            have hb209 : Below w7.heap.size w7 ((wD.setCell ⟨g20, 0, none⟩ (.int .i64 (La.lo.x + ea))).setCell ⟨g20, 1, none⟩ (.int .i64 (Lb.hi.x - eb))) := ba_set (ba_set hbD hg20 _) hg20 _
            have hC20 := HC7.out.via hb209
            have hb20 : Below wr.heap.size wr ((wD.setCell ⟨g20, 0, none⟩ (.int .i64 (La.lo.x + ea))).setCell ⟨g20, 1, none⟩ (.int .i64 (Lb.hi.x - eb))) := hb27.trans (hb209.mono hb27.size)
            go_upto_region 27 with fail
            generalize ((wD.setCell ⟨g20, 0, none⟩ (.int .i64 (La.lo.x + ea))).setCell ⟨g20, 1, none⟩ (.int .i64 (Lb.hi.x - eb))) = W20 at *
            clear k0 k1 kf0 kf1 kl hKD hb209 HP7 HQ7
            have x0 := hS20.cell 0
            have x1 := hS20.cell 1
            have xl := hS20.lt
            have c1x := hC20.cell 1
            have c2x := hC20.cell 2
            have c3x := hC20.cell 3
            have cf1 := hC20.frozen 1
            have cf2 := hC20.frozen 2
            have cf3 := hC20.frozen 3
            have clx := hC20.lt
            simp only [List.getElem?_toArray, List.getElem?_cons_zero, List.getElem?_cons_succ] at x0 x1 c1x c2x c3x
            by_cases h3 : La.lo.x + ea < Lb.hi.x - eb
            · have hCt := ((hC20.set 1 (.int .i64 (La.lo.x + ea))).set 2 (.int .i64 (Lb.hi.x - eb))).set 3 (.bool true)
              simp only [List.setIfInBounds_toArray, List.set_cons_zero, List.set_cons_succ] at hCt
              have hbt : Below wr.heap.size wr (((W20.setCell ⟨wr.heap.size, 1, none⟩ (.int .i64 (La.lo.x + ea))).setCell ⟨wr.heap.size, 2, none⟩ (.int .i64 (Lb.hi.x - eb))).setCell ⟨wr.heap.size, 3, none⟩ (.bool true)) := ba_set (ba_set (ba_set hb20 (Nat.le_refl _) _) (Nat.le_refl _) _) (Nat.le_refl _) _
              go_upto_region 29 with fail
              generalize (((W20.setCell ⟨wr.heap.size, 1, none⟩ (.int .i64 (La.lo.x + ea))).setCell ⟨wr.heap.size, 2, none⟩ (.int .i64 (Lb.hi.x - eb))).setCell ⟨wr.heap.size, 3, none⟩ (.bool true)) = W28 at *
              clear c1x c2x c3x cf1 cf2 cf3 clx x0 x1 xl hS20 hC20 hb20
              have HSP := Lib.hid (show ((La.lo.x + ea : Int), (Lb.hi.x - eb : Int), true) = S.spanOf x pa pb from by rw [HSPE.out, if_pos h3])
              have t0 := hCt.cell 0
              have t1 := hCt.cell 1
              have t2 := hCt.cell 2
              have t3 := hCt.cell 3
              have t4 := hCt.cell 4
              have tl := hCt.lt
              simp only [List.getElem?_toArray, List.getElem?_cons_zero, List.getElem?_cons_succ] at t0 t1 t2 t3 t4
              have hOWt := own_kept HOW.out (fun k hk => hbt.block k (HOW.out.lt k hk).2)
              have hcl9 := hcl.out
              have hbE1 : w3.heap.size ≤ W28.heap.size := by have := hbt.size; omega
              have hcsl : cs.length ≤ 2000 := by omega
              have HBT := Lib.hid hbt
              have HOWT := Lib.hid hOWt
              clear hbt hOWt hCt
              go_wp2_with (at_builtin; refine wpList_push rfl (.tmp 141) (.tmp 143) _ rfl elemSch ((show Row W28 W28 u8.ownBlock w3.heap.size 152 5 u8 cs.length (cs.flatMap schC) from ⟨HOWT.out, fun k hk => .inl hk.symm⟩).alloc _) ((Exc.refl u8.ownBlock.toList W28).alloc _) (by intro k hk; simp [hk]) hbE1 rfl W28.heap.size 1 1 [.slice ch.A ch.l.length ch.c, .int .i64 (La.lo.x + ea), .int .i64 (Lb.hi.x - eb), .bool true, .int .i64 ar] rfl rfl ?_ (by simp [Value.oneCell']) (by unfold maxLen; omega) (by omega) ?_; (· intro j u hu; have := (Cells.newRow W28 #[.slice ch.A ch.l.length ch.c, .int .i64 (La.lo.x + ea), .int .i64 (Lb.hi.x - eb), .bool true, .int .i64 ar] 152 (0, 0)).get (k := j) (v := u) hu; simpa using this); intro v2 wE hRE hXE hOE)
              have hown := hRE.own
              rw [show ([.slice ch.A ch.l.length ch.c, .int .i64 (La.lo.x + ea), .int .i64 (Lb.hi.x - eb), .bool true, .int .i64 ar] : List Value) = schC ⟨ch.A, ch.c, ch.l, La.lo.x + ea, Lb.hi.x - eb, true, ar⟩ from rfl] at hown
              have hbE : Below w3.heap.size w3 wE := (hbr.trans (HBT.out.mono hsr)).trans (hXE.below (by omega) (fun g hg => (HOWT.out.lt g (by simpa using hg)).1))
              go_roundw
              case rel =>
                refine ⟨q + 1, cs ++ [⟨ch.A, ch.c, ch.l, La.lo.x + ea, Lb.hi.x - eb, true, ar⟩], by omega, by go_num, rfl, Lib.hid (by simp; omega), Lib.hid (fun i hi hj => ?_), Lib.hid (fun c hc => ?_), by simpa using hown, hbE⟩
                · by_cases hiq : i < cs.length
                  · rw [List.getElem_append_left hiq]
                    exact hcok.out i hiq hj
                  · have hi2 : i = cs.length := by simp at hi; omega
                    subst hi2
                    rw [List.getElem_append_right (Nat.le_refl _)]
                    simp only [Nat.sub_self, List.getElem_cons_zero]
                    exact HFIN.out cs.length hcl9 hj _ _ _ HSP.out
                · rcases List.mem_append.1 hc with hc | hc
                  · exact hcin.out c hc
                  · rw [List.mem_singleton] at hc
                    subst hc
                    exact ⟨ch, HCHM.out, rfl, rfl⟩
              case measure => simp [intOf]; omega
            · go_upto_region 29 with fail
              have hCt := hC20
              have hbt := hb20
              have HSP := Lib.hid (show ((0 : Int), (0 : Int), false) = S.spanOf x pa pb from by rw [HSPE.out, if_neg h3])
              have t0 := hCt.cell 0
              have t1 := hCt.cell 1
              have t2 := hCt.cell 2
              have t3 := hCt.cell 3
              have t4 := hCt.cell 4
              have tl := hCt.lt
              simp only [List.getElem?_toArray, List.getElem?_cons_zero, List.getElem?_cons_succ] at t0 t1 t2 t3 t4
              have hOWt := own_kept HOW.out (fun k hk => hbt.block k (HOW.out.lt k hk).2)
              have hcl9 := hcl.out
              have hbE1 : w3.heap.size ≤ W20.heap.size := by have := hbt.size; omega
              have hcsl : cs.length ≤ 2000 := by omega
              have HBT := Lib.hid hbt
              have HOWT := Lib.hid hOWt
              clear hbt hOWt hCt
              go_wp2_with (at_builtin; refine wpList_push rfl (.tmp 141) (.tmp 143) _ rfl elemSch ((show Row W20 W20 u8.ownBlock w3.heap.size 152 5 u8 cs.length (cs.flatMap schC) from ⟨HOWT.out, fun k hk => .inl hk.symm⟩).alloc _) ((Exc.refl u8.ownBlock.toList W20).alloc _) (by intro k hk; simp [hk]) hbE1 rfl W20.heap.size 1 1 [.slice ch.A ch.l.length ch.c, .int .i64 (0), .int .i64 (0), .bool false, .int .i64 ar] rfl rfl ?_ (by simp [Value.oneCell']) (by unfold maxLen; omega) (by omega) ?_; (· intro j u hu; have := (Cells.newRow W20 #[.slice ch.A ch.l.length ch.c, .int .i64 (0), .int .i64 (0), .bool false, .int .i64 ar] 152 (0, 0)).get (k := j) (v := u) hu; simpa using this); intro v2 wE hRE hXE hOE)
              have hown := hRE.own
              rw [show ([.slice ch.A ch.l.length ch.c, .int .i64 (0), .int .i64 (0), .bool false, .int .i64 ar] : List Value) = schC ⟨ch.A, ch.c, ch.l, 0, 0, false, ar⟩ from rfl] at hown
              have hbE : Below w3.heap.size w3 wE := (hbr.trans (HBT.out.mono hsr)).trans (hXE.below (by omega) (fun g hg => (HOWT.out.lt g (by simpa using hg)).1))
              go_roundw
              case rel =>
                refine ⟨q + 1, cs ++ [⟨ch.A, ch.c, ch.l, 0, 0, false, ar⟩], by omega, by go_num, rfl, Lib.hid (by simp; omega), Lib.hid (fun i hi hj => ?_), Lib.hid (fun c hc => ?_), by simpa using hown, hbE⟩
                · by_cases hiq : i < cs.length
                  · rw [List.getElem_append_left hiq]
                    exact hcok.out i hiq hj
                  · have hi2 : i = cs.length := by simp at hi; omega
                    subst hi2
                    rw [List.getElem_append_right (Nat.le_refl _)]
                    simp only [Nat.sub_self, List.getElem_cons_zero]
                    exact HFIN.out cs.length hcl9 hj _ _ _ HSP.out
                · rcases List.mem_append.1 hc with hc | hc
                  · exact hcin.out c hc
                  · rw [List.mem_singleton] at hc
                    subst hc
                    exact ⟨ch, HCHM.out, rfl, rfl⟩
              case measure => simp [intOf]; omega
    · have hqn : q = nc := by omega
      have hL := HL3.out.via hbr
      have l0 := hL.cell 0
      have ll := hL.lt
      simp only [List.getElem?_toArray, List.getElem?_cons_zero, List.getElem?_cons_succ] at l0
      have hcl2 := hcl.out
      obtain ⟨A5, c5, rfl, _, _, _⟩ := own_form hOW (by unfold maxLen; omega)
      have HOW := Lib.hid hOW
      have HQN := Lib.hid hqn
      have hqi : ¬ ((q : Int) < nc) := by omega
      have HCL2 := Lib.hid hcl2
      clear hOW hqn hcl2 hL
      go_wp2
      go_returns
      have hb0 : w.heap.size ≤ w1.heap.size := by omega
      have hR := HR3.out.kept hbr
      refine ⟨A1, c1, rs, A5, c5, cs, rfl, HRL.out, HOK.out, ⟨own_mono hR.own hb0, fun r hr => ?_⟩, own_mono HOW.out hW3.size, ?_, hcok.out, fun c hc => ?_, ba_via hbr hW3⟩
      · obtain ⟨g, cur, t, fr, h1, h2, h3⟩ := hR.each r hr
        exact ⟨g, cur, t, fr, h1, Nat.le_trans hb0 h2, h3⟩
      · rw [HCL2.out, HQN.out, HNC.out, ← HCM.out, List.length_map]
      · obtain ⟨ch, hch, hA', hl'⟩ := hcin.out c hc
        rw [hA', hl']
        exact ((HCE.out ch hch).1.below hbr).mono hbr.size
end Go.Proofs.YtffkmgjmlahfpaaGreat
set_option linter.unusedVariables false
set_option linter.unusedSimpArgs false
namespace Go.Proofs.YtffkmgjmlahfpaaGreat
open Go.RowKit
set_option maxRecDepth 20000 in
theorem schains_no (x : Dt) (w : World)
    (hLV : ∀ W, Below w.heap.size w W → Calls Tryz.prog 87 #[dtV x] W fun e w' => e = .returned (.bool false) ∧ Below W.heap.size W w') :
    Calls Tryz.prog 93 #[dtV x] w fun e w' => e = .returned (.tuple #[.slice none 0 0, .slice none 0 0, .int .i64 1]) ∧ Below w.heap.size w w' := by
  have HLV := Lib.hid hLV
  clear hLV
  unfold dtV at HLV
  unfold dtV
  have hDB := Blk.new w 34 #[.string x.m.name, .slice x.mA x.mn x.mc, .slice x.hA x.hn x.hc, .int .i64 x.m.cover, .int .i64 x.m.aggr, .int .i64 x.m.poker, .slice x.bA x.bn x.bc, .slice x.rA x.rn x.rc, .slice x.jA x.jn x.jc, .slice x.dA x.dn x.dc, .int .i64 x.rule.num, .int .i64 x.rule.den, .int .i64 x.rule.pnum, .int .i64 x.rule.pden, .int .i64 x.rule.bnum, .int .i64 x.rule.bden, .int .i64 x.rule.lnum, .int .i64 x.rule.lden, .int .i64 x.rule.least]
  have hW1 : Below w.heap.size w (w.alloc (.cells #[.string x.m.name, .slice x.mA x.mn x.mc, .slice x.hA x.hn x.hc, .int .i64 x.m.cover, .int .i64 x.m.aggr, .int .i64 x.m.poker, .slice x.bA x.bn x.bc, .slice x.rA x.rn x.rc, .slice x.jA x.jn x.jc, .slice x.dA x.dn x.dc, .int .i64 x.rule.num, .int .i64 x.rule.den, .int .i64 x.rule.pnum, .int .i64 x.rule.pden, .int .i64 x.rule.bnum, .int .i64 x.rule.bden, .int .i64 x.rule.lnum, .int .i64 x.rule.lden, .int .i64 x.rule.least] 34)) := ba_alloc (Below.refl _ _) _
  go_enter Tryz.func93, Tryz.ntmps93
  go_upto_region 1 with fail
  generalize (w.alloc (.cells #[.string x.m.name, .slice x.mA x.mn x.mc, .slice x.hA x.hn x.hc, .int .i64 x.m.cover, .int .i64 x.m.aggr, .int .i64 x.m.poker, .slice x.bA x.bn x.bc, .slice x.rA x.rn x.rc, .slice x.jA x.jn x.jc, .slice x.dA x.dn x.dc, .int .i64 x.rule.num, .int .i64 x.rule.den, .int .i64 x.rule.pnum, .int .i64 x.rule.pden, .int .i64 x.rule.bnum, .int .i64 x.rule.bden, .int .i64 x.rule.lnum, .int .i64 x.rule.lden, .int .i64 x.rule.least] 34)) = W1 at *
  have HDB := Lib.hid hDB
  clear hDB
  go_wp2_with (first
    | ((with_reducible refine at_load 34 1 ?_); refine wpList_load_mid rfl 34 (.tmp 1) rfl _ _ rfl _ _ (HDB.out.via (by repeat (with_reducible first | exact Below.refl _ _ | assumption | refine ba_alloc ?_ _ | refine ba_drew ?_ | refine ba_drewN ?_ _ | refine ba_via (by assumption) ?_ | (refine ba_set ?_ ?_ _; rotate_left; (first | omega | (simp; omega) | simp))))).range Tryz.underlying34 rfl (by kernel_rfl) ?_)
    | (go_at_call 87; (with_reducible refine (HLV.out _ (by repeat (with_reducible first | exact Below.refl _ _ | assumption | refine ba_alloc ?_ _ | refine ba_drew ?_ | refine ba_drewN ?_ _ | refine ba_via (by assumption) ?_ | (refine ba_set ?_ ?_ _; rotate_left; (first | omega | (simp; omega) | simp))))).mono ?_); rintro e w2 ⟨rfl, hbw2⟩))
  go_returns
  exact ⟨rfl, (by repeat (first | exact Below.refl _ _ | assumption | refine ba_alloc ?_ _ | refine ba_drew ?_ | refine ba_drewN ?_ _ | refine ba_via (by assumption) ?_ | (refine ba_set ?_ ?_ _; rotate_left; (first | omega | (simp; omega) | simp))))⟩
theorem sups_err (x : Dt) (k : Int) (er : Int) (w : World) (he : (er == 0) = false)
    (hCH : ∀ W, Below w.heap.size w W → Calls Tryz.prog 93 #[dtV x] W fun e w' => e = .returned (.tuple #[.slice none 0 0, .slice none 0 0, .int .i64 er]) ∧ Below W.heap.size W w') :
    Calls Tryz.prog 83 #[dtV x, .int .i64 k] w fun e w' => e = .returned (.tuple #[.slice none 0 0, .slice none 0 0, .int .i64 er]) ∧ Below w.heap.size w w' := by
  have HCH := Lib.hid hCH
  have he2 : ¬ (er = 0) := by simpa using he
  clear hCH
  unfold dtV at HCH
  unfold dtV
  have hDB := (Blk.new w 34 #[.string x.m.name, .slice x.mA x.mn x.mc, .slice x.hA x.hn x.hc, .int .i64 x.m.cover, .int .i64 x.m.aggr, .int .i64 x.m.poker, .slice x.bA x.bn x.bc, .slice x.rA x.rn x.rc, .slice x.jA x.jn x.jc, .slice x.dA x.dn x.dc, .int .i64 x.rule.num, .int .i64 x.rule.den, .int .i64 x.rule.pnum, .int .i64 x.rule.pden, .int .i64 x.rule.bnum, .int .i64 x.rule.bden, .int .i64 x.rule.lnum, .int .i64 x.rule.lden, .int .i64 x.rule.least]).alloc (.cells #[.int .i64 k] 3)
  have hW1 : Below w.heap.size w ((w.alloc (.cells #[.string x.m.name, .slice x.mA x.mn x.mc, .slice x.hA x.hn x.hc, .int .i64 x.m.cover, .int .i64 x.m.aggr, .int .i64 x.m.poker, .slice x.bA x.bn x.bc, .slice x.rA x.rn x.rc, .slice x.jA x.jn x.jc, .slice x.dA x.dn x.dc, .int .i64 x.rule.num, .int .i64 x.rule.den, .int .i64 x.rule.pnum, .int .i64 x.rule.pden, .int .i64 x.rule.bnum, .int .i64 x.rule.bden, .int .i64 x.rule.lnum, .int .i64 x.rule.lden, .int .i64 x.rule.least] 34)).alloc (.cells #[.int .i64 k] 3)) := ba_alloc (ba_alloc (Below.refl _ _) _) _
  go_enter Tryz.func83, Tryz.ntmps83
  go_upto_region 1 with fail
  generalize ((w.alloc (.cells #[.string x.m.name, .slice x.mA x.mn x.mc, .slice x.hA x.hn x.hc, .int .i64 x.m.cover, .int .i64 x.m.aggr, .int .i64 x.m.poker, .slice x.bA x.bn x.bc, .slice x.rA x.rn x.rc, .slice x.jA x.jn x.jc, .slice x.dA x.dn x.dc, .int .i64 x.rule.num, .int .i64 x.rule.den, .int .i64 x.rule.pnum, .int .i64 x.rule.pden, .int .i64 x.rule.bnum, .int .i64 x.rule.bden, .int .i64 x.rule.lnum, .int .i64 x.rule.lden, .int .i64 x.rule.least] 34)).alloc (.cells #[.int .i64 k] 3)) = W1 at *
  have HDB := Lib.hid hDB
  clear hDB
  go_wp2_with (first
    | ((with_reducible refine at_load 34 2 ?_); refine wpList_load_mid rfl 34 (.tmp 2) rfl _ _ rfl _ _ (HDB.out.via (by repeat (with_reducible first | exact Below.refl _ _ | assumption | refine ba_alloc ?_ _ | refine ba_drew ?_ | refine ba_drewN ?_ _ | refine ba_via (by assumption) ?_ | (refine ba_set ?_ ?_ _; rotate_left; (first | omega | (simp; omega) | simp))))).range Tryz.underlying34 rfl (by kernel_rfl) ?_)
    | (go_at_call 93; (with_reducible refine (HCH.out _ (by repeat (with_reducible first | exact Below.refl _ _ | assumption | refine ba_alloc ?_ _ | refine ba_drew ?_ | refine ba_drewN ?_ _ | refine ba_via (by assumption) ?_ | (refine ba_set ?_ ?_ _; rotate_left; (first | omega | (simp; omega) | simp))))).mono ?_); rintro e w2 ⟨rfl, hbw2⟩))
  go_returns
  exact ⟨rfl, (by repeat (first | exact Below.refl _ _ | assumption | refine ba_alloc ?_ _ | refine ba_drew ?_ | refine ba_drewN ?_ _ | refine ba_via (by assumption) ?_ | (refine ba_set ?_ ?_ _; rotate_left; (first | omega | (simp; omega) | simp))))⟩
theorem sups_range (x : Dt) (C : List (List Int)) (n : Nat) (k : Int) (w : World) (hk : k < 0 ∨ (x.dn : Int) ≤ k)
    (hCH : ∀ W, Below w.heap.size w W → Calls Tryz.prog 93 #[dtV x] W (GivesSup x C n W)) :
    Calls Tryz.prog 83 #[dtV x, .int .i64 k] w fun e w' => e = .returned (.tuple #[.slice none 0 0, .slice none 0 0, .int .i64 2]) ∧ Below w.heap.size w w' := by
  have HCH := Lib.hid hCH
  clear hCH
  unfold dtV at HCH
  unfold dtV
  have hDB := (Blk.new w 34 #[.string x.m.name, .slice x.mA x.mn x.mc, .slice x.hA x.hn x.hc, .int .i64 x.m.cover, .int .i64 x.m.aggr, .int .i64 x.m.poker, .slice x.bA x.bn x.bc, .slice x.rA x.rn x.rc, .slice x.jA x.jn x.jc, .slice x.dA x.dn x.dc, .int .i64 x.rule.num, .int .i64 x.rule.den, .int .i64 x.rule.pnum, .int .i64 x.rule.pden, .int .i64 x.rule.bnum, .int .i64 x.rule.bden, .int .i64 x.rule.lnum, .int .i64 x.rule.lden, .int .i64 x.rule.least]).alloc (.cells #[.int .i64 k] 3)
  have hKB := Blk.new (w.alloc (.cells #[.string x.m.name, .slice x.mA x.mn x.mc, .slice x.hA x.hn x.hc, .int .i64 x.m.cover, .int .i64 x.m.aggr, .int .i64 x.m.poker, .slice x.bA x.bn x.bc, .slice x.rA x.rn x.rc, .slice x.jA x.jn x.jc, .slice x.dA x.dn x.dc, .int .i64 x.rule.num, .int .i64 x.rule.den, .int .i64 x.rule.pnum, .int .i64 x.rule.pden, .int .i64 x.rule.bnum, .int .i64 x.rule.bden, .int .i64 x.rule.lnum, .int .i64 x.rule.lden, .int .i64 x.rule.least] 34)) 3 #[.int .i64 k]
  have hW1 : Below w.heap.size w ((w.alloc (.cells #[.string x.m.name, .slice x.mA x.mn x.mc, .slice x.hA x.hn x.hc, .int .i64 x.m.cover, .int .i64 x.m.aggr, .int .i64 x.m.poker, .slice x.bA x.bn x.bc, .slice x.rA x.rn x.rc, .slice x.jA x.jn x.jc, .slice x.dA x.dn x.dc, .int .i64 x.rule.num, .int .i64 x.rule.den, .int .i64 x.rule.pnum, .int .i64 x.rule.pden, .int .i64 x.rule.bnum, .int .i64 x.rule.bden, .int .i64 x.rule.lnum, .int .i64 x.rule.lden, .int .i64 x.rule.least] 34)).alloc (.cells #[.int .i64 k] 3)) := ba_alloc (ba_alloc (Below.refl _ _) _) _
  go_enter Tryz.func83, Tryz.ntmps83
  go_upto_region 1 with fail
  rw [show (w.alloc (.cells #[.string x.m.name, .slice x.mA x.mn x.mc, .slice x.hA x.hn x.hc, .int .i64 x.m.cover, .int .i64 x.m.aggr, .int .i64 x.m.poker, .slice x.bA x.bn x.bc, .slice x.rA x.rn x.rc, .slice x.jA x.jn x.jc, .slice x.dA x.dn x.dc, .int .i64 x.rule.num, .int .i64 x.rule.den, .int .i64 x.rule.pnum, .int .i64 x.rule.pden, .int .i64 x.rule.bnum, .int .i64 x.rule.bden, .int .i64 x.rule.lnum, .int .i64 x.rule.lden, .int .i64 x.rule.least] 34)).heap.size = w.heap.size + 1 by simp] at hKB
  generalize ((w.alloc (.cells #[.string x.m.name, .slice x.mA x.mn x.mc, .slice x.hA x.hn x.hc, .int .i64 x.m.cover, .int .i64 x.m.aggr, .int .i64 x.m.poker, .slice x.bA x.bn x.bc, .slice x.rA x.rn x.rc, .slice x.jA x.jn x.jc, .slice x.dA x.dn x.dc, .int .i64 x.rule.num, .int .i64 x.rule.den, .int .i64 x.rule.pnum, .int .i64 x.rule.pden, .int .i64 x.rule.bnum, .int .i64 x.rule.bden, .int .i64 x.rule.lnum, .int .i64 x.rule.lden, .int .i64 x.rule.least] 34)).alloc (.cells #[.int .i64 k] 3)) = W1 at *
  have HDB := Lib.hid hDB
  have HKB := Lib.hid hKB
  clear hDB hKB
  go_upto_region 2 with (first
    | ((with_reducible refine at_load 34 2 ?_); refine wpList_load_mid rfl 34 (.tmp 2) rfl _ _ rfl _ _ (HDB.out.via (by repeat (with_reducible first | exact Below.refl _ _ | assumption | refine ba_alloc ?_ _ | refine ba_drew ?_ | refine ba_drewN ?_ _ | refine ba_via (by assumption) ?_ | (refine ba_set ?_ ?_ _; rotate_left; (first | omega | (simp; omega) | simp))))).range Tryz.underlying34 rfl (by kernel_rfl) ?_)
    | (go_at_call 93; (with_reducible refine (HCH.out _ (by repeat (with_reducible first | exact Below.refl _ _ | assumption | refine ba_alloc ?_ _ | refine ba_drew ?_ | refine ba_drewN ?_ _ | refine ba_via (by assumption) ?_ | (refine ba_set ?_ ?_ _; rotate_left; (first | omega | (simp; omega) | simp))))).mono ?_); rintro e w2 ⟨A1, c1, rs, A2, c2, cs, rfl, hrl, hok, hRA, hOW, hcl, hsch, hcc, hbw2⟩; clear hrl hok hRA hOW hcl hsch hcc))
  have hb2 : Below w2.heap.size w2 (w2.alloc (.cells #[.slice A1 rs.length c1] 145)) := ba_alloc (Below.refl _ _) _
  have HD3 := Lib.hid ((HDB.out.via hbw2).via hb2)
  have HK3 := Lib.hid ((HKB.out.via hbw2).via hb2)
  have hw3 : Below w.heap.size w (w2.alloc (.cells #[.slice A1 rs.length c1] 145)) := ba_alloc (ba_via hbw2 hW1) _
  have hwl : w.heap.size < W1.heap.size := HDB.out.lt
  have hwl1 : w.heap.size + 1 < W1.heap.size := HKB.out.lt
  generalize (w2.alloc (.cells #[.slice A1 rs.length c1] 145)) = W3 at *
  have d9 := HD3.out.cell 9
  have k0 := HK3.out.cell 0
  have dl := HD3.out.lt
  have kl := HK3.out.lt
  simp only [List.getElem?_toArray, List.getElem?_cons_zero, List.getElem?_cons_succ] at d9 k0
  by_cases h1 : k < 0
  · go_wp2
    go_returns
    exact ⟨rfl, (by repeat (first | exact Below.refl _ _ | assumption | refine ba_alloc ?_ _ | refine ba_drew ?_ | refine ba_drewN ?_ _ | refine ba_via (by assumption) ?_ | (refine ba_set ?_ ?_ _; rotate_left; (first | omega | (simp; omega) | simp))))⟩
  · have h2 : (x.dn : Int) ≤ k := by omega
    go_wp2
    go_returns
    exact ⟨rfl, (by repeat (first | exact Below.refl _ _ | assumption | refine ba_alloc ?_ _ | refine ba_drew ?_ | refine ba_drewN ?_ _ | refine ba_via (by assumption) ?_ | (refine ba_set ?_ ?_ _; rotate_left; (first | omega | (simp; omega) | simp))))⟩
def S.spanV (c : SCh) : Value := .agg #[.int .i64 c.lo, .int .i64 c.hi]
set_option maxHeartbeats 1000000 in
/-- supply.Area of an index in range. -/
theorem Area_any (x : Dt) (C : List (List Int)) (n : Nat) (k : Nat) (w : World) (hC : C.length ≤ 2000) (hk : k < C.length)
    (hCH : ∀ W, Below w.heap.size w W → Calls Tryz.prog 93 #[dtV x] W (GivesSup x C n W)) :
    Calls Tryz.prog 41 #[dtV x, .int .i64 k] w fun e w' => ∃ (rs : List Rod) (c : SCh), e = .returned (.tuple #[.int .i64 c.area, .int .i64 0]) ∧ rs.length = n ∧ (∀ (i : Nat) (hi : i < rs.length), RodOk x i rs[i]) ∧ SchOk x rs C[k] c ∧ Below w.heap.size w w' := by
  have HCH := Lib.hid hCH
  clear hCH
  unfold dtV at HCH
  unfold dtV
  have hDB := Blk.new w 34 #[.string x.m.name, .slice x.mA x.mn x.mc, .slice x.hA x.hn x.hc, .int .i64 x.m.cover, .int .i64 x.m.aggr, .int .i64 x.m.poker, .slice x.bA x.bn x.bc, .slice x.rA x.rn x.rc, .slice x.jA x.jn x.jc, .slice x.dA x.dn x.dc, .int .i64 x.rule.num, .int .i64 x.rule.den, .int .i64 x.rule.pnum, .int .i64 x.rule.pden, .int .i64 x.rule.bnum, .int .i64 x.rule.bden, .int .i64 x.rule.lnum, .int .i64 x.rule.lden, .int .i64 x.rule.least]
  have hW1 : Below w.heap.size w (w.alloc (.cells #[.string x.m.name, .slice x.mA x.mn x.mc, .slice x.hA x.hn x.hc, .int .i64 x.m.cover, .int .i64 x.m.aggr, .int .i64 x.m.poker, .slice x.bA x.bn x.bc, .slice x.rA x.rn x.rc, .slice x.jA x.jn x.jc, .slice x.dA x.dn x.dc, .int .i64 x.rule.num, .int .i64 x.rule.den, .int .i64 x.rule.pnum, .int .i64 x.rule.pden, .int .i64 x.rule.bnum, .int .i64 x.rule.bden, .int .i64 x.rule.lnum, .int .i64 x.rule.lden, .int .i64 x.rule.least] 34)) := ba_alloc (Below.refl _ _) _
  go_enter Tryz.func41, Tryz.ntmps41
  go_upto_region 1 with fail
  generalize (w.alloc (.cells #[.string x.m.name, .slice x.mA x.mn x.mc, .slice x.hA x.hn x.hc, .int .i64 x.m.cover, .int .i64 x.m.aggr, .int .i64 x.m.poker, .slice x.bA x.bn x.bc, .slice x.rA x.rn x.rc, .slice x.jA x.jn x.jc, .slice x.dA x.dn x.dc, .int .i64 x.rule.num, .int .i64 x.rule.den, .int .i64 x.rule.pnum, .int .i64 x.rule.pden, .int .i64 x.rule.bnum, .int .i64 x.rule.bden, .int .i64 x.rule.lnum, .int .i64 x.rule.lden, .int .i64 x.rule.least] 34)) = W1 at *
  have HDB := Lib.hid hDB
  clear hDB
  go_upto_region 2 with (first
    | ((with_reducible refine at_load 34 2 ?_); refine wpList_load_mid rfl 34 (.tmp 2) rfl _ _ rfl _ _ (HDB.out.via (by repeat (with_reducible first | exact Below.refl _ _ | assumption | refine ba_alloc ?_ _ | refine ba_drew ?_ | refine ba_drewN ?_ _ | refine ba_via (by assumption) ?_ | (refine ba_set ?_ ?_ _; rotate_left; (first | omega | (simp; omega) | simp))))).range Tryz.underlying34 rfl (by kernel_rfl) ?_)
    | (go_at_call 93; (with_reducible refine (HCH.out _ (by repeat (with_reducible first | exact Below.refl _ _ | assumption | refine ba_alloc ?_ _ | refine ba_drew ?_ | refine ba_drewN ?_ _ | refine ba_via (by assumption) ?_ | (refine ba_set ?_ ?_ _; rotate_left; (first | omega | (simp; omega) | simp))))).mono ?_); rintro e w2 ⟨A1, c1, rs, A2, c2, cs, rfl, hrl, hok, hRA, hOW, hcl, hsch, hcc, hbw2⟩; have HRL := Lib.hid hrl; have HOK := Lib.hid hok; have HOW := Lib.hid hOW; have HCL := Lib.hid hcl; have HSC := Lib.hid hsch; clear hrl hok hRA hOW hcl hsch hcc))
  have hkx : k < cs.length := by rw [HCL.out]; exact hk
  have hCS := (own_cells HOW.out (by have := HCL.out; unfold maxLen; omega)).1
  obtain ⟨b2, o2, hA2, hbb2, hxx⟩ := hCS.at_ (by rw [flat_len schC 5 schC_len]; omega)
  clear hxx
  subst hA2
  have c3' := hCS.rowj schC_len hkx 4 rfl
  have HK := Lib.hid (HSC.out k hkx hk)
  have hki : (k : Int) < cs.length := by omega
  have hk0 : ¬ ((k : Int) < 0) := by omega
  have hk1 : ¬ ((cs.length : Int) ≤ k) := by omega
  clear hCS HOW HSC HCH HDB
  generalize cs[k] = c at *
  go_wp2
  go_ret2
  exact ⟨rs, c, rfl, HRL.out, HOK.out, HK.out, (by repeat (first | exact Below.refl _ _ | assumption | refine ba_alloc ?_ _ | refine ba_drew ?_ | refine ba_drewN ?_ _ | refine ba_via (by assumption) ?_ | (refine ba_set ?_ ?_ _; rotate_left; (first | omega | (simp; omega) | simp))))⟩
end Go.Proofs.YtffkmgjmlahfpaaGreat
set_option linter.unusedVariables false
set_option linter.unusedSimpArgs false
namespace Go.Proofs.YtffkmgjmlahfpaaGreat
open Go.RowKit
def S.nOf (x : Dt) : Nat := (S.mains (bars x.bs) x.rs).length
def S.cOf (x : Dt) : List (List Int) := S.chains x.js (S.nOf x)
structure LookOk (x : Dt) (ds : List Dm) : Prop where
  mem : S.member x.m = true
  laid : S.laid (bars x.bs) x.rs = true
  dems : S.dems ds = true
  rule : S.rule x.rule = true
  j1000 : x.jn ≤ 1000
  n2000 : S.nOf x ≤ 2000
  c2000 : (S.cOf x).length ≤ 2000
  cin : ChIn (S.cOf x) (S.nOf x)
  good : LapsGood x.js (S.nOf x) (S.rankOf (S.mains (bars x.bs) x.rs))
theorem look_ok {x : Dt} {ds : List Dm} (hlk : S.look x (S.dems ds) = true) : LookOk x ds := by
  have hlk2 := hlk
  simp only [S.look, Bool.and_eq_true, decide_eq_true_eq] at hlk2
  obtain ⟨⟨⟨⟨⟨hmem, hlaid⟩, hdm⟩, hrule⟩, hj1000⟩, hlok⟩ := hlk2
  have hn2000 : S.nOf x ≤ 2000 := by
    have h2 := hlaid
    simp only [S.laid, Bool.and_eq_true] at h2
    have := mains_len h2.2 (by omega)
    unfold S.nOf
    omega
  have hgood : LapsGood x.js (S.nOf x) (S.rankOf (S.mains (bars x.bs) x.rs)) := laps_good hlok
  refine ⟨hmem, hlaid, hdm, hrule, hj1000, hn2000, Nat.le_trans (chains_le x.js _ _) hn2000, fun l hl => ?_, hgood⟩
  unfold S.cOf S.chains S.chainsTo at hl
  obtain ⟨q, hq, rfl⟩ := List.mem_map.1 hl
  have hq2 := List.mem_range.1 (List.mem_filter.1 hq).1
  have := chainOf_le (S.nextF x.js) (S.nOf x) q
  exact ⟨Nat.succ_pos _, by omega, fun i hi => hgood.mem_range (i := q) (by omega) hi⟩
theorem dems_at {ds : List Dm} (h : S.dems ds = true) {k : Nat} {d : Dm} (hk : ds[k]? = some d) : S.demRight d = true := by
  unfold S.dems at h
  simp only [Bool.and_eq_true] at h
  have h2 := List.all_eq_true.1 h.2 k (List.mem_range.2 (List.getElem?_eq_some_iff.1 hk).1)
  unfold S.demAt at h2
  rw [hk] at h2
  simp only [Bool.and_eq_true] at h2
  exact h2.1
section
variable {x : Dt} {ds : List Dm} {w : World}
theorem good_dv (h : DtOk w x ds) : ∀ W, Below w.heap.size w W → Calls Tryz.prog 121 #[.slice x.dA x.dn x.dc] W fun e w' => e = .returned (.bool (S.dems ds)) ∧ Below W.heap.size W w' :=
  fun W hw => dvalid_any ds x.dA x.dn x.dc w.heap.size W hw.size h.cap (h.dems.at_ (Nat.le_refl _) hw)
theorem good_look (h : DtOk w x ds) (hlk : S.look x (S.dems ds) = true) : ∀ W, Below w.heap.size w W → Calls Tryz.prog 65 #[dtV x] W (GivesLook true (S.mains (bars x.bs) x.rs).length ((S.mains (bars x.bs) x.rs).flatMap mnC) W) :=
  fun W hw => look_yes x (S.dems ds) w.heap.size W hw.size (h.at_.at_ (Nat.le_refl _) hw) (fun V hV => good_dv h V (hw.trans (hV.mono hw.size))) hlk
theorem bad_look (h : DtOk w x ds) (hlk : S.look x (S.dems ds) = false) : ∀ W, Below w.heap.size w W → Calls Tryz.prog 65 #[dtV x] W (GivesLook false 0 [] W) :=
  fun W hw => look_no x (S.dems ds) w.heap.size W hw.size (h.at_.at_ (Nat.le_refl _) hw) (fun V hV => good_dv h V (hw.trans (hV.mono hw.size))) hlk
theorem good_chains (h : DtOk w x ds) (hlk : S.look x (S.dems ds) = true) : ∀ W, Below w.heap.size w W → Calls Tryz.prog 93 #[dtV x] W (GivesSup x (S.cOf x) (S.nOf x) W) := fun W hw => by
  have g := look_ok hlk
  have hat := h.at_.at_ (Nat.le_refl _) hw
  exact schains_any x (S.cOf x) (S.nOf x) w.heap.size W hw.size hat g.laid g.rule g.mem g.n2000 g.c2000 g.cin
    (fun V hV => lvalid_any x true w.heap.size _ _ V (hw.trans (hV.mono hw.size)).size (fun U hU => good_look h hlk U ((hw.trans (hV.mono hw.size)).trans (hU.mono (hw.trans (hV.mono hw.size)).size))))
    (fun V hV => rods_any x w.heap.size V (hw.trans (hV.mono hw.size)).size (h.at_.at_ (Nat.le_refl _) (hw.trans (hV.mono hw.size))) g.laid g.n2000)
    (fun V hV => lchains_yes x w.heap.size _ _ _ V (hw.trans (hV.mono hw.size)).size g.n2000 (fun U hU => good_look h hlk U ((hw.trans (hV.mono hw.size)).trans (hU.mono (hw.trans (hV.mono hw.size)).size)))
      (fun U hU => chains_any x _ _ w.heap.size U ((hw.trans (hV.mono hw.size)).trans (hU.mono (hw.trans (hV.mono hw.size)).size)).size (h.at_.at_ (Nat.le_refl _) ((hw.trans (hV.mono hw.size)).trans (hU.mono (hw.trans (hV.mono hw.size)).size))) g.good g.n2000 g.j1000))
theorem good_sups (h : DtOk w x ds) (hlk : S.look x (S.dems ds) = true) {k : Nat} {d : Dm} (hk : ds[k]? = some d) : ∀ W, Below w.heap.size w W → Calls Tryz.prog 83 #[dtV x, .int .i64 k] W (GivesSups x (S.cOf x) (S.nOf x) (fun rs => S.sup rs d.zone) W) := fun W hw => by
  have g := look_ok hlk
  exact sups_any x (S.cOf x) (S.nOf x) ds k d w.heap.size W hw.size (h.at_.at_ (Nat.le_refl _) hw) (h.dems.at_ (Nat.le_refl _) hw) hk (dems_at g.dems hk) g.laid g.n2000 g.c2000 g.cin (fun V hV => good_chains h hlk V (hw.trans (hV.mono hw.size)))
theorem good_At (h : DtOk w x ds) (hlk : S.look x (S.dems ds) = true) {k : Nat} {d : Dm} (hk : ds[k]? = some d) {p : Int} (hp : -1048576 ≤ p ∧ p ≤ 1048576) {rs : List Rod} (hrs : RodsOf x (S.nOf x) rs) :
    ∀ W, Below w.heap.size w W → Calls Tryz.prog 30 #[dtV x, .int .i64 k, .int .i64 p] W fun e w' => e = .returned (.tuple #[.int .i64 (S.supplyAt x rs (S.cOf x) d.zone p), .int .i64 0]) ∧ Below W.heap.size W w' := fun W hw => by
  have g := look_ok hlk
  refine (At_any x (S.cOf x) (S.nOf x) d.zone k p W g.c2000 (fun rs l c h1 h2 h3 h4 => area_bd g.cin g.laid rs l c ⟨h2, h1⟩ h3 h4) (fun V hV => at_any x (S.cOf x) (S.nOf x) d.zone k p V g.c2000 hp.1 hp.2 (fun U hU => good_sups h hlk hk U ((hw.trans (hV.mono hw.size)).trans (hU.mono (hw.trans (hV.mono hw.size)).size))))).mono ?_
  rintro e w' ⟨rs', cs, rfl, h1, h2, h3, h4, h5⟩
  exact ⟨by rw [supplyAt_same ⟨h1, h2⟩ hrs h3 h4], h5⟩
theorem good_Of (h : DtOk w x ds) (hlk : S.look x (S.dems ds) = true) (hC : (S.cOf x).length ≤ 100) {k : Nat} {d : Dm} (hk : ds[k]? = some d) {rs : List Rod} (hrs : RodsOf x (S.nOf x) rs) :
    ∀ W, Below w.heap.size w W → Calls Tryz.prog 31 #[dtV x, .int .i64 k] W fun e w' => ∃ (A : Option Addr) (c : Nat), e = .returned (.tuple #[.slice A (S.supplyOf x rs (S.cOf x) d.zone).length c, .int .i64 0]) ∧
      w'.ownsRow W.heap.size 81 2 (.slice A (S.supplyOf x rs (S.cOf x) d.zone).length c) (S.supplyOf x rs (S.cOf x) d.zone).length ((S.supplyOf x rs (S.cOf x) d.zone).flatMap stC) ∧ Below W.heap.size W w' := fun W hw => by
  have g := look_ok hlk
  refine (Of_any x (S.cOf x) (S.nOf x) d.zone k W hC (fun rs l c h1 h2 h3 h4 => area_bd g.cin g.laid rs l c ⟨h2, h1⟩ h3 h4) (fun rs cs h1 h2 h3 h4 => of_steps hC g.cin g.laid g.rule d.zone rs cs ⟨h2, h1⟩ h3 h4) (fun V hV => good_sups h hlk hk V (hw.trans (hV.mono hw.size)))).mono ?_
  rintro e w' ⟨A, c, rs', cs, rfl, h1, h2, h3, h4, h5, h6⟩
  rw [supplyOf_same ⟨h1, h2⟩ hrs h3 h4] at h5 ⊢
  exact ⟨A, c, rfl, h5, h6⟩
/-- The error of a detail, a demand, and a place. -/
def S.given26 (x : Dt) (ds : List Dm) (d p : Int) : Int := if S.look x (S.dems ds) = false then 1 else if d < 0 ∨ (ds.length : Int) ≤ d ∨ S.place p = false then 2 else 0
theorem bad_chains (h : DtOk w x ds) (hlk : S.look x (S.dems ds) = false) : ∀ W, Below w.heap.size w W → Calls Tryz.prog 93 #[dtV x] W fun e w' => e = .returned (.tuple #[.slice none 0 0, .slice none 0 0, .int .i64 1]) ∧ Below W.heap.size W w' :=
  fun W hw => schains_no x W (fun V hV => lvalid_any x false w.heap.size _ _ V (hw.trans (hV.mono hw.size)).size (fun U hU => bad_look h hlk U ((hw.trans (hV.mono hw.size)).trans (hU.mono (hw.trans (hV.mono hw.size)).size))))
theorem bad_sups (h : DtOk w x ds) (d : Int) (hg : S.given26 x ds d 0 ≠ 0) : ∀ W, Below w.heap.size w W → Calls Tryz.prog 83 #[dtV x, .int .i64 d] W fun e w' => e = .returned (.tuple #[.slice none 0 0, .slice none 0 0, .int .i64 (S.given26 x ds d 0)]) ∧ Below W.heap.size W w' := fun W hw => by
  unfold S.given26 at hg ⊢
  by_cases hlk : S.look x (S.dems ds) = false
  · rw [if_pos hlk]
    exact sups_err x d 1 W rfl (fun V hV => bad_chains h hlk V (hw.trans (hV.mono hw.size)))
  · rw [if_neg hlk] at hg ⊢
    have hlk2 : S.look x (S.dems ds) = true := by simpa using hlk
    by_cases hr : d < 0 ∨ (ds.length : Int) ≤ d ∨ S.place 0 = false
    · rw [if_pos hr]
      refine sups_range x (S.cOf x) (S.nOf x) d W ?_ (fun V hV => good_chains h hlk2 V (hw.trans (hV.mono hw.size)))
      rcases hr with h1 | h1 | h1
      · exact .inl h1
      · exact .inr (by rw [h.dems.len] at h1; exact h1)
      · exact absurd h1 (by decide)
    · rw [if_neg hr] at hg
      exact absurd rfl hg
theorem bad_at (h : DtOk w x ds) (d p : Int) (hg : S.given26 x ds d p ≠ 0) : ∀ W, Below w.heap.size w W → Calls Tryz.prog 81 #[dtV x, .int .i64 d, .int .i64 p] W fun e w' => e = .returned (.tuple #[.slice none 0 0, .slice none 0 0, .int .i64 (S.given26 x ds d p)]) ∧ Below W.heap.size W w' := fun W hw => by
  by_cases hg0 : S.given26 x ds d 0 = 0
  · unfold S.given26 at hg hg0 ⊢
    by_cases hlk : S.look x (S.dems ds) = false
    · rw [if_pos hlk] at hg0; cases hg0
    · rw [if_neg hlk] at hg hg0 ⊢
      have hlk2 : S.look x (S.dems ds) = true := by simpa using hlk
      by_cases hr : d < 0 ∨ (ds.length : Int) ≤ d ∨ S.place p = false
      · rw [if_pos hr]
        by_cases hr0 : d < 0 ∨ (ds.length : Int) ≤ d ∨ S.place 0 = false
        · rw [if_pos hr0] at hg0; cases hg0
        · obtain ⟨m, rfl⟩ := Int.eq_ofNat_of_zero_le (show 0 ≤ d by omega)
          have hml : m < ds.length := by omega
          refine at_far x (S.cOf x) (S.nOf x) ds[m].zone m p W ?_ (fun V hV => good_sups h hlk2 (List.getElem?_eq_getElem hml) V (hw.trans (hV.mono hw.size)))
          have hpl : S.place p = false := by
            rcases hr with h1 | h1 | h1
            · omega
            · omega
            · exact h1
          unfold S.place at hpl
          rw [Bool.and_eq_false_iff, decide_eq_false_iff_not, decide_eq_false_iff_not] at hpl
          omega
      · rw [if_neg hr] at hg
        exact absurd rfl hg
  · have he : S.given26 x ds d p = S.given26 x ds d 0 := by
      unfold S.given26 at hg0 ⊢
      by_cases hlk : S.look x (S.dems ds) = false
      · rw [if_pos hlk, if_pos hlk]
      · rw [if_neg hlk] at hg0 ⊢
        rw [if_neg hlk]
        by_cases hr : d < 0 ∨ (ds.length : Int) ≤ d ∨ S.place 0 = false
        · have hr2 : d < 0 ∨ (ds.length : Int) ≤ d := by
            rcases hr with h1 | h1 | h1
            · exact .inl h1
            · exact .inr h1
            · exact absurd h1 (by decide)
          rw [if_pos hr, if_pos (by rcases hr2 with h1 | h1; exact .inl h1; exact .inr (.inl h1))]
        · rw [if_neg hr] at hg0
          exact absurd rfl hg0
    rw [he]
    refine at_err x d p _ W ?_ (fun V hV => bad_sups h d hg0 V (hw.trans (hV.mono hw.size)))
    simpa using hg0
theorem bad_At (h : DtOk w x ds) (d p : Int) (hg : S.given26 x ds d p ≠ 0) : ∀ W, Below w.heap.size w W → Calls Tryz.prog 30 #[dtV x, .int .i64 d, .int .i64 p] W fun e w' => e = .returned (.tuple #[.int .i64 0, .int .i64 (S.given26 x ds d p)]) ∧ Below W.heap.size W w' :=
  fun W hw => At_err x d p _ W (by simpa using hg) (fun V hV => bad_at h d p hg V (hw.trans (hV.mono hw.size)))
end
theorem given26_zero {x : Dt} {ds : List Dm} {d p : Int} (h : S.given26 x ds d p = 0) : S.look x (S.dems ds) = true ∧ (∃ (m : Nat) (dm : Dm), d = m ∧ ds[m]? = some dm) ∧ -1048576 ≤ p ∧ p ≤ 1048576 := by
  unfold S.given26 at h
  split at h
  · cases h
  · rename_i h1
    split at h
    · cases h
    · rename_i h2
      have hpl : S.place p = true := by
        cases hp : S.place p
        · exact absurd (.inr (.inr hp)) h2
        · rfl
      unfold S.place at hpl
      simp only [Bool.and_eq_true, decide_eq_true_eq] at hpl
      obtain ⟨m, rfl⟩ := Int.eq_ofNat_of_zero_le (show 0 ≤ d by omega)
      have hml : m < ds.length := by omega
      exact ⟨by simpa using h1, ⟨m, ds[m], rfl, List.getElem?_eq_getElem hml⟩, hpl⟩
theorem few_bars {x : Dt} {ds : List Dm} (hs : S.small25 x ds = true) (hl : S.laid (bars x.bs) x.rs = true) : S.nOf x ≤ 96 := by
  have h16 : S.small16 (bars x.bs) x.rs = true := by
    unfold S.small25 at hs
    simp only [Bool.and_eq_true] at hs
    exact hs.1.1.2
  unfold S.small16 at h16
  simp only [Bool.and_eq_true, Bool.not_eq_true'] at h16
  have hb := h16.1.1.1.2
  have hd := h16.1.2
  have hl2 := hl
  simp only [S.laid, Bool.and_eq_true, decide_eq_true_eq] at hl2
  obtain ⟨⟨hsc, h60⟩, hok⟩ := hl2
  have h6 : x.rs.length ≤ 6 := by
    unfold S.lensBad at hb
    rw [Bool.or_eq_false_iff, Bool.and_eq_false_iff] at hb
    obtain ⟨hb1, _⟩ := hb
    rcases hb1 with h | h
    · have := of_decide_eq_false h; omega
    · have := of_decide_eq_false h; omega
  have hcnt : ∀ r, r ∈ x.rs → r.count ≤ 16 := fun r hr => by
    have h1 : S.runBad r = false := by
      cases hc : S.runBad r
      · rfl
      · have : x.rs.any S.runBad = true := List.any_eq_true.2 ⟨r, hr, hc⟩
        rw [hd] at this
        cases this
    have h2 := right_count (runs_in hok hr)
    unfold S.runBad at h1
    rw [Bool.or_eq_false_iff, Bool.and_eq_false_iff] at h1
    obtain ⟨_, h3⟩ := h1
    rcases h3 with h | h
    · have := of_decide_eq_false h; omega
    · have := of_decide_eq_false h; omega
  have hsum : ∀ k, k ≤ x.rs.length → S.sumTo x.rs k ≤ 16 * (k : Int) := by
    intro k
    induction k with
    | zero => intro _; rw [sumTo_zero]; simp
    | succ k ih =>
      intro hk
      rw [sumTo_succ x.rs (by omega)]
      have h1 := ih (by omega)
      have h2 := hcnt _ (List.getElem_mem (show k < x.rs.length by omega))
      push_cast
      omega
  have hm := mains_sum hsc (fun r hr => runs_in hok hr) (Nat.le_refl x.rs.length)
  rw [List.take_length] at hm
  have := hsum x.rs.length (Nat.le_refl _)
  unfold S.nOf
  omega
theorem few_chains {x : Dt} {ds : List Dm} (hs : S.small25 x ds = true) (hl : S.laid (bars x.bs) x.rs = true) : (S.cOf x).length ≤ 100 := by
  have h1 := few_bars hs hl
  have h2 : (S.cOf x).length ≤ S.nOf x := chains_le x.js _ _
  omega
end Go.Proofs.YtffkmgjmlahfpaaGreat
set_option linter.unusedVariables false
set_option linter.unusedSimpArgs false
namespace Go.Proofs.YtffkmgjmlahfpaaGreat
open Go.RowKit
set_option maxRecDepth 20000 in
theorem exat_any (x y z : Int) (w : World) : Calls Tryz.prog 136 #[.int .i64 x, .int .i64 y, .int .i64 z] w fun e w' => e = .returned (.agg #[.int .i64 x, .int .i64 y, .int .i64 z]) ∧ Below w.heap.size w w' := by
  go_enter Tryz.func136, Tryz.ntmps136
  go_wp2
  exact bodyPost_ret (v := .agg #[.int .i64 x, .int .i64 y, .int .i64 z]) (by simp [results, Tryz.results136, go_sem, *]) rfl ⟨rfl, (by repeat (first | exact Below.refl _ _ | assumption | refine ba_alloc ?_ _ | refine ba_drew ?_ | refine ba_drewN ?_ _ | refine ba_via (by assumption) ?_ | (refine ba_set ?_ ?_ _; rotate_left; (first | omega | (simp; omega) | simp))))⟩
abbrev strA : ByteArray := ⟨#[97]⟩
abbrev strM : ByteArray := ⟨#[109]⟩
abbrev strD : ByteArray := ⟨#[100]⟩
abbrev box2 : Array Value := #[.int .i64 0, .int .i64 0, .int .i64 0, .int .i64 1000, .int .i64 200, .int .i64 300]
abbrev zone2 : Array Value := #[.int .i64 0, .int .i64 0, .int .i64 0, .int .i64 0, .int .i64 200, .int .i64 100]
abbrev mem2 (gx : Nat) : Array Value := #[.string strM, .slice (some ⟨gx, 0, none⟩) 1 1, .slice none 0 0, .int .i64 0, .int .i64 16, .int .i64 50]
abbrev barArr2 (g : Nat) : Array Value := #[.string strA, .int .i64 10, .int .i64 1, .int .i64 0, .slice (some ⟨g, 0, none⟩) 1 1]
abbrev runArr2 : Array Value := #[.string strA, .int .i64 1, .int .i64 2, .int .i64 0, .int .i64 50, .int .i64 50, .int .i64 0, .int .i64 0, .int .i64 0, .int .i64 1]
abbrev demArr2 : Array Value := #[.string strD, .int .i64 0, .int .i64 0, .int .i64 0, .int .i64 0, .int .i64 200, .int .i64 100, .slice none 0 0]
abbrev rule2 : Array Value := #[.int .i64 40, .int .i64 1, .int .i64 1, .int .i64 1, .int .i64 1, .int .i64 1, .int .i64 1, .int .i64 1, .int .i64 0]
abbrev exL2 (gx gb gr gd : Nat) : List Value := [.string strM, .slice (some ⟨gx, 0, none⟩) 1 1, .slice none 0 0, .int .i64 0, .int .i64 16, .int .i64 50, .slice (some ⟨gb, 0, none⟩) 1 1, .slice (some ⟨gr, 0, none⟩) 1 1, .slice none 0 0, .slice (some ⟨gd, 0, none⟩) 1 1,
  .int .i64 40, .int .i64 1, .int .i64 1, .int .i64 1, .int .i64 1, .int .i64 1, .int .i64 1, .int .i64 1, .int .i64 0]
/-- The lists of the example lie in memory, apart from block b. -/
structure ExBlks2 (w : World) (b gx g gb gr gd : Nat) : Prop where
  nx : gx ≠ b
  n0 : g ≠ b
  n1 : gb ≠ b
  n2 : gr ≠ b
  n3 : gd ≠ b
  box : Blk w gx 89 box2
  dims : Blk w g 3 #[.int .i64 1000]
  bar : Blk w gb 158 (barArr2 g)
  run : Blk w gr 183 runArr2
  dem : Blk w gd 103 demArr2
theorem ba_exc {w W W' : World} (h : Below w.heap.size w W) (hX : Exc [w.heap.size] W W') : Below w.heap.size w W' :=
  ⟨hX.os.trans h.os, hX.tape.trans h.tape, hX.output.trans h.output, Nat.le_trans h.size hX.size, fun k hk => (hX.block k (Nat.lt_of_lt_of_le hk h.size) (by simp; omega)).trans (h.block k hk)⟩
set_option maxRecDepth 20000 in
set_option maxHeartbeats 800000 in
theorem example26_any (w : World) : Calls Tryz.prog 80 #[] w fun e w' => ∃ gx g gb gr gd, e = .returned (.agg (exL2 gx gb gr gd).toArray) ∧ ExBlks2 w' w.heap.size gx g gb gr gd ∧ Below w.heap.size w w' := by
  go_enter Tryz.func80, Tryz.ntmps80
  go_upto_region 1 with fail
  have hD0 : Blk (w.alloc (.cells #[.string ⟨#[]⟩, .slice none 0 0, .slice none 0 0, .int .i64 0, .int .i64 0, .int .i64 0, .slice none 0 0, .slice none 0 0, .slice none 0 0, .slice none 0 0, .int .i64 0, .int .i64 0, .int .i64 0, .int .i64 0, .int .i64 0, .int .i64 0, .int .i64 0, .int .i64 0, .int .i64 0] 34)) w.heap.size 34 #[.string ⟨#[]⟩, .slice none 0 0, .slice none 0 0, .int .i64 0, .int .i64 0, .int .i64 0, .slice none 0 0, .slice none 0 0, .slice none 0 0, .slice none 0 0, .int .i64 0, .int .i64 0, .int .i64 0, .int .i64 0, .int .i64 0, .int .i64 0, .int .i64 0, .int .i64 0, .int .i64 0] := Blk.new _ _ _
  have hb3 : Below w.heap.size w (w.alloc (.cells #[.string ⟨#[]⟩, .slice none 0 0, .slice none 0 0, .int .i64 0, .int .i64 0, .int .i64 0, .slice none 0 0, .slice none 0 0, .slice none 0 0, .slice none 0 0, .int .i64 0, .int .i64 0, .int .i64 0, .int .i64 0, .int .i64 0, .int .i64 0, .int .i64 0, .int .i64 0, .int .i64 0] 34)) := ba_alloc (Below.refl _ _) _
  generalize (w.alloc (.cells #[.string ⟨#[]⟩, .slice none 0 0, .slice none 0 0, .int .i64 0, .int .i64 0, .int .i64 0, .slice none 0 0, .slice none 0 0, .slice none 0 0, .slice none 0 0, .int .i64 0, .int .i64 0, .int .i64 0, .int .i64 0, .int .i64 0, .int .i64 0, .int .i64 0, .int .i64 0, .int .i64 0] 34)) = W0 at *
  go_wp2_with (first
    | (go_at_call 136; (with_reducible refine (exat_any 1000 200 300 _).mono ?_); rintro e w1 ⟨rfl, hbw1⟩)
    | (go_at_call 136; (with_reducible refine (exat_any 0 50 50 _).mono ?_); rintro e w2 ⟨rfl, hbw2⟩)
    | (go_at_call 136; (with_reducible refine (exat_any 0 200 100 _).mono ?_); rintro e w3 ⟨rfl, hbw3⟩)
    | (with_reducible refine at_store 34 0 18 ?_
       go_loud (
       have hDz : Blk (w3.alloc (.cells demArr2 103)) w.heap.size 34 #[.string ⟨#[]⟩, .slice none 0 0, .slice none 0 0, .int .i64 0, .int .i64 0, .int .i64 0, .slice none 0 0, .slice none 0 0, .slice none 0 0, .slice none 0 0, .int .i64 0, .int .i64 0, .int .i64 0, .int .i64 0, .int .i64 0, .int .i64 0, .int .i64 0, .int .i64 0, .int .i64 0] := ((((((((hD0.via hbw1).alloc _).alloc _).alloc _).via hbw2).alloc _).via hbw3).alloc _)
       have e1 := hbw1.size
       have hk2 : w1.heap.size + 1 + 1 + 1 ≤ w2.heap.size := by have := hbw2.size; simp at this; omega
       have hk3 : w2.heap.size + 1 ≤ w3.heap.size := by have := hbw3.size; simp at this; omega
       have hgb : w.heap.size < w1.heap.size := (hD0.via hbw1).lt
       have hBox : Blk (w3.alloc (.cells demArr2 103)) w1.heap.size 89 box2 := (((((((Blk.new w1 _ _).alloc _).alloc _).via hbw2).alloc _).via hbw3).alloc _)
       have hDim : Blk (w3.alloc (.cells demArr2 103)) (w1.heap.size + 1) 3 #[.int .i64 1000] := ((((((Blk.newN (n := w1.heap.size + 1) (by simp) _ _).alloc _).via hbw2).alloc _).via hbw3).alloc _)
       have hBar : Blk (w3.alloc (.cells demArr2 103)) (w1.heap.size + 1 + 1) 158 (barArr2 (w1.heap.size + 1)) := (((((Blk.newN (n := w1.heap.size + 1 + 1) (by simp) _ _).via hbw2).alloc _).via hbw3).alloc _)
       have hRun : Blk (w3.alloc (.cells demArr2 103)) w2.heap.size 183 runArr2 := (((Blk.new w2 _ _).via hbw3).alloc _)
       have hDem : Blk (w3.alloc (.cells demArr2 103)) w3.heap.size 103 demArr2 := Blk.new w3 _ _
       have hbel : Below w.heap.size w (w3.alloc (.cells demArr2 103)) := (by repeat (with_reducible first | exact Below.refl _ _ | assumption | refine ba_alloc ?_ _ | refine ba_drew ?_ | refine ba_drewN ?_ _ | refine ba_via (by assumption) ?_ | (refine ba_set ?_ ?_ _; rotate_left; (first | omega | (simp; omega) | simp))))
       clear hbw1 hbw2 hbw3 hD0 hb3
       generalize (w3.alloc (.cells demArr2 103)) = WD at *
       have hPut : Blk (WD.setCells w.heap.size 0 (exL2 w1.heap.size (w1.heap.size + 1 + 1) w2.heap.size w3.heap.size).toArray.toList) w.heap.size 34 (exL2 w1.heap.size (w1.heap.size + 1 + 1) w2.heap.size w3.heap.size).toArray := Blk.put0 hDz (exL2 w1.heap.size (w1.heap.size + 1 + 1) w2.heap.size w3.heap.size).toArray rfl
       have hXs : Exc [w.heap.size] WD (WD.setCells w.heap.size 0 (exL2 w1.heap.size (w1.heap.size + 1 + 1) w2.heap.size w3.heap.size).toArray.toList) := exc_setCells _ _ _ _
       have hTh : WD.there w.heap.size 0 (exL2 w1.heap.size (w1.heap.size + 1 + 1) w2.heap.size w3.heap.size).toArray.size := hDz.there (by simp)
       refine wpList_store_mid rfl 34 (.tmp 0) (.tmp 18) rfl w.heap.size 0 (exL2 w1.heap.size (w1.heap.size + 1 + 1) w2.heap.size w3.heap.size).toArray rfl rfl hTh (by kernel_rfl) (all_oneCell_toArray (by simp [Value.oneCell'])) ?_
       generalize (WD.setCells w.heap.size 0 (exL2 w1.heap.size (w1.heap.size + 1 + 1) w2.heap.size w3.heap.size).toArray.toList) = WF at *)))
  have hbF : Below w.heap.size w WF := ba_exc hbel hXs
  refine bodyPost_ret (v := .agg (exL2 w1.heap.size (w1.heap.size + 1 + 1) w2.heap.size w3.heap.size).toArray) ?_ rfl ⟨_, w1.heap.size + 1, _, _, _, rfl, ⟨by omega, by omega, by omega, by omega, by omega, hBox.exc hXs (by simp; omega), hDim.exc hXs (by simp; omega), hBar.exc hXs (by simp; omega), hRun.exc hXs (by simp; omega), hDem.exc hXs (by simp; omega)⟩, hbF⟩
  have hres : (loadVar 34 ⟨w.heap.size, 0, none⟩).run Tryz.prog WF = .ok (.agg (exL2 w1.heap.size (w1.heap.size + 1 + 1) w2.heap.size w3.heap.size).toArray) WF := run_loadVar_mid WF w.heap.size 0 _ _ _ hPut.range Tryz.underlying34 rfl (by kernel_rfl)
  have ha : (asAddr (.pointer (some ⟨w.heap.size, 0, none⟩))).run Tryz.prog WF = .ok ⟨w.heap.size, 0, none⟩ WF := by kernel_rfl
  simp [results, Tryz.results80, Act.put, ha, hres, Result.andThen]
end Go.Proofs.YtffkmgjmlahfpaaGreat
set_option linter.unusedVariables false
set_option linter.unusedSimpArgs false
namespace Go.Proofs.YtffkmgjmlahfpaaGreat
open Go.RowKit
theorem Blk.cells {w : World} {g : Nat} {t : TypeId} {cs : List Value} (h : Blk w g t cs.toArray) : Cells w w.heap.size (some ⟨g, 0, none⟩) cs := .inr ⟨g, 0, rfl, h.lt, fun j v hv => by
  rw [Nat.zero_add]
  exact (h.cell j).trans (by simpa using hv)⟩
theorem ex_le1 : 1 ≤ 9223372036854775807 := by decide
theorem ex_le0 : 0 ≤ 9223372036854775807 := by decide
def exBar2 (g : Nat) : BarR := ⟨⟨strA, 10, 1, 0, [1000]⟩, some ⟨g, 0, none⟩, 1, 1⟩
def exDt2 (gx g gb gr gd : Nat) : Dt where
  m := ⟨strM, [⟨⟨0, 0, 0⟩, ⟨1000, 200, 300⟩⟩], [], 0, 16, 50⟩
  mA := some ⟨gx, 0, none⟩
  mn := 1
  mc := 1
  hA := none
  hn := 0
  hc := 0
  bs := [exBar2 g]
  bA := some ⟨gb, 0, none⟩
  bn := 1
  bc := 1
  rs := [⟨strA, 1, 2, ⟨0, 50, 50⟩, ⟨0, 0, 0⟩, 1⟩]
  rA := some ⟨gr, 0, none⟩
  rn := 1
  rc := 1
  js := []
  jA := none
  jn := 0
  jc := 0
  dA := some ⟨gd, 0, none⟩
  dn := 1
  dc := 1
  rule := ⟨40, 1, 1, 1, 1, 1, 1, 1, 0⟩
def exDem : Dm := ⟨strD, ⟨⟨0, 0, 0⟩, ⟨0, 200, 100⟩⟩, [], none, 0, 0⟩
theorem ex2_dtV (gx g gb gr gd : Nat) : dtV (exDt2 gx g gb gr gd) = .agg (exL2 gx gb gr gd).toArray := rfl
theorem ex2_ok {w : World} {b gx g gb gr gd : Nat} (h : ExBlks2 w b gx g gb gr gd) : DtOk w (exDt2 gx g gb gr gd) [exDem] := by
  refine ⟨⟨⟨rfl, ex_le1, rfl, ex_le0, h.box.cells, Cells.nil⟩, ex_le1, ⟨rfl, ex_le1, h.bar.cells, fun r hr => ?_⟩, ⟨rfl, ex_le1, h.run.cells⟩, rfl, ex_le0, Cells.nil⟩, ⟨rfl, ex_le1, h.dem.cells, fun d hd => ?_, fun d hd => ?_⟩, Nat.le_refl _⟩
  · rw [show (exDt2 gx g gb gr gd).bs = [exBar2 g] from rfl, List.mem_singleton] at hr
    subst hr
    exact ⟨rfl, ex_le1, ex_le1, h.dims.cells⟩
  · rw [List.mem_singleton] at hd
    subst hd
    exact ⟨rfl, ex_le0, Cells.nil⟩
  · rw [List.mem_singleton] at hd
    subst hd
    exact ex_le1
theorem ex2_look (gx g gb gr gd : Nat) : S.look (exDt2 gx g gb gr gd) (S.dems [exDem]) = true := by kernel_rfl
theorem ex2_n (gx g gb gr gd : Nat) : S.nOf (exDt2 gx g gb gr gd) = 1 := by kernel_rfl
theorem ex2_c (gx g gb gr gd : Nat) : S.cOf (exDt2 gx g gb gr gd) = [[0]] := by kernel_rfl
def exRod (g : Nat) : Rod := ⟨exBar2 g, [⟨⟨0, 50, 50⟩, ⟨1000, 50, 50⟩⟩], none, 0, 0⟩
theorem ex2_rods (gx g gb gr gd : Nat) : RodsOf (exDt2 gx g gb gr gd) (S.nOf (exDt2 gx g gb gr gd)) [exRod g] := by
  have hla := (look_ok (ex2_look gx g gb gr gd)).laid
  obtain ⟨k, j, k0, r, hL⟩ := lies_of hla (i := 0) (by rw [show (S.mains (bars (exDt2 gx g gb gr gd).bs) (exDt2 gx g gb gr gd).rs).length = 1 from ex2_n gx g gb gr gd]; decide)
  have hk : k = 0 := by have := hL.st.lt; rw [show (exDt2 gx g gb gr gd).rs.length = 1 from rfl] at this; omega
  subst hk
  have hj : j = 0 := by have := hL.st.sum; rw [sumTo_zero] at this; omega
  subst hj
  have hk0 : k0 = 0 := by have := (List.getElem?_eq_some_iff.1 hL.get).1; rw [show (exDt2 gx g gb gr gd).bs.length = 1 from rfl] at this; omega
  subst hk0
  have hr : r = exBar2 g := by have := hL.get; rw [show (exDt2 gx g gb gr gd).bs[0]? = some (exBar2 g) from rfl] at this; injection this with this; exact this.symm
  subst hr
  refine ⟨(ex2_n gx g gb gr gd).symm, fun i hi => ?_⟩
  have hi0 : i = 0 := by simp at hi; exact hi
  subst hi0
  exact ⟨⟨0, 0, 0, hL, by kernel_rfl⟩, by kernel_rfl⟩
def exSch : SCh := ⟨none, 0, [0], 400, 600, true, 7854⟩
theorem ex2_sch (gx g gb gr gd : Nat) : S.schOf (exDt2 gx g gb gr gd) [exRod g] [0] = exSch := by kernel_rfl
theorem ex2_sup (g : Nat) : S.sup [exRod g] exDem.zone exSch = true := by kernel_rfl
theorem ex2_at (gx g gb gr gd : Nat) : S.supplyAt (exDt2 gx g gb gr gd) [exRod g] (S.cOf (exDt2 gx g gb gr gd)) exDem.zone 599 = 7854 := by
  unfold S.supplyAt
  rw [ex2_c, List.map_cons, List.map_nil, ex2_sch]
  kernel_rfl
theorem ex2_sort : S.sortI [400, 600] = [400, 600] := by
  unfold S.sortI
  exact List.mergeSort_of_pairwise (by decide)
theorem ex2_of (gx g gb gr gd : Nat) : S.supplyOf (exDt2 gx g gb gr gd) [exRod g] (S.cOf (exDt2 gx g gb gr gd)) exDem.zone = [⟨400, 7854⟩, ⟨600, 0⟩] := by
  unfold S.supplyOf
  rw [ex2_c, List.map_cons, List.map_nil, ex2_sch, List.filter_cons, if_pos (ex2_sup g), List.filter_nil]
  unfold S.ofL S.places
  rw [show S.ends2 [exSch] = [400, 600] from rfl, ex2_sort]
  kernel_rfl
end Go.Proofs.YtffkmgjmlahfpaaGreat
set_option linter.unusedVariables false
set_option linter.unusedSimpArgs false
namespace Go.Proofs.YtffkmgjmlahfpaaGreat
open Go.RowKit
set_option maxHeartbeats 2000000 in
/-- supply.Anchored of an index in range. -/
theorem Anch_any (x : Dt) (C : List (List Int)) (n : Nat) (k : Nat) (w : World) (hC : C.length ≤ 2000) (hk : k < C.length)
    (hCH : ∀ W, Below w.heap.size w W → Calls Tryz.prog 93 #[dtV x] W (GivesSup x C n W)) :
    Calls Tryz.prog 40 #[dtV x, .int .i64 k] w fun e w' => ∃ (rs : List Rod) (c : SCh), e = .returned (.tuple #[.agg #[.int .i64 (if c.is then c.lo else 0), .int .i64 (if c.is then c.hi else 0)], .int .i64 (if c.is then 0 else 12)]) ∧ rs.length = n ∧ (∀ (i : Nat) (hi : i < rs.length), RodOk x i rs[i]) ∧ SchOk x rs C[k] c ∧ Below w.heap.size w w' := by
  have HCH := Lib.hid hCH
  clear hCH
  unfold dtV at HCH
  unfold dtV
  have hDB := (Blk.new w 34 #[.string x.m.name, .slice x.mA x.mn x.mc, .slice x.hA x.hn x.hc, .int .i64 x.m.cover, .int .i64 x.m.aggr, .int .i64 x.m.poker, .slice x.bA x.bn x.bc, .slice x.rA x.rn x.rc, .slice x.jA x.jn x.jc, .slice x.dA x.dn x.dc, .int .i64 x.rule.num, .int .i64 x.rule.den, .int .i64 x.rule.pnum, .int .i64 x.rule.pden, .int .i64 x.rule.bnum, .int .i64 x.rule.bden, .int .i64 x.rule.lnum, .int .i64 x.rule.lden, .int .i64 x.rule.least]).alloc (.cells #[.int .i64 0, .int .i64 0] 45)
  have hSB := Blk.newN (W := w.alloc (.cells #[.string x.m.name, .slice x.mA x.mn x.mc, .slice x.hA x.hn x.hc, .int .i64 x.m.cover, .int .i64 x.m.aggr, .int .i64 x.m.poker, .slice x.bA x.bn x.bc, .slice x.rA x.rn x.rc, .slice x.jA x.jn x.jc, .slice x.dA x.dn x.dc, .int .i64 x.rule.num, .int .i64 x.rule.den, .int .i64 x.rule.pnum, .int .i64 x.rule.pden, .int .i64 x.rule.bnum, .int .i64 x.rule.bden, .int .i64 x.rule.lnum, .int .i64 x.rule.lden, .int .i64 x.rule.least] 34)) (n := w.heap.size + 1) (by simp) 45 #[.int .i64 0, .int .i64 0]
  have hW1 : Below w.heap.size w ((w.alloc (.cells #[.string x.m.name, .slice x.mA x.mn x.mc, .slice x.hA x.hn x.hc, .int .i64 x.m.cover, .int .i64 x.m.aggr, .int .i64 x.m.poker, .slice x.bA x.bn x.bc, .slice x.rA x.rn x.rc, .slice x.jA x.jn x.jc, .slice x.dA x.dn x.dc, .int .i64 x.rule.num, .int .i64 x.rule.den, .int .i64 x.rule.pnum, .int .i64 x.rule.pden, .int .i64 x.rule.bnum, .int .i64 x.rule.bden, .int .i64 x.rule.lnum, .int .i64 x.rule.lden, .int .i64 x.rule.least] 34)).alloc (.cells #[.int .i64 0, .int .i64 0] 45)) := ba_alloc (ba_alloc (Below.refl _ _) _) _
  go_enter Tryz.func40, Tryz.ntmps40
  go_upto_region 1 with fail
  generalize ((w.alloc (.cells #[.string x.m.name, .slice x.mA x.mn x.mc, .slice x.hA x.hn x.hc, .int .i64 x.m.cover, .int .i64 x.m.aggr, .int .i64 x.m.poker, .slice x.bA x.bn x.bc, .slice x.rA x.rn x.rc, .slice x.jA x.jn x.jc, .slice x.dA x.dn x.dc, .int .i64 x.rule.num, .int .i64 x.rule.den, .int .i64 x.rule.pnum, .int .i64 x.rule.pden, .int .i64 x.rule.bnum, .int .i64 x.rule.bden, .int .i64 x.rule.lnum, .int .i64 x.rule.lden, .int .i64 x.rule.least] 34)).alloc (.cells #[.int .i64 0, .int .i64 0] 45)) = W1 at *
  have HDB := Lib.hid hDB
  clear hDB
  go_upto_region 2 with (first
    | ((with_reducible refine at_load 34 2 ?_); refine wpList_load_mid rfl 34 (.tmp 2) rfl _ _ rfl _ _ (HDB.out.via (by repeat (with_reducible first | exact Below.refl _ _ | assumption | refine ba_alloc ?_ _ | refine ba_drew ?_ | refine ba_drewN ?_ _ | refine ba_via (by assumption) ?_ | (refine ba_set ?_ ?_ _; rotate_left; (first | omega | (simp; omega) | simp))))).range Tryz.underlying34 rfl (by kernel_rfl) ?_)
    | (go_at_call 93; (with_reducible refine (HCH.out _ (by repeat (with_reducible first | exact Below.refl _ _ | assumption | refine ba_alloc ?_ _ | refine ba_drew ?_ | refine ba_drewN ?_ _ | refine ba_via (by assumption) ?_ | (refine ba_set ?_ ?_ _; rotate_left; (first | omega | (simp; omega) | simp))))).mono ?_); rintro e w2 ⟨A1, c1, rs, A2, c2, cs, rfl, hrl, hok, hRA, hOW, hcl, hsch, hcc, hbw2⟩; have HRL := Lib.hid hrl; have HOK := Lib.hid hok; have HOW := Lib.hid hOW; have HCL := Lib.hid hcl; have HSC := Lib.hid hsch; clear hrl hok hRA hOW hcl hsch hcc))
  have hkx : k < cs.length := by rw [HCL.out]; exact hk
  have hCS := (own_cells HOW.out (by have := HCL.out; unfold maxLen; omega)).1
  obtain ⟨b2, o2, hA2, hbb2, hxx⟩ := hCS.at_ (by rw [flat_len schC 5 schC_len]; omega)
  clear hxx
  subst hA2
  have c1' := hCS.rowj schC_len hkx 1 rfl
  have c2' := hCS.rowj schC_len hkx 2 rfl
  have c3' := hCS.rowj schC_len hkx 3 rfl
  have HK := Lib.hid (HSC.out k hkx hk)
  have hki : (k : Int) < cs.length := by omega
  have hk0 : ¬ ((k : Int) < 0) := by omega
  have hk1 : ¬ ((cs.length : Int) ≤ k) := by omega
  have hS2 := hSB.via hbw2
  have s0 := hS2.cell 0
  have s1 := hS2.cell 1
  have sf0 := hS2.frozen 0
  have sf1 := hS2.frozen 1
  have sl := hS2.lt
  simp only [List.getElem?_toArray, List.getElem?_cons_zero, List.getElem?_cons_succ] at s0 s1
  have hw2 : Below w.heap.size w w2 := ba_via hbw2 hW1
  have hs2 := hbw2.size
  have hs1 := hW1.size
  clear hCS HOW HSC HCH HDB hSB
  generalize cs[k] = c at *
  cases his : c.is
  · rw [his] at c3'
    go_wp2
    exact bodyPost_ret (v := .tuple #[.agg #[.int .i64 0, .int .i64 0], .int .i64 12]) (by simp [results, Tryz.results40, go_sem, *]) rfl ⟨rs, c, by rw [his]; rfl, HRL.out, HOK.out, HK.out, (hw2.setCell (Nat.le_succ _) _).setCell (Nat.le_succ _) _⟩
  · rw [his] at c3'
    go_wp2
    exact bodyPost_ret (v := .tuple #[.agg #[.int .i64 c.lo, .int .i64 c.hi], .int .i64 0]) (by simp [results, Tryz.results40, go_sem, *]) rfl ⟨rs, c, by rw [his]; rfl, HRL.out, HOK.out, HK.out, (hw2.setCell (Nat.le_succ _) _).setCell (Nat.le_succ _) _⟩
end Go.Proofs.YtffkmgjmlahfpaaGreat
set_option linter.unusedVariables false
set_option linter.unusedSimpArgs false
namespace Go.Proofs.YtffkmgjmlahfpaaGreat
open Go.RowKit
theorem stp_ext {a b : Stp} (h1 : a.fro = b.fro) (h2 : a.val = b.val) : a = b := by cases a; cases b; simp_all
set_option maxHeartbeats 2000000 in
/-- Equal of equal steps is true. -/
theorem eqSt_yes (l : List Stp) (A : Option Addr) (n c : Nat) (A' : Option Addr) (c' : Nat) (B : Nat) (w : World) (hB : B ≤ w.heap.size) (hA : StepsAt w B A n l) (hA' : StepsAt w B A' n l) :
    Calls Tryz.prog 35 #[.slice A n c, .slice A' n c'] w fun e w' => e = .returned (.bool true) ∧ Below w.heap.size w w' := by
  have HN := Lib.hid hA.len
  have hmx := hA.max
  have hs := hA.cells
  have hs' := hA'.cells
  clear hA hA'
  go_enter Tryz.func35, Tryz.ntmps35
  go_wp2
  go_loopw [13] (fun i wr => ∃ k : Nat, k ≤ n ∧ i = .int .i64 k ∧ Below w.heap.size w wr) (fun i _ => n - (intOf i).toNat)
  case atStart => exact ⟨0, Nat.zero_le _, rfl, Below.refl _ _⟩
  case round =>
    obtain ⟨k, hk, rfl, hbr⟩ := hrel
    by_cases hlt : k < n
    · have hkx : k < l.length := by have := HN.out; omega
      have h1 := hs.below (hbr.mono hB)
      have h2 := hs'.below (hbr.mono hB)
      obtain ⟨b, o, rfl, hbB, hx⟩ := h1.at_ (by rw [flat_len stC 2 stC_len]; omega)
      clear hx
      obtain ⟨b', o', rfl, hbB', hx⟩ := h2.at_ (by rw [flat_len stC 2 stC_len]; omega)
      clear hx
      have c0 := h1.row0 stC_len hkx rfl
      have c1 := h1.rowj stC_len hkx 1 rfl
      have d0 := h2.row0 stC_len hkx rfl
      have d1 := h2.rowj stC_len hkx 1 rfl
      clear h1 h2
      have hbl : b < wr.heap.size := by have := hbr.size; omega
      have hbl' : b' < wr.heap.size := by have := hbr.size; omega
      have hki : (k : Int) < n := by omega
      generalize l[k] = r at *
      go_wp2
      go_quiet (fail)
      go_wp2
      go_roundw
      case rel => exact ⟨k + 1, by omega, by go_num, (by repeat (first | exact Below.refl _ _ | assumption | refine ba_alloc ?_ _ | refine ba_drew ?_ | refine ba_drewN ?_ _ | refine ba_via (by assumption) ?_ | (refine ba_set ?_ ?_ _; rotate_left; (first | omega | (simp; omega) | simp))))⟩
      case measure => simp [intOf]; omega
    · have hki : ¬ ((k : Int) < n) := by omega
      go_wp2
      go_ret
      exact ⟨rfl, hbr⟩
end Go.Proofs.YtffkmgjmlahfpaaGreat
set_option linter.unusedVariables false
set_option linter.unusedSimpArgs false
namespace Go.Proofs.YtffkmgjmlahfpaaGreat
open Go.RowKit
section
variable {gx g gb gr gd b : Nat} {w : World}
theorem ex2_anch (h : ExBlks2 w b gx g gb gr gd) (W : World) (hw : Below w.heap.size w W) : Calls Tryz.prog 40 #[.agg (exL2 gx gb gr gd).toArray, .int .i64 0] W fun e w' => e = .returned (.tuple #[.agg #[.int .i64 400, .int .i64 600], .int .i64 0]) ∧ Below W.heap.size W w' := by
  rw [← ex2_dtV gx g gb gr gd]
  have hc := ex2_c gx g gb gr gd
  have h0 : 0 < (S.cOf (exDt2 gx g gb gr gd)).length := by rw [hc]; decide
  refine (Anch_any (exDt2 gx g gb gr gd) (S.cOf (exDt2 gx g gb gr gd)) (S.nOf (exDt2 gx g gb gr gd)) 0 W (by rw [hc]; decide) h0 (fun V hV => good_chains (ex2_ok h) (ex2_look gx g gb gr gd) V (hw.trans (hV.mono hw.size)))).mono ?_
  rintro e w' ⟨rs, c, rfl, h1, h2, h3, h4⟩
  have hb := sch_bare ⟨h1, h2⟩ (ex2_rods gx g gb gr gd) h3
  rw [show (S.cOf (exDt2 gx g gb gr gd))[0] = [0] by simp [hc], ex2_sch] at hb
  have e1 : c.is = true := congrArg SCh.is hb
  have e2 : c.lo = 400 := congrArg SCh.lo hb
  have e3 : c.hi = 600 := congrArg SCh.hi hb
  rw [e1, e2, e3]
  exact ⟨rfl, h4⟩
theorem ex2_Of (h : ExBlks2 w b gx g gb gr gd) (W : World) (hw : Below w.heap.size w W) : Calls Tryz.prog 31 #[.agg (exL2 gx gb gr gd).toArray, .int .i64 0] W fun e w' => ∃ (A : Option Addr) (c : Nat), e = .returned (.tuple #[.slice A 2 c, .int .i64 0]) ∧
    StepsAt w' w'.heap.size A 2 [⟨400, 7854⟩, ⟨600, 0⟩] ∧ Below W.heap.size W w' := by
  rw [← ex2_dtV gx g gb gr gd]
  refine (good_Of (ex2_ok h) (ex2_look gx g gb gr gd) (by rw [ex2_c]; decide) (k := 0) (d := exDem) rfl (ex2_rods gx g gb gr gd) W hw).mono ?_
  rintro e w' ⟨A, c, rfl, h1, h2⟩
  rw [ex2_of] at h1 ⊢
  exact ⟨A, c, rfl, ⟨rfl, by decide, (own_cells h1 (by unfold maxLen; decide)).1⟩, h2⟩
theorem ex2_At (h : ExBlks2 w b gx g gb gr gd) (W : World) (hw : Below w.heap.size w W) : Calls Tryz.prog 30 #[.agg (exL2 gx gb gr gd).toArray, .int .i64 0, .int .i64 599] W fun e w' => e = .returned (.tuple #[.int .i64 7854, .int .i64 0]) ∧ Below W.heap.size W w' := by
  rw [← ex2_dtV gx g gb gr gd]
  have := good_At (ex2_ok h) (ex2_look gx g gb gr gd) (k := 0) (d := exDem) rfl (p := 599) (by decide) (ex2_rods gx g gb gr gd) W hw
  rw [ex2_at] at this
  exact this
end
set_option maxHeartbeats 2000000 in
theorem awake26_any (w : World) : Calls Tryz.prog 28 #[] w fun e w' => e = .returned (.bool true) ∧ Below w.heap.size w w' := by
  have HEX := Lib.hid (fun w => example26_any w)
  go_enter Tryz.func28, Tryz.ntmps28
  go_upto_region 2 with (first
    | (go_at_call 80; (with_reducible refine (HEX.out _).mono ?_); rintro e w1 ⟨gx1, g1, gb1, gr1, gd1, rfl, hE1, hb1⟩)
    | (go_at_call 40; (with_reducible refine (ex2_anch hE1 _ (Below.refl _ _)).mono ?_); rintro e w2 ⟨rfl, hb2⟩))
  have hS2 := Blk.new w2 45 #[.int .i64 400, .int .i64 600]
  have hW2 : Below w.heap.size w (w2.alloc (.cells #[.int .i64 400, .int .i64 600] 45)) := ba_alloc (ba_via hb2 hb1) _
  have hl2 : w2.heap.size < (w2.alloc (.cells #[.int .i64 400, .int .i64 600] 45)).heap.size := hS2.lt
  generalize (w2.alloc (.cells #[.int .i64 400, .int .i64 600] 45)) = W2 at *
  generalize w2.heap.size = gs at *
  clear hE1 hb1 hb2
  go_upto_region 3 with (first
    | (go_at_call 80; (with_reducible refine (HEX.out _).mono ?_); rintro e w3 ⟨gx3, g3, gb3, gr3, gd3, rfl, hE3, hb3⟩)
    | (go_at_call 31; (with_reducible refine (ex2_Of hE3 _ (Below.refl _ _)).mono ?_); rintro e w4 ⟨A4, c4, rfl, hs4, hb4⟩))
  have hW4 : Below W2.heap.size W2 w4 := ba_via hb4 hb3
  have hS4 := hS2.via hW4
  clear hE3
  go_upto_region 4 with (first
    | (go_at_call 80; (with_reducible refine (HEX.out _).mono ?_); rintro e w5 ⟨gx5, g5, gb5, gr5, gd5, rfl, hE5, hb5⟩)
    | (go_at_call 30; (with_reducible refine (ex2_At hE5 _ (Below.refl _ _)).mono ?_); rintro e w6 ⟨rfl, hb6⟩))
  have hW6 : Below w4.heap.size w4 w6 := ba_via hb6 hb5
  have hS6 := hS4.via hW6
  have hs6 := hs4.below hW6
  have s0 := hS6.cell 0
  have s1 := hS6.cell 1
  have sl := hS6.lt
  simp only [List.getElem?_toArray, List.getElem?_cons_zero, List.getElem?_cons_succ] at s0 s1
  have hL := Blk.new w6 81 #[.int .i64 400, .int .i64 7854, .int .i64 600, .int .i64 0]
  have HEQ := Lib.hid (show Calls Tryz.prog 35 #[.slice A4 2 c4, .slice (some ⟨w6.heap.size, 0, none⟩) 2 2] (w6.alloc (.cells #[.int .i64 400, .int .i64 7854, .int .i64 600, .int .i64 0] 81)) (fun e w' => e = .returned (.bool true) ∧ Below (w6.alloc (.cells #[.int .i64 400, .int .i64 7854, .int .i64 600, .int .i64 0] 81)).heap.size (w6.alloc (.cells #[.int .i64 400, .int .i64 7854, .int .i64 600, .int .i64 0] 81)) w') from
    eqSt_yes [⟨400, 7854⟩, ⟨600, 0⟩] A4 2 c4 (some ⟨w6.heap.size, 0, none⟩) 2 (w6.alloc (.cells #[.int .i64 400, .int .i64 7854, .int .i64 600, .int .i64 0] 81)).heap.size _ (Nat.le_refl _) ⟨rfl, by decide, ((hs6.cells.mono (Nat.le_trans (Nat.le_refl _) (hW6.size))).alloc (Nat.le_refl _) _).mono (by simp)⟩ ⟨rfl, by decide, hL.cells⟩)
  have hbw6 : Below w.heap.size w w6 := ba_via hW6 (ba_via hW4 hW2)
  clear hE5 hS2 hS4 hL hs4 hs6 hb3 hb4 hb5 hb6 hS6
  go_wp2_with (go_at_call 35; (with_reducible refine HEQ.out.mono ?_); rintro e w7 ⟨rfl, hb7⟩)
  go_ret
  exact ⟨rfl, ba_via hb7 (ba_alloc hbw6 _)⟩
end Go.Proofs.YtffkmgjmlahfpaaGreat
set_option linter.unusedVariables false
set_option linter.unusedSimpArgs false
namespace Go.Proofs.YtffkmgjmlahfpaaGreat
open Go.RowKit
structure Harder (r r' : Rule) : Prop where
  num : r.num ≤ r'.num
  den : r'.den = r.den
  pnum : r'.pnum = r.pnum
  pden : r'.pden = r.pden
  bnum : r'.bnum = r.bnum
  bden : r'.bden = r.bden
  least : r.least ≤ r'.least
theorem basic_harder {r r' : Rule} (hr : RuleOk r) (h : Harder r r') {d : Int} (hd : 0 ≤ d) : S.basic r d ≤ S.basic r' d := by
  have h1 : S.up d r.num r.den ≤ S.up d r'.num r'.den := by
    rw [h.den]
    unfold S.up
    have := Int.mul_le_mul_of_nonneg_left h.num hd
    exact Int.ediv_le_ediv (by have := hr.den; omega) (by omega)
  have h2 := h.least
  unfold S.basic
  split <;> split <;> omega
theorem length_harder {r r' : Rule} (hr : RuleOk r) (h : Harder r r') {d : Int} (hd : 0 ≤ d) (p b : Bool) : S.length r d p b ≤ S.length r' d p b := by
  have h1 := basic_harder hr h hd
  have h2 : S.poorUp r p (S.basic r d) ≤ S.poorUp r' p (S.basic r' d) := by
    have := poorUp_mono hr p h1
    refine Int.le_trans this (Int.le_of_eq ?_)
    unfold S.poorUp
    rw [h.pnum, h.pden]
  have h3 : S.bentUp r b (S.poorUp r p (S.basic r d)) ≤ S.bentUp r' b (S.poorUp r' p (S.basic r' d)) := by
    have := bentUp_mono hr b h2
    refine Int.le_trans this (Int.le_of_eq ?_)
    unfold S.bentUp
    rw [h.bnum, h.bden]
  have h4 := h.least
  unfold S.length S.atLeast
  split <;> split <;> omega
def withRule (x : Dt) (r : Rule) : Dt := { x with rule := r }
theorem endLen_harder {x : Dt} {r' : Rule} (hr : RuleOk x.rule) (h : Harder x.rule r') {b : Bar} (hb : S.size b.size = true) (xs : List Bx) (k : Nat) (p : Pt) : S.endLen x.rule x.m b xs k p ≤ S.endLen r' x.m b xs k p := by
  unfold S.endLen
  exact length_harder hr h (by rcases size_cases hb with h | h | h | h | h | h | h | h | h <;> omega) _ _
theorem span_harder {x : Dt} {r' : Rule} {a b : Rod} (hr : RuleOk x.rule) (h : Harder x.rule r') (ha : S.size a.bar.b.size = true) (hb : S.size b.bar.b.size = true) (ht : (S.spanOf (withRule x r') a b).2.2 = true) :
    (S.spanOf x a b).2.2 = true ∧ (S.spanOf x a b).1 ≤ (S.spanOf (withRule x r') a b).1 ∧ (S.spanOf (withRule x r') a b).2.1 ≤ (S.spanOf x a b).2.1 := by
  have e1 : S.lowOf x a ≤ S.lowOf (withRule x r') a := endLen_harder hr h ha _ _ _
  have e2 : S.upOf x b ≤ S.upOf (withRule x r') b := endLen_harder hr h hb _ _ _
  unfold S.spanOf at ht ⊢
  split at ht
  · cases ht
  · rename_i h1
    split at ht
    · cases ht
    · rename_i h2
      split at ht
      · rename_i h3
        rw [if_neg h1, if_neg h2, if_neg h1, if_neg h2, if_pos h3, if_pos (by omega)]
        exact ⟨rfl, by show _ + _ ≤ _ + _; omega, by show _ - _ ≤ _ - _; omega⟩
      · cases ht
theorem steelArea_nonneg (d : Int) : 0 ≤ S.steelArea d := by
  unfold S.steelArea
  have h : 0 ≤ d * d := by
    rcases Int.le_total 0 d with h | h
    · exact Int.mul_nonneg h h
    · exact Int.mul_nonneg_of_nonpos_of_nonpos h h
  rw [Int.mul_assoc]
  exact Int.ediv_nonneg (by omega) (by decide)
/-- The chain of the harder rule. -/
theorem sch_harder {x : Dt} {r' : Rule} {n : Nat} {rs : List Rod} (hla : S.laid (bars x.bs) x.rs = true) (hr : RuleOk x.rule) (h : Harder x.rule r') (hrs : RodsOf x n rs) (l : List Int) (z : Bx) (p : Int) (ht : S.supAt z p rs (S.schOf (withRule x r') rs l) = true) : S.supAt z p rs (S.schOf x rs l) = true := by
  unfold S.supAt S.sup S.atPl at ht ⊢
  simp only [Bool.and_eq_true, decide_eq_true_eq] at ht ⊢
  obtain ⟨⟨h1, h2⟩, h3, h4⟩ := ht
  have hsz : ∀ (k : Nat) (r : Rod), rs[k]? = some r → S.size r.bar.b.size = true := fun k r hk => by
    obtain ⟨hx, rfl⟩ := List.getElem?_eq_some_iff.1 hk
    exact bar_size (rod_fit (hrs.ok k hx) hla).bar
  have key : (S.spanL x rs l).2.2 = true ∧ (S.spanL x rs l).1 ≤ (S.spanL (withRule x r') rs l).1 ∧ (S.spanL (withRule x r') rs l).2.1 ≤ (S.spanL x rs l).2.1 := by
    change (S.spanL (withRule x r') rs l).2.2 = true at h3
    unfold S.spanL at h3 ⊢
    cases ha : rs[(l.headD 0).toNat]? with
    | none => rw [ha] at h3; cases h3
    | some a =>
      cases hb : rs[(l.getLastD 0).toNat]? with
      | none => rw [ha, hb] at h3; cases h3
      | some b =>
        rw [ha, hb] at h3
        exact span_harder hr h (hsz _ a ha) (hsz _ b hb) h3
  obtain ⟨k1, k2, k3⟩ := key
  change (S.spanL (withRule x r') rs l).1 ≤ p at h1
  change p < (S.spanL (withRule x r') rs l).2.1 at h2
  exact ⟨⟨Int.le_trans k2 h1, Int.lt_of_lt_of_le h2 k3⟩, k1, h4⟩
theorem supplyAt_harder {x : Dt} {r' : Rule} {n : Nat} {rs : List Rod} (hla : S.laid (bars x.bs) x.rs = true) (hr : RuleOk x.rule) (h : Harder x.rule r') (hrs : RodsOf x n rs) (C : List (List Int)) (z : Bx) (p : Int) : S.supplyAt (withRule x r') rs C z p ≤ S.supplyAt x rs C z p := by
  suffices hs : ∀ (C : List (List Int)) (u v : Int), u ≤ v → (((C.map (S.schOf (withRule x r') rs)).filter (S.supAt z p rs)).foldl (fun n r => if S.atPl p r then n + r.area else n) u) ≤ (((C.map (S.schOf x rs)).filter (S.supAt z p rs)).foldl (fun n r => if S.atPl p r then n + r.area else n) v) by
    exact hs C 0 0 (Int.le_refl _)
  intro C
  induction C with
  | nil => intro u v huv; exact huv
  | cons l t ih =>
    intro u v huv
    rw [List.map_cons, List.map_cons, List.filter_cons, List.filter_cons]
    have hat : ∀ c, S.supAt z p rs c = true → S.atPl p c = true := fun c hc => by
      unfold S.supAt at hc
      rw [Bool.and_eq_true] at hc
      exact hc.1
    have ha := steelArea_nonneg (S.sizeI rs (minBy (S.sizeI rs) l))
    by_cases h1 : S.supAt z p rs (S.schOf (withRule x r') rs l) = true
    · have h2 := sch_harder hla hr h hrs l z p h1
      rw [if_pos h1, if_pos h2, List.foldl_cons, List.foldl_cons, if_pos (hat _ h1), if_pos (hat _ h2)]
      refine ih _ _ ?_
      show u + S.steelArea _ ≤ v + S.steelArea _
      omega
    · rw [if_neg h1]
      split
      · rename_i h2
        rw [List.foldl_cons, if_pos (hat _ h2)]
        refine ih _ _ ?_
        show u ≤ v + S.steelArea _
        omega
      · exact ih _ _ huv
/-- What a harder rule does to supply.At. -/
theorem longer_At {x : Dt} {ds : List Dm} {w : World} (h : DtOk w x ds) (hlk : S.look x (S.dems ds) = true) {r' : Rule} (hh : Harder x.rule r') {k : Nat} {d : Dm} (hk : ds[k]? = some d) {p : Int} (hp : -1048576 ≤ p ∧ p ≤ 1048576) {rs : List Rod} (hrs : RodsOf x (S.nOf x) rs) :
    ∃ m f : Int, (f = 1 ∨ (f = 0 ∧ m ≤ S.supplyAt x rs (S.cOf x) d.zone p)) ∧ ∀ W, Below w.heap.size w W → Calls Tryz.prog 30 #[dtV (withRule x r'), .int .i64 k, .int .i64 p] W fun e w' => e = .returned (.tuple #[.int .i64 m, .int .i64 f]) ∧ Below W.heap.size W w' := by
  have hy : DtOk w (withRule x r') ds := ⟨⟨h.at_.sol, h.at_.name, h.at_.bars, h.at_.runs, h.at_.jlen, h.at_.jmax, h.at_.joints⟩, h.dems, h.cap⟩
  have g := look_ok hlk
  have hry : RodsOf (withRule x r') (S.nOf (withRule x r')) rs := ⟨hrs.len, fun i hi => ⟨(hrs.ok i hi).ex, (hrs.ok i hi).main⟩⟩
  cases hly : S.look (withRule x r') (S.dems ds)
  · refine ⟨0, 1, .inl rfl, fun W hw => ?_⟩
    have hg : S.given26 (withRule x r') ds k p = 1 := by unfold S.given26; rw [if_pos hly]
    have := bad_At hy (k : Int) p (by rw [hg]; decide) W hw
    rw [hg] at this
    exact this
  · refine ⟨_, 0, .inr ⟨rfl, supplyAt_harder g.laid (rule_ok g.rule) hh hrs (S.cOf x) d.zone p⟩, fun W hw => good_At hy hly hk hp hry W hw⟩
end Go.Proofs.YtffkmgjmlahfpaaGreat
set_option linter.unusedVariables false
set_option linter.unusedSimpArgs false
namespace Go.Proofs.YtffkmgjmlahfpaaGreat
open Go.RowKit
theorem few_any (x : Dt) (t : Bool) (w : World)
    (hSM : ∀ W, Below w.heap.size w W → Calls Tryz.prog 13 #[dtV x] W fun e w' => e = .returned (.bool t) ∧ Below W.heap.size W w') :
    Calls Tryz.prog 29 #[dtV x] w fun e w' => e = .returned (.bool t) ∧ Below w.heap.size w w' := by
  have HSM := Lib.hid hSM
  clear hSM
  unfold dtV at HSM
  unfold dtV
  have hDB := Blk.new w 34 #[.string x.m.name, .slice x.mA x.mn x.mc, .slice x.hA x.hn x.hc, .int .i64 x.m.cover, .int .i64 x.m.aggr, .int .i64 x.m.poker, .slice x.bA x.bn x.bc, .slice x.rA x.rn x.rc, .slice x.jA x.jn x.jc, .slice x.dA x.dn x.dc, .int .i64 x.rule.num, .int .i64 x.rule.den, .int .i64 x.rule.pnum, .int .i64 x.rule.pden, .int .i64 x.rule.bnum, .int .i64 x.rule.bden, .int .i64 x.rule.lnum, .int .i64 x.rule.lden, .int .i64 x.rule.least]
  have hW1 : Below w.heap.size w (w.alloc (.cells #[.string x.m.name, .slice x.mA x.mn x.mc, .slice x.hA x.hn x.hc, .int .i64 x.m.cover, .int .i64 x.m.aggr, .int .i64 x.m.poker, .slice x.bA x.bn x.bc, .slice x.rA x.rn x.rc, .slice x.jA x.jn x.jc, .slice x.dA x.dn x.dc, .int .i64 x.rule.num, .int .i64 x.rule.den, .int .i64 x.rule.pnum, .int .i64 x.rule.pden, .int .i64 x.rule.bnum, .int .i64 x.rule.bden, .int .i64 x.rule.lnum, .int .i64 x.rule.lden, .int .i64 x.rule.least] 34)) := ba_alloc (Below.refl _ _) _
  go_enter Tryz.func29, Tryz.ntmps29
  go_upto_region 1 with fail
  generalize (w.alloc (.cells #[.string x.m.name, .slice x.mA x.mn x.mc, .slice x.hA x.hn x.hc, .int .i64 x.m.cover, .int .i64 x.m.aggr, .int .i64 x.m.poker, .slice x.bA x.bn x.bc, .slice x.rA x.rn x.rc, .slice x.jA x.jn x.jc, .slice x.dA x.dn x.dc, .int .i64 x.rule.num, .int .i64 x.rule.den, .int .i64 x.rule.pnum, .int .i64 x.rule.pden, .int .i64 x.rule.bnum, .int .i64 x.rule.bden, .int .i64 x.rule.lnum, .int .i64 x.rule.lden, .int .i64 x.rule.least] 34)) = W1 at *
  have HDB := Lib.hid hDB
  clear hDB
  go_wp2_with (first
    | ((with_reducible refine at_load 34 1 ?_); refine wpList_load_mid rfl 34 (.tmp 1) rfl _ _ rfl _ _ (HDB.out.via (by repeat (with_reducible first | exact Below.refl _ _ | assumption | refine ba_alloc ?_ _ | refine ba_drew ?_ | refine ba_drewN ?_ _ | refine ba_via (by assumption) ?_ | (refine ba_set ?_ ?_ _; rotate_left; (first | omega | (simp; omega) | simp))))).range Tryz.underlying34 rfl (by kernel_rfl) ?_)
    | (go_at_call 13; (with_reducible refine (HSM.out _ (by repeat (with_reducible first | exact Below.refl _ _ | assumption | refine ba_alloc ?_ _ | refine ba_drew ?_ | refine ba_drewN ?_ _ | refine ba_via (by assumption) ?_ | (refine ba_set ?_ ?_ _; rotate_left; (first | omega | (simp; omega) | simp))))).mono ?_); rintro e w2 ⟨rfl, hbw2⟩))
  go_ret
  exact ⟨rfl, (by repeat (first | exact Below.refl _ _ | assumption | refine ba_alloc ?_ _ | refine ba_drew ?_ | refine ba_drewN ?_ _ | refine ba_via (by assumption) ?_ | (refine ba_set ?_ ?_ _; rotate_left; (first | omega | (simp; omega) | simp))))⟩
set_option maxRecDepth 20000 in
set_option maxHeartbeats 4000000 in
theorem longer_big (x : Dt) (d p mo nu : Int) (w : World)
    (hSM : ∀ W, Below w.heap.size w W → Calls Tryz.prog 29 #[dtV x] W fun e w' => e = .returned (.bool false) ∧ Below W.heap.size W w') :
    Calls Tryz.prog 5 #[dtV x, .int .i64 d, .int .i64 p, .int .u8 mo, .int .u8 nu] w fun e w' => e = .returned (.bool true) ∧ Below w.heap.size w w' := by
  have HA := Lib.hid (fun w => awake26_any w)
  have HSM := Lib.hid hSM
  clear hSM
  unfold dtV at HSM
  unfold dtV
  have hDB := Blk.new w 34 #[.string x.m.name, .slice x.mA x.mn x.mc, .slice x.hA x.hn x.hc, .int .i64 x.m.cover, .int .i64 x.m.aggr, .int .i64 x.m.poker, .slice x.bA x.bn x.bc, .slice x.rA x.rn x.rc, .slice x.jA x.jn x.jc, .slice x.dA x.dn x.dc, .int .i64 x.rule.num, .int .i64 x.rule.den, .int .i64 x.rule.pnum, .int .i64 x.rule.pden, .int .i64 x.rule.bnum, .int .i64 x.rule.bden, .int .i64 x.rule.lnum, .int .i64 x.rule.lden, .int .i64 x.rule.least]
  have hW1 : Below w.heap.size w (w.alloc (.cells #[.string x.m.name, .slice x.mA x.mn x.mc, .slice x.hA x.hn x.hc, .int .i64 x.m.cover, .int .i64 x.m.aggr, .int .i64 x.m.poker, .slice x.bA x.bn x.bc, .slice x.rA x.rn x.rc, .slice x.jA x.jn x.jc, .slice x.dA x.dn x.dc, .int .i64 x.rule.num, .int .i64 x.rule.den, .int .i64 x.rule.pnum, .int .i64 x.rule.pden, .int .i64 x.rule.bnum, .int .i64 x.rule.bden, .int .i64 x.rule.lnum, .int .i64 x.rule.lden, .int .i64 x.rule.least] 34)) := ba_alloc (Below.refl _ _) _
  go_enter Tryz.func5, Tryz.ntmps5
  go_upto_region 1 with fail
  generalize (w.alloc (.cells #[.string x.m.name, .slice x.mA x.mn x.mc, .slice x.hA x.hn x.hc, .int .i64 x.m.cover, .int .i64 x.m.aggr, .int .i64 x.m.poker, .slice x.bA x.bn x.bc, .slice x.rA x.rn x.rc, .slice x.jA x.jn x.jc, .slice x.dA x.dn x.dc, .int .i64 x.rule.num, .int .i64 x.rule.den, .int .i64 x.rule.pnum, .int .i64 x.rule.pden, .int .i64 x.rule.bnum, .int .i64 x.rule.bden, .int .i64 x.rule.lnum, .int .i64 x.rule.lden, .int .i64 x.rule.least] 34)) = W1 at *
  have HDB := Lib.hid hDB
  clear hDB
  go_wp2_with (first
    | (go_at_call 28; (with_reducible refine (HA.out _).mono ?_); rintro e wa ⟨rfl, hbwa⟩)
    | ((with_reducible refine at_load 34 5 ?_); refine wpList_load_mid rfl 34 (.tmp 5) rfl _ _ rfl _ _ (HDB.out.via (by repeat (with_reducible first | exact Below.refl _ _ | assumption | refine ba_alloc ?_ _ | refine ba_drew ?_ | refine ba_drewN ?_ _ | refine ba_via (by assumption) ?_ | (refine ba_set ?_ ?_ _; rotate_left; (first | omega | (simp; omega) | simp))))).range Tryz.underlying34 rfl (by kernel_rfl) ?_)
    | (go_at_call 29; (with_reducible refine (HSM.out _ (by repeat (with_reducible first | exact Below.refl _ _ | assumption | refine ba_alloc ?_ _ | refine ba_drew ?_ | refine ba_drewN ?_ _ | refine ba_via (by assumption) ?_ | (refine ba_set ?_ ?_ _; rotate_left; (first | omega | (simp; omega) | simp))))).mono ?_); rintro e wb ⟨rfl, hbwb⟩))
  go_ret
  exact ⟨rfl, (by repeat (first | exact Below.refl _ _ | assumption | refine ba_alloc ?_ _ | refine ba_drew ?_ | refine ba_drewN ?_ _ | refine ba_via (by assumption) ?_ | (refine ba_set ?_ ?_ _; rotate_left; (first | omega | (simp; omega) | simp))))⟩
set_option maxRecDepth 20000 in
set_option maxHeartbeats 4000000 in
theorem longer_err (x : Dt) (d p mo nu er : Int) (w : World) (he : (er == 0) = false)
    (hSM : ∀ W, Below w.heap.size w W → Calls Tryz.prog 29 #[dtV x] W fun e w' => e = .returned (.bool true) ∧ Below W.heap.size W w')
    (hAT : ∀ W, Below w.heap.size w W → Calls Tryz.prog 30 #[dtV x, .int .i64 d, .int .i64 p] W fun e w' => e = .returned (.tuple #[.int .i64 0, .int .i64 er]) ∧ Below W.heap.size W w') :
    Calls Tryz.prog 5 #[dtV x, .int .i64 d, .int .i64 p, .int .u8 mo, .int .u8 nu] w fun e w' => e = .returned (.bool true) ∧ Below w.heap.size w w' := by
  have HA := Lib.hid (fun w => awake26_any w)
  have HSM := Lib.hid hSM
  have HAT := Lib.hid hAT
  have he2 : ¬ (er = 0) := by simpa using he
  clear hSM hAT
  unfold dtV at HSM HAT
  unfold dtV
  have hDB := Blk.new w 34 #[.string x.m.name, .slice x.mA x.mn x.mc, .slice x.hA x.hn x.hc, .int .i64 x.m.cover, .int .i64 x.m.aggr, .int .i64 x.m.poker, .slice x.bA x.bn x.bc, .slice x.rA x.rn x.rc, .slice x.jA x.jn x.jc, .slice x.dA x.dn x.dc, .int .i64 x.rule.num, .int .i64 x.rule.den, .int .i64 x.rule.pnum, .int .i64 x.rule.pden, .int .i64 x.rule.bnum, .int .i64 x.rule.bden, .int .i64 x.rule.lnum, .int .i64 x.rule.lden, .int .i64 x.rule.least]
  have hW1 : Below w.heap.size w (w.alloc (.cells #[.string x.m.name, .slice x.mA x.mn x.mc, .slice x.hA x.hn x.hc, .int .i64 x.m.cover, .int .i64 x.m.aggr, .int .i64 x.m.poker, .slice x.bA x.bn x.bc, .slice x.rA x.rn x.rc, .slice x.jA x.jn x.jc, .slice x.dA x.dn x.dc, .int .i64 x.rule.num, .int .i64 x.rule.den, .int .i64 x.rule.pnum, .int .i64 x.rule.pden, .int .i64 x.rule.bnum, .int .i64 x.rule.bden, .int .i64 x.rule.lnum, .int .i64 x.rule.lden, .int .i64 x.rule.least] 34)) := ba_alloc (Below.refl _ _) _
  go_enter Tryz.func5, Tryz.ntmps5
  go_upto_region 1 with fail
  generalize (w.alloc (.cells #[.string x.m.name, .slice x.mA x.mn x.mc, .slice x.hA x.hn x.hc, .int .i64 x.m.cover, .int .i64 x.m.aggr, .int .i64 x.m.poker, .slice x.bA x.bn x.bc, .slice x.rA x.rn x.rc, .slice x.jA x.jn x.jc, .slice x.dA x.dn x.dc, .int .i64 x.rule.num, .int .i64 x.rule.den, .int .i64 x.rule.pnum, .int .i64 x.rule.pden, .int .i64 x.rule.bnum, .int .i64 x.rule.bden, .int .i64 x.rule.lnum, .int .i64 x.rule.lden, .int .i64 x.rule.least] 34)) = W1 at *
  have HDB := Lib.hid hDB
  clear hDB
  go_wp2_with (first
    | (go_at_call 28; (with_reducible refine (HA.out _).mono ?_); rintro e wa ⟨rfl, hbwa⟩)
    | ((with_reducible refine at_load 34 5 ?_); refine wpList_load_mid rfl 34 (.tmp 5) rfl _ _ rfl _ _ (HDB.out.via (by repeat (with_reducible first | exact Below.refl _ _ | assumption | refine ba_alloc ?_ _ | refine ba_drew ?_ | refine ba_drewN ?_ _ | refine ba_via (by assumption) ?_ | (refine ba_set ?_ ?_ _; rotate_left; (first | omega | (simp; omega) | simp))))).range Tryz.underlying34 rfl (by kernel_rfl) ?_)
    | (go_at_call 29; (with_reducible refine (HSM.out _ (by repeat (with_reducible first | exact Below.refl _ _ | assumption | refine ba_alloc ?_ _ | refine ba_drew ?_ | refine ba_drewN ?_ _ | refine ba_via (by assumption) ?_ | (refine ba_set ?_ ?_ _; rotate_left; (first | omega | (simp; omega) | simp))))).mono ?_); rintro e wb ⟨rfl, hbwb⟩)
    | (go_at_call 30; (with_reducible refine (HAT.out _ (by repeat (with_reducible first | exact Below.refl _ _ | assumption | refine ba_alloc ?_ _ | refine ba_drew ?_ | refine ba_drewN ?_ _ | refine ba_via (by assumption) ?_ | (refine ba_set ?_ ?_ _; rotate_left; (first | omega | (simp; omega) | simp))))).mono ?_); rintro e wd ⟨rfl, hbwd⟩))
  go_ret
  exact ⟨rfl, (by repeat (first | exact Below.refl _ _ | assumption | refine ba_alloc ?_ _ | refine ba_drew ?_ | refine ba_drewN ?_ _ | refine ba_via (by assumption) ?_ | (refine ba_set ?_ ?_ _; rotate_left; (first | omega | (simp; omega) | simp))))⟩
/-- What is told of the detail with a harder rule: refused, or no more. -/
def NoMore (m f n : Int) : Prop := f = 1 ∨ (f = 0 ∧ m ≤ n)
set_option maxRecDepth 20000 in
set_option maxHeartbeats 8000000 in
theorem longer_yes (x : Dt) (d p mo nu n m f o g : Int) (w : World) (h1 : 0 ≤ mo ∧ mo ≤ 255) (h2 : 0 ≤ nu ∧ nu ≤ 255) (h3 : 0 ≤ x.rule.least ∧ x.rule.least ≤ 1000) (h4 : 0 ≤ x.rule.num ∧ x.rule.num ≤ 1000) (hm : NoMore m f n) (ho : NoMore o g n)
    (hSM : ∀ W, Below w.heap.size w W → Calls Tryz.prog 29 #[dtV x] W fun e w' => e = .returned (.bool true) ∧ Below W.heap.size W w')
    (hAT : ∀ W, Below w.heap.size w W → Calls Tryz.prog 30 #[dtV x, .int .i64 d, .int .i64 p] W fun e w' => e = .returned (.tuple #[.int .i64 n, .int .i64 0]) ∧ Below W.heap.size W w')
    (hAY : ∀ W, Below w.heap.size w W → Calls Tryz.prog 30 #[dtV (withRule x ⟨x.rule.num, x.rule.den, x.rule.pnum, x.rule.pden, x.rule.bnum, x.rule.bden, x.rule.lnum, x.rule.lden, x.rule.least + mo⟩), .int .i64 d, .int .i64 p] W fun e w' => e = .returned (.tuple #[.int .i64 m, .int .i64 f]) ∧ Below W.heap.size W w')
    (hAZ : ∀ W, Below w.heap.size w W → Calls Tryz.prog 30 #[dtV (withRule x ⟨x.rule.num + nu, x.rule.den, x.rule.pnum, x.rule.pden, x.rule.bnum, x.rule.bden, x.rule.lnum, x.rule.lden, x.rule.least⟩), .int .i64 d, .int .i64 p] W fun e w' => e = .returned (.tuple #[.int .i64 o, .int .i64 g]) ∧ Below W.heap.size W w') :
    Calls Tryz.prog 5 #[dtV x, .int .i64 d, .int .i64 p, .int .u8 mo, .int .u8 nu] w fun e w' => e = .returned (.bool true) ∧ Below w.heap.size w w' := by
  have HA := Lib.hid (fun w => awake26_any w)
  have HSM := Lib.hid hSM
  have HAT := Lib.hid hAT
  have HAY := Lib.hid hAY
  have HAZ := Lib.hid hAZ
  clear hSM hAT hAY hAZ
  unfold withRule dtV at HAY HAZ
  unfold dtV at HSM HAT
  unfold dtV
  simp only [] at HAY HAZ
  have hDB := Blk.new w 34 #[.string x.m.name, .slice x.mA x.mn x.mc, .slice x.hA x.hn x.hc, .int .i64 x.m.cover, .int .i64 x.m.aggr, .int .i64 x.m.poker, .slice x.bA x.bn x.bc, .slice x.rA x.rn x.rc, .slice x.jA x.jn x.jc, .slice x.dA x.dn x.dc, .int .i64 x.rule.num, .int .i64 x.rule.den, .int .i64 x.rule.pnum, .int .i64 x.rule.pden, .int .i64 x.rule.bnum, .int .i64 x.rule.bden, .int .i64 x.rule.lnum, .int .i64 x.rule.lden, .int .i64 x.rule.least]
  have hW1 : Below w.heap.size w (w.alloc (.cells #[.string x.m.name, .slice x.mA x.mn x.mc, .slice x.hA x.hn x.hc, .int .i64 x.m.cover, .int .i64 x.m.aggr, .int .i64 x.m.poker, .slice x.bA x.bn x.bc, .slice x.rA x.rn x.rc, .slice x.jA x.jn x.jc, .slice x.dA x.dn x.dc, .int .i64 x.rule.num, .int .i64 x.rule.den, .int .i64 x.rule.pnum, .int .i64 x.rule.pden, .int .i64 x.rule.bnum, .int .i64 x.rule.bden, .int .i64 x.rule.lnum, .int .i64 x.rule.lden, .int .i64 x.rule.least] 34)) := ba_alloc (Below.refl _ _) _
  go_enter Tryz.func5, Tryz.ntmps5
  go_upto_region 1 with fail
  generalize (w.alloc (.cells #[.string x.m.name, .slice x.mA x.mn x.mc, .slice x.hA x.hn x.hc, .int .i64 x.m.cover, .int .i64 x.m.aggr, .int .i64 x.m.poker, .slice x.bA x.bn x.bc, .slice x.rA x.rn x.rc, .slice x.jA x.jn x.jc, .slice x.dA x.dn x.dc, .int .i64 x.rule.num, .int .i64 x.rule.den, .int .i64 x.rule.pnum, .int .i64 x.rule.pden, .int .i64 x.rule.bnum, .int .i64 x.rule.bden, .int .i64 x.rule.lnum, .int .i64 x.rule.lden, .int .i64 x.rule.least] 34)) = W1 at *
  have HDB := Lib.hid hDB
  have hDl := hDB.lt
  clear hDB
  go_upto_region 8 with (first
    | (go_at_call 28; (with_reducible refine (HA.out _).mono ?_); rintro e wa ⟨rfl, hbwa⟩)
    | ((with_reducible refine at_load 34 5 ?_); refine wpList_load_mid rfl 34 (.tmp 5) rfl _ _ rfl _ _ (HDB.out.via (by repeat (with_reducible first | exact Below.refl _ _ | assumption | refine ba_alloc ?_ _ | refine ba_drew ?_ | refine ba_drewN ?_ _ | refine ba_via (by assumption) ?_ | (refine ba_set ?_ ?_ _; rotate_left; (first | omega | (simp; omega) | simp))))).range Tryz.underlying34 rfl (by kernel_rfl) ?_)
    | (go_at_call 29; (with_reducible refine (HSM.out _ (by repeat (with_reducible first | exact Below.refl _ _ | assumption | refine ba_alloc ?_ _ | refine ba_drew ?_ | refine ba_drewN ?_ _ | refine ba_via (by assumption) ?_ | (refine ba_set ?_ ?_ _; rotate_left; (first | omega | (simp; omega) | simp))))).mono ?_); rintro e wb ⟨rfl, hbwb⟩)
    | (go_at_call 30; (with_reducible refine (HAT.out _ (by repeat (with_reducible first | exact Below.refl _ _ | assumption | refine ba_alloc ?_ _ | refine ba_drew ?_ | refine ba_drewN ?_ _ | refine ba_via (by assumption) ?_ | (refine ba_set ?_ ?_ _; rotate_left; (first | omega | (simp; omega) | simp))))).mono ?_); rintro e wd ⟨rfl, hbwd⟩))
  have hb9 : Below W1.heap.size W1 wd := (by repeat (with_reducible first | exact Below.refl _ _ | assumption | refine ba_alloc ?_ _ | refine ba_drew ?_ | refine ba_drewN ?_ _ | refine ba_via (by assumption) ?_ | (refine ba_set ?_ ?_ _; rotate_left; (first | omega | (simp; omega) | simp))))
  refine wp_copy_two (by kernel_rfl) (by kernel_rfl) rfl rfl rfl rfl rfl rfl 34 (.tmp 5) (.tmp 13) (.tmp 35) (.tmp 14) (.tmp 36) w.heap.size [.string x.m.name, .slice x.mA x.mn x.mc, .slice x.hA x.hn x.hc, .int .i64 x.m.cover, .int .i64 x.m.aggr, .int .i64 x.m.poker, .slice x.bA x.bn x.bc, .slice x.rA x.rn x.rc, .slice x.jA x.jn x.jc, .slice x.dA x.dn x.dc, .int .i64 x.rule.num, .int .i64 x.rule.den, .int .i64 x.rule.pnum, .int .i64 x.rule.pden, .int .i64 x.rule.bnum, .int .i64 x.rule.bden, .int .i64 x.rule.lnum, .int .i64 x.rule.lden, .int .i64 x.rule.least] [.string ⟨#[]⟩, .slice none 0 0, .slice none 0 0, .int .i64 0, .int .i64 0, .int .i64 0, .slice none 0 0, .slice none 0 0, .slice none 0 0, .slice none 0 0, .int .i64 0, .int .i64 0, .int .i64 0, .int .i64 0, .int .i64 0, .int .i64 0, .int .i64 0, .int .i64 0, .int .i64 0] _ rfl rfl rfl rfl (HDB.out.via hb9) Tryz.underlying34 rfl (by kernel_rfl) (fun _ _ => by kernel_rfl) (fun _ _ => by kernel_rfl) rfl rfl rfl (fun _ _ => rfl) (fun _ _ => rfl) (fun _ _ => rfl) (fun _ _ => rfl) rfl rfl (by intro d h; injection h with h; subst h; simp) (by intro c a d v w h; cases d <;> exact h) (by simp [Value.oneCell']) ?_
  intro P Q W2 hne hP hQ hBP hBQ hb2
  have hW2 : Below w.heap.size w W2 := ba_via hb2 (ba_via hb9 hW1)
  have hs9 := hb9.size
  have hs1 := hW1.size
  have hs2 := hb2.size
  have p18 := hBP.cell 18
  have pf18 := hBP.frozen 18
  have pl := hBP.lt
  have q10 := hBQ.cell 10
  have qf10 := hBQ.frozen 10
  have ql := hBQ.lt
  simp only [List.getElem?_toArray, List.getElem?_cons_zero, List.getElem?_cons_succ] at p18 q10
  have e1 : IntKind.i64.wrap mo = mo := IntWalk.i64_in _ (by omega)
  have e2 : IntKind.i64.wrap nu = nu := IntWalk.i64_in _ (by omega)
  have e3 : IntKind.i64.wrap (x.rule.least + mo) = x.rule.least + mo := IntWalk.i64_in _ (by omega)
  have e4 : IntKind.i64.wrap (x.rule.num + nu) = x.rule.num + nu := IntWalk.i64_in _ (by omega)
  simp only [go_sem, List.setIfInBounds_toArray, List.set_cons_succ, List.set_cons_zero]
  have hne' : Q ≠ P := fun h => hne h.symm
  have hwP : w.heap.size ≤ P := by omega
  have hwQ : w.heap.size ≤ Q := by omega
  have hP1 := (hBP.set 18 (.int .i64 (x.rule.least + mo))).far (p := ⟨Q, 10, none⟩) hne (.int .i64 (x.rule.num + nu))
  have hQ1 := (hBQ.far (p := ⟨P, 18, none⟩) hne' (.int .i64 (x.rule.least + mo))).set 10 (.int .i64 (x.rule.num + nu))
  simp only [List.setIfInBounds_toArray, List.set_cons_zero, List.set_cons_succ] at hP1 hQ1
  have hb3 : Below w.heap.size w ((W2.setCell ⟨P, 18, none⟩ (.int .i64 (x.rule.least + mo))).setCell ⟨Q, 10, none⟩ (.int .i64 (x.rule.num + nu))) := ba_set (ba_set hW2 hwP _) hwQ _
  go_upto_region 11 with fail
  generalize ((W2.setCell ⟨P, 18, none⟩ (.int .i64 (x.rule.least + mo))).setCell ⟨Q, 10, none⟩ (.int .i64 (x.rule.num + nu))) = W3 at *
  have HP1 := Lib.hid hP1
  have HQ1 := Lib.hid hQ1
  clear hP1 hQ1 hBP hBQ p18 pf18 q10 qf10 pl ql hb2 hb9 hbwa hbwb hbwd hW2 e1 e2 e3 e4 hne hne' hDl HDB hW1
  go_upto_region 13 with (first
    | ((with_reducible refine at_load 34 13 ?_); refine wpList_load_mid rfl 34 (.tmp 13) rfl _ _ rfl _ _ (HP1.out.via (by repeat (with_reducible first | exact Below.refl _ _ | assumption | refine ba_alloc ?_ _ | refine ba_drew ?_ | refine ba_drewN ?_ _ | refine ba_via (by assumption) ?_ | (refine ba_set ?_ ?_ _; rotate_left; (first | omega | (simp; omega) | simp))))).range Tryz.underlying34 rfl (by kernel_rfl) ?_)
    | ((with_reducible refine at_load 34 14 ?_); refine wpList_load_mid rfl 34 (.tmp 14) rfl _ _ rfl _ _ (HQ1.out.via (by repeat (with_reducible first | exact Below.refl _ _ | assumption | refine ba_alloc ?_ _ | refine ba_drew ?_ | refine ba_drewN ?_ _ | refine ba_via (by assumption) ?_ | (refine ba_set ?_ ?_ _; rotate_left; (first | omega | (simp; omega) | simp))))).range Tryz.underlying34 rfl (by kernel_rfl) ?_)
    | (go_at_call 30; (with_reducible refine (HAY.out _ (by repeat (with_reducible first | exact Below.refl _ _ | assumption | refine ba_alloc ?_ _ | refine ba_drew ?_ | refine ba_drewN ?_ _ | refine ba_via (by assumption) ?_ | (refine ba_set ?_ ?_ _; rotate_left; (first | omega | (simp; omega) | simp))))).mono ?_); rintro e we ⟨rfl, hbwe⟩)
    | (go_at_call 30; (with_reducible refine (HAZ.out _ (by repeat (with_reducible first | exact Below.refl _ _ | assumption | refine ba_alloc ?_ _ | refine ba_drew ?_ | refine ba_drewN ?_ _ | refine ba_via (by assumption) ?_ | (refine ba_set ?_ ?_ _; rotate_left; (first | omega | (simp; omega) | simp))))).mono ?_); rintro e wf ⟨rfl, hbwf⟩))
  have hbF : Below w.heap.size w wf := ba_via hbwf (ba_via hbwe hb3)
  clear HAY HAZ HP1 HQ1 HAT HSM HA
  rcases hm with rfl | ⟨rfl, hm⟩
  · rcases ho with rfl | ⟨rfl, ho⟩
    · go_wp2
      go_ret
      exact ⟨rfl, hbF⟩
    · go_wp2
      go_ret
      exact ⟨rfl, hbF⟩
  · rcases ho with rfl | ⟨rfl, ho⟩
    · go_wp2
      go_ret
      exact ⟨rfl, hbF⟩
    · go_wp2
      go_ret
      exact ⟨rfl, hbF⟩
theorem longer_walk (x : Dt) (ds : List Dm) (d p mo nu : Int) (w : World) (h : DtOk w x ds) (h1 : 0 ≤ mo ∧ mo ≤ 255) (h2 : 0 ≤ nu ∧ nu ≤ 255) :
    Calls Tryz.prog 5 #[dtV x, .int .i64 d, .int .i64 p, .int .u8 mo, .int .u8 nu] w fun e w' => e = .returned (.bool true) ∧ Below w.heap.size w w' := by
  have HSM : ∀ W, Below w.heap.size w W → Calls Tryz.prog 29 #[dtV x] W fun e w' => e = .returned (.bool (S.small25 x ds)) ∧ Below W.heap.size W w' := fun W hw =>
    few_any x (S.small25 x ds) W (fun V hV => small25_any x ds w.heap.size V (hw.trans (hV.mono hw.size)).size (h.at_.at_ (Nat.le_refl _) (hw.trans (hV.mono hw.size))) (h.dems.at_ (Nat.le_refl _) (hw.trans (hV.mono hw.size))))
  cases hsm : S.small25 x ds
  · rw [hsm] at HSM
    exact longer_big x d p mo nu w HSM
  · rw [hsm] at HSM
    by_cases hg : S.given26 x ds d p = 0
    · obtain ⟨hlk, ⟨k, dm, rfl, hk⟩, hp⟩ := given26_zero hg
      have g := look_ok hlk
      obtain ⟨rs, hrs⟩ := rods_ex g.laid
      have hr := rule_ok g.rule
      obtain ⟨m, f, hm, hAY⟩ := longer_At h hlk (r' := ⟨x.rule.num, x.rule.den, x.rule.pnum, x.rule.pden, x.rule.bnum, x.rule.bden, x.rule.lnum, x.rule.lden, x.rule.least + mo⟩) ⟨Int.le_refl _, rfl, rfl, rfl, rfl, rfl, by show x.rule.least ≤ x.rule.least + mo; omega⟩ hk hp hrs
      obtain ⟨o, g', ho, hAZ⟩ := longer_At h hlk (r' := ⟨x.rule.num + nu, x.rule.den, x.rule.pnum, x.rule.pden, x.rule.bnum, x.rule.bden, x.rule.lnum, x.rule.lden, x.rule.least⟩) ⟨by show x.rule.num ≤ x.rule.num + nu; omega, rfl, rfl, rfl, rfl, rfl, Int.le_refl _⟩ hk hp hrs
      exact longer_yes x k p mo nu _ m f o g' w h1 h2 hr.least (by have := hr.num; omega) hm ho HSM (good_At h hlk hk hp hrs) hAY hAZ
    · exact longer_err x d p mo nu _ w (by simpa using hg) HSM (bad_At h d p hg)
end Go.Proofs.YtffkmgjmlahfpaaGreat
