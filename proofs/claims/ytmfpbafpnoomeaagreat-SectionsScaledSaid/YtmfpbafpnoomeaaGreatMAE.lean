/- Lemmas. -/
import Derived.Test.YtmfpbafpnoomeaaGreatMAA
set_option linter.unusedVariables false
set_option linter.unusedSimpArgs false
namespace Go.Proofs.YtmfpbafpnoomeaaGreat
open Go.RowKit
set_option maxRecDepth 20000 in
set_option maxHeartbeats 8000000 in
theorem schains_any (x : Dt) (C : List (List Int)) (n : Nat) (B : Nat) (w : World) (hB : B <= w.heap.size) (hA : DtAt w B x) (hl : S.laid (bars x.bs) x.rs = true) (hr : S.rule x.rule = true) (hm : S.member x.m = true) (hn : n <= 2000) (hC : C.length <= 2000)
 (hCI : ∀ l, l ∈ C -> 0 < l.length /\ l.length <= 2001 /\ ∀ i, i ∈ l -> 0 <= i /\ i < (n : Int))
 (hLV : ∀ W, Below w.heap.size w W -> Calls Tryz.prog 53 #[dtV x] W fun e w' => e = .returned (.bool true) /\ Below W.heap.size W w')
 (hRD : ∀ W, Below w.heap.size w W -> Calls Tryz.prog 176 #[dtV x] W (GivesRods x n W))
 (hCH : ∀ W, Below w.heap.size w W -> Calls Tryz.prog 177 #[dtV x] W (GivesChE C W)) :
 Calls Tryz.prog 126 #[dtV x] w (GivesSup x C n w) := by
 have HLV := lh hLV
 have HRD := lh hRD
 have HCH := lh hCH
 have HA := lh hA
 have HCI := lh hCI
 clear hLV hRD hCH hCI
 unfold dtV at HLV HRD HCH
 unfold dtV
 have hDB := Blk.new w 34 (dtc x)
 have hW1 : Below w.heap.size w (w.alloc (.cells (dtc x) 34)) := ba_alloc (Below.refl _ _) _
 go_enter Tryz.func126, Tryz.ntmps126
 go_upto_region 1 with fail
 generalize (w.alloc (.cells (dtc x) 34)) = W1 at *
 have HDB := lh hDB
 clear hDB
 go_upto_region 4 with (first
  | ((with_reducible refine at_load 34 1 ?_); refine wpList_load_mid rfl 34 (.tmp 1) rfl _ _ rfl _ _ (HDB.out.via belr).range Tryz.underlying34 rfl (by kernel_rfl) ?_)
  | (go_at_call 53; (with_reducible refine (HLV.out _ belr).mono ?_); rintro e w1 ⟨rfl, hbw1⟩)
  | (go_at_call 176; (with_reducible refine (HRD.out _ belr).mono ?_); rintro e w2 ⟨A1, c1, rs, rfl, hrl, hok, hRA, hbw2⟩; have HRL := lh hrl; have HOK := lh hok; have HRA := lh hRA; clear hrl hok hRA))
 have hL2 := Blk.new w2 117 #[.slice A1 rs.length c1]
 have hW2 : Below w.heap.size w (w2.alloc (.cells #[.slice A1 rs.length c1] 117)) := ba_alloc (ba_via hbw2 (ba_via hbw1 hW1)) _
 have HR2 := lh (RodsAt.kept HRA.out (ba_alloc (Below.refl _ _) (.cells #[.slice A1 rs.length c1] 117)))
 have HD2 := lh (HDB.out.via (show Below W1.heap.size W1 (w2.alloc (.cells #[.slice A1 rs.length c1] 117)) from belr))
 have hs12 := hbw1.size
 have hsw1 := hW1.size
 generalize (w2.alloc (.cells #[.slice A1 rs.length c1] 117)) = W2 at *
 generalize w2.heap.size = gl at *
 clear hbw1 hbw2 HDB HRA
 go_wp2_with (first
  | ((with_reducible refine at_load 34 1 ?_); refine wpList_load_mid rfl 34 (.tmp 1) rfl _ _ rfl _ _ (HD2.out.via belr).range Tryz.underlying34 rfl (by kernel_rfl) ?_)
  | (go_at_call 177; (with_reducible refine (HCH.out _ belr).mono ?_); rintro e w3 ⟨A2, c2, chs, rfl, hcm, hcc, hccl, hce, hbw3⟩; have HCM := lh hcm; clear hcm))
 have hs23 := hbw3.size
 have HR3 := lh (RodsAt.kept HR2.out hbw3)
 have HL3 := lh (hL2.via hbw3)
 have HD3 := lh (HD2.out.via hbw3)
 have HRL2 := lh (fun r hr => rod_fit (HOK.out r hr) hl)
 have hW3 : Below w.heap.size w w3 := ba_via hbw3 hW2
 have HCC := lh hccl
 have HCE := lh hce
 have hgl : gl < w3.heap.size := by have := hL2.lt; omega
 clear hccl hce HR2 HD2 hL2 HLV HRD HCH
 obtain ⟨nc, hnc⟩ : ∃ nc, nc = chs.length := ⟨_, rfl⟩
 have HNC := lh hnc
 have hnc2 : nc <= 2000 := by rw [hnc]; have := congrArg List.length HCM.out; rw [List.length_map] at this; omega
 have hcc2 : nc <= c2 := by omega
 rw [<- hnc] at hcc ⊢
 clear hnc
 go_loopw [6, 8, 42] (fun s6 v i wr => ∃ (q : Nat) (cs : List SCh), q <= nc /\ i = .int .i64 q /\ s6 = .int .i64 0 /\ Hid (cs.length = q) /\ Hid (∀ (i : Nat) (hi : i < cs.length) (hj : i < C.length), SchOk x rs C[i] cs[i]) /\ Hid (∀ c, c ∈ cs -> ∃ ch, ch ∈ chs /\ c.A = ch.A /\ c.l = ch.l) /\ wr.ownsRow w3.heap.size 172 5 v cs.length (cs.flatMap schC) /\ Below w3.heap.size w3 wr) (fun _ _ i _ => nc - (intOf i).toNat)
 case atStart => exact ⟨0, [], Nat.zero_le _, rfl, rfl, lh rfl, lh fun i hi => absurd hi (by simp), lh (fun c hc => by cases hc), World.ownsRow_nil _ _ _ _, Below.refl _ _⟩
 case round =>
  obtain ⟨q, cs, hq, rfl, rfl, hcl, hcok, hcin, hOW, hbr⟩ := hrel
  by_cases hlt : q < nc
  ·have hqi : (q : Int) < nc := by omega
   have hqx : q < chs.length := by have := HNC.out; omega
   have hchm : chs[q] ∈ chs := List.getElem_mem hqx
   have hqC : q < C.length := by rw [<- HCM.out, List.length_map]; exact hqx
   have HCQ := lh (show C[q] = chs[q].l by simp [<- HCM.out])
   have hci := HCI.out C[q] (List.getElem_mem hqC)
   rw [HCQ.out] at hci
   have hce := HCE.out _ hchm
   obtain ⟨bA, oA, hAe, hbA, hxx⟩ := (HCC.out.below hbr).at_ (by simp; omega)
   clear hxx
   subst hAe
   have c0 := (HCC.out.below hbr).get (k := q) (v := chV chs[q]) (by simp [hqx])
   generalize hch : chs[q] = ch at *
   have hsr := hbr.size
   have hbAl : bA < wr.heap.size := by omega
   have HCI2 := lh hci.2.2
   have hlen0 := hci.1
   have hlen1 := hci.2.1
   have HB := lh (fun (W : World) (hw : Below wr.heap.size wr W) => hce.1.below (Below.trans hbr (hw.mono hsr)))
   have HOW := lh hOW
   have HCHM := lh hchm
   have HCHE := lh hch
   clear hci hce hOW hchm hch
   have HSZ := lh (fun (a : Int) (ha : a ∈ ch.l) => show ∃ (k : Nat) (p : Rod), a = (k : Int) /\ rs[k]? = some p /\ S.sizeI rs a = p.bar.b.size /\ RodFit x p /\ p ∈ rs from by
    obtain ⟨h1, h2⟩ := HCI2.out a ha
    have hk : a.toNat < rs.length := by have := HRL.out; omega
    exact ⟨a.toNat, rs[a.toNat], by omega, List.getElem?_eq_getElem hk, by unfold S.sizeI; rw [List.getElem?_eq_getElem hk], HRL2.out a.toNat hk, List.getElem_mem hk⟩)
   go_upto_region 14 with fail
   have hC14 := Blk.new wr 172 #[.slice ch.A ch.l.length ch.c, .int .i64 0, .int .i64 0, .bool false, .int .i64 0]
   have hb14 : Below wr.heap.size wr (wr.alloc (.cells #[.slice ch.A ch.l.length ch.c, .int .i64 0, .int .i64 0, .bool false, .int .i64 0] 172)) := ba_alloc (Below.refl _ _) _
   generalize (wr.alloc (.cells #[.slice ch.A ch.l.length ch.c, .int .i64 0, .int .i64 0, .bool false, .int .i64 0] 172)) = W14 at *
   have h14s := hb14.size
   have h14l := hC14.lt
   have hL14 := (HL3.out.via hbr).via hb14
   have hRd14 := (HR3.out.kept hbr).kept hb14
   have HRC := lh (show Cells W14 W14.heap.size A1 (rs.flatMap rodC) from (own_cells hRd14.own (by have := HRL.out; unfold maxLen; omega)).1)
   have HMF := lh (fun (W : World) (hw : Below W14.heap.size W14 W) => minf_any (S.sizeI rs) ch.A ch.l.length ch.c ch.l gl w3.heap.size W rfl hlen0 (by omega) (by have := hw.size; omega) (HB.out W (hb14.trans (hw.mono h14s))) (fun a b W' ha hb hw' => by
    obtain ⟨ka, pa, rfl, hpa, hsa, _, _⟩ := HSZ.out a ha
    obtain ⟨kb, pb, rfl, hpb, hsb, _, _⟩ := HSZ.out b hb
    have hwW := hw.trans (hw'.mono hw.size)
    rw [hsa, hsb]
    exact rcmp_any rs ka kb pa pb gl A1 rs.length c1 W14.heap.size W' hwW.size rfl hpa hpb ((hL14.via hwW).cell 0) (hL14.via hwW).lt (HRC.out.below hwW)))
   obtain ⟨km, pm, hkm, hpm, hsm, hfm, hpmm⟩ := HSZ.out (minBy (S.sizeI rs) ch.l) (by have := minBy_mem (S.sizeI rs) (xs := ch.l) (k := ch.l.length) hlen0 (Nat.le_refl _); rwa [List.take_length] at this)
   have HAR := lh (show S.steelArea (S.sizeI rs (minBy (S.sizeI rs) ch.l)) = S.steelArea pm.bar.b.size by rw [hsm])
   have HST := lh (fun W => steelArea_any pm.bar.b.size W (bar_size hfm.bar))
   rw [hkm] at HMF
   obtain ⟨hkmx, hkme⟩ := List.getElem?_eq_some_iff.1 hpm
   obtain ⟨b1, o1, hA1, hb1, hxx⟩ := HRC.out.at_ (by rw [flat_len rodC 7 rodC_len]; omega)
   clear hxx
   subst hA1
   have m1 := HRC.out.rowj rodC_len hkmx 1 rfl
   rw [hkme] at m1
   have hkmi : (km : Int) < (rs.length : Int) := by omega
   clear hkm hpm hsm hfm hpmm hkme hkmx
   generalize pm.bar.b.size = sz at *
   generalize S.steelArea sz = ar at *
   have l0 := hL14.cell 0
   have ll := hL14.lt
   simp only [ga1, ga2, ga3] at l0
   go_upto_region 18 with (first
    | ((go_at_call 178; (with_reducible refine (HMF.out _ belr).mono ?_); rintro e w4 ⟨rfl, hbw4⟩); have hb4l : b1 < w4.heap.size := (by have := hbw4.size; omega); have hgl4 : gl < w4.heap.size := (by have := hbw4.size; omega); have l04 := (hL14.via hbw4).cell 0; have m14 := (hbw4.cell (p := ⟨b1, o1 + km * 7 + 1, none⟩) hb1).trans m1; simp only [ga1, ga2, ga3] at l04)
    | ((go_at_call 181; (with_reducible refine (HST.out _).mono ?_); rintro e w5 ⟨rfl, hbw5⟩); have hC5 := (hC14.via hbw4).via hbw5; have y4 := hC5.cell 4; have fr4 := hC5.frozen 4; have yl := hC5.lt; simp only [ga1, ga2, ga3] at y4))
   have hb17 : Below wr.heap.size wr (w5.setCell ⟨wr.heap.size, 4, none⟩ (.int .i64 ar)) := ba_set (ba_via hbw5 (ba_via hbw4 hb14)) (Nat.le_refl _) _
   have hC17 := ((hC14.via hbw4).via hbw5).set 4 (.int .i64 ar)
   have hL17 := ((hL14.via hbw4).via hbw5).far (p := ⟨wr.heap.size, 4, none⟩) (by simp; omega) (.int .i64 ar)
   simp only [List.setIfInBounds_toArray, List.set_cons_zero, List.set_cons_succ] at hC17
   obtain ⟨ln, hln⟩ : ∃ ln : Nat, ch.l.length = ln + 1 := ⟨ch.l.length - 1, by omega⟩
   have hBI := HB.out _ hb17
   obtain ⟨bI, oI, hAI, hbI, hxx⟩ := hBI.at_ (by simp; omega)
   clear hxx
   rw [hAI] at hBI
   have i0 := hBI.get (k := 0) (i64s_get (xs := ch.l) (k := 0) (by omega))
   have i1 := hBI.get (k := ln) (i64s_get (xs := ch.l) (k := ln) (by omega))
   have HFA := lh (show ch.l[0] = ch.l.headD 0 by rw [List.headD_eq_head?_getD, List.head?_eq_getElem?, List.getElem?_eq_getElem (by omega)]; rfl)
   obtain ⟨ka, pa, hka, hpa, hsa, hfa, hpam⟩ := HSZ.out ch.l[0] (List.getElem_mem _)
   obtain ⟨kb, pb, hkb, hpb, hsb, hfb, hpbm⟩ := HSZ.out ch.l[ln] (List.getElem_mem _)
   rw [hka] at i0
   rw [hkb] at i1
   simp only [Nat.add_zero] at i0
   have HK := lh (show (ka : Int) = ch.l.headD 0 /\ ch.l[ln]? = some (kb : Int) from ⟨hka.symm.trans HFA.out, by rw [List.getElem?_eq_getElem (by omega), hkb]⟩)
   clear hka hkb
   have hRd17 := (HR3.out.kept hbr).kept hb17
   have hRC17 := (own_cells hRd17.own (by have := HRL.out; unfold maxLen; omega)).1
   obtain ⟨hkax, hkae⟩ := List.getElem?_eq_some_iff.1 hpa
   obtain ⟨hkbx, hkbe⟩ := List.getElem?_eq_some_iff.1 hpb
   have aa0 := hRC17.row0 rodC_len hkax rfl
   have aa1 := hRC17.rowj rodC_len hkax 1 rfl
   have aa2 := hRC17.rowj rodC_len hkax 2 rfl
   have aa3 := hRC17.rowj rodC_len hkax 3 rfl
   have aa4 := hRC17.rowj rodC_len hkax 4 rfl
   have aa5 := hRC17.rowj rodC_len hkax 5 rfl
   have aa6 := hRC17.rowj rodC_len hkax 6 rfl
   rw [hkae] at aa0 aa1 aa2 aa3 aa4 aa5 aa6
   have bb0 := hRC17.row0 rodC_len hkbx rfl
   have bb1 := hRC17.rowj rodC_len hkbx 1 rfl
   have bb2 := hRC17.rowj rodC_len hkbx 2 rfl
   have bb3 := hRC17.rowj rodC_len hkbx 3 rfl
   have bb4 := hRC17.rowj rodC_len hkbx 4 rfl
   have bb5 := hRC17.rowj rodC_len hkbx 5 rfl
   have bb6 := hRC17.rowj rodC_len hkbx 6 rfl
   rw [hkbe] at bb0 bb1 bb2 bb3 bb4 bb5 bb6
   have l17 := hL17.cell 0
   have ll17 := hL17.lt
   simp only [ga1, ga2, ga3] at l17
   have hkai : (ka : Int) < (rs.length : Int) := by omega
   have hkbi : (kb : Int) < (rs.length : Int) := by omega
   have hb1w : b1 < (w5.setCell ⟨wr.heap.size, 4, none⟩ (.int .i64 ar)).heap.size := by have h1 := hbw4.size; have h2 := hbw5.size; simp; omega
   have hbIw : bI < (w5.setCell ⟨wr.heap.size, 4, none⟩ (.int .i64 ar)).heap.size := by have := hb17.size; omega
   have HPA := lh hpa
   have HPB := lh hpb
   clear hbw4 hbw5 hb14 hC14 hL14 h14s h14l l0 ll m1 HRC HMF HST hRC17 hBI hpa hpb hsa hsb hkae hkbe hkax hkbx y4 fr4 yl hC5 hb4l hgl4 l04 m14
   unfold chV
   rw [hAI]
   generalize hlz : ch.l.length = lz
   have HLZ := lh hlz
   have e1 : IntKind.i64.wrap ((lz : Int) - 1) = (ln : Int) := by rw [show ((lz : Int) - 1) = (ln : Int) by omega]; exact IntWalk.i64_in _ (by omega)
   have e3 : (lz : Int) - 1 = (ln : Int) := by omega
   have hlni : (ln : Int) < (lz : Int) := by omega
   have hln0 : (0 : Int) < (lz : Int) := by omega
   have hlz3 : (lz : Int) <= 2002 := by omega
   have hlzN : 0 < lz := by omega
   have hlnN : ln < lz := by omega
   have hlz4 : lz ≠ 0 := by omega
   have e7 : IntKind.i64.wrap (ln : Int) = (ln : Int) := IntWalk.i64_in _ (by omega)
   have hlnz : (0 : Int) <= (ln : Int) := by omega
   have HLN := lh hln
   clear HFA hlz hln
   generalize hW17g : (w5.setCell ⟨wr.heap.size, 4, none⟩ (.int .i64 ar)) = W17 at *
   clear hW17g
   have hkeep : ∀ W', Below W17.heap.size W17 W' -> W'.cell? ⟨gl, 0, none⟩ = some (.slice (some ⟨b1, o1, none⟩) rs.length c1) /\ W'.cell? ⟨bI, oI, none⟩ = some (.int .i64 ka) /\ W'.cell? ⟨bI, oI + ln, none⟩ = some (.int .i64 kb) /\ W'.cell? ⟨b1, o1 + ka * 7, none⟩ = some (.string pa.bar.b.mark) /\ W'.cell? ⟨b1, o1 + ka * 7 + 1, none⟩ = some (.int .i64 pa.bar.b.size) /\ W'.cell? ⟨b1, o1 + ka * 7 + 2, none⟩ = some (.int .i64 pa.bar.b.count) /\ W'.cell? ⟨b1, o1 + ka * 7 + 3, none⟩ = some (.int .i64 pa.bar.b.code) /\ W'.cell? ⟨b1, o1 + ka * 7 + 4, none⟩ = some (.slice pa.bar.A pa.bar.n pa.bar.c) /\ W'.cell? ⟨b1, o1 + ka * 7 + 5, none⟩ = some (.slice pa.A pa.legs.length pa.c) /\ W'.cell? ⟨b1, o1 + ka * 7 + 6, none⟩ = some (.int .i64 pa.main) /\ W'.cell? ⟨b1, o1 + kb * 7, none⟩ = some (.string pb.bar.b.mark) /\ W'.cell? ⟨b1, o1 + kb * 7 + 1, none⟩ = some (.int .i64 pb.bar.b.size) /\ W'.cell? ⟨b1, o1 + kb * 7 + 2, none⟩ = some (.int .i64 pb.bar.b.count) /\ W'.cell? ⟨b1, o1 + kb * 7 + 3, none⟩ = some (.int .i64 pb.bar.b.code) /\ W'.cell? ⟨b1, o1 + kb * 7 + 4, none⟩ = some (.slice pb.bar.A pb.bar.n pb.bar.c) /\ W'.cell? ⟨b1, o1 + kb * 7 + 5, none⟩ = some (.slice pb.A pb.legs.length pb.c) /\ W'.cell? ⟨b1, o1 + kb * 7 + 6, none⟩ = some (.int .i64 pb.main) := fun W' h => ⟨(h.cell (p := ⟨gl, 0, none⟩) ll17).trans l17, (h.cell (p := ⟨bI, oI, none⟩) hbIw).trans i0, (h.cell (p := ⟨bI, oI + ln, none⟩) hbIw).trans i1, (h.cell (p := ⟨b1, o1 + ka * 7, none⟩) hb1w).trans aa0, (h.cell (p := ⟨b1, o1 + ka * 7 + 1, none⟩) hb1w).trans aa1, (h.cell (p := ⟨b1, o1 + ka * 7 + 2, none⟩) hb1w).trans aa2, (h.cell (p := ⟨b1, o1 + ka * 7 + 3, none⟩) hb1w).trans aa3, (h.cell (p := ⟨b1, o1 + ka * 7 + 4, none⟩) hb1w).trans aa4, (h.cell (p := ⟨b1, o1 + ka * 7 + 5, none⟩) hb1w).trans aa5, (h.cell (p := ⟨b1, o1 + ka * 7 + 6, none⟩) hb1w).trans aa6, (h.cell (p := ⟨b1, o1 + kb * 7, none⟩) hb1w).trans bb0, (h.cell (p := ⟨b1, o1 + kb * 7 + 1, none⟩) hb1w).trans bb1, (h.cell (p := ⟨b1, o1 + kb * 7 + 2, none⟩) hb1w).trans bb2, (h.cell (p := ⟨b1, o1 + kb * 7 + 3, none⟩) hb1w).trans bb3, (h.cell (p := ⟨b1, o1 + kb * 7 + 4, none⟩) hb1w).trans bb4, (h.cell (p := ⟨b1, o1 + kb * 7 + 5, none⟩) hb1w).trans bb5, (h.cell (p := ⟨b1, o1 + kb * 7 + 6, none⟩) hb1w).trans bb6⟩
   go_cut [13, 14] from 65 to 79 (fun s13 s14 wx => ∃ gp gq : Nat, s13 = .pointer (some ⟨gp, 0, none⟩) /\ s14 = .pointer (some ⟨gq, 0, none⟩) /\ Blk wx gp 202 #[.string pa.bar.b.mark, .int .i64 pa.bar.b.size, .int .i64 pa.bar.b.count, .int .i64 pa.bar.b.code, .slice pa.bar.A pa.bar.n pa.bar.c, .slice pa.A pa.legs.length pa.c, .int .i64 pa.main] /\ Blk wx gq 202 #[.string pb.bar.b.mark, .int .i64 pb.bar.b.size, .int .i64 pb.bar.b.count, .int .i64 pb.bar.b.code, .slice pb.bar.A pb.bar.n pb.bar.c, .slice pb.A pb.legs.length pb.c, .int .i64 pb.main] /\ Below W17.heap.size W17 wx)
   case first =>
    go_region_held3 (fun W' => W'.cell? ⟨gl, 0, none⟩ = some (.slice (some ⟨b1, o1, none⟩) rs.length c1) /\ W'.cell? ⟨bI, oI, none⟩ = some (.int .i64 ka) /\ W'.cell? ⟨bI, oI + ln, none⟩ = some (.int .i64 kb) /\ W'.cell? ⟨b1, o1 + ka * 7, none⟩ = some (.string pa.bar.b.mark) /\ W'.cell? ⟨b1, o1 + ka * 7 + 1, none⟩ = some (.int .i64 pa.bar.b.size) /\ W'.cell? ⟨b1, o1 + ka * 7 + 2, none⟩ = some (.int .i64 pa.bar.b.count) /\ W'.cell? ⟨b1, o1 + ka * 7 + 3, none⟩ = some (.int .i64 pa.bar.b.code) /\ W'.cell? ⟨b1, o1 + ka * 7 + 4, none⟩ = some (.slice pa.bar.A pa.bar.n pa.bar.c) /\ W'.cell? ⟨b1, o1 + ka * 7 + 5, none⟩ = some (.slice pa.A pa.legs.length pa.c) /\ W'.cell? ⟨b1, o1 + ka * 7 + 6, none⟩ = some (.int .i64 pa.main) /\ W'.cell? ⟨b1, o1 + kb * 7, none⟩ = some (.string pb.bar.b.mark) /\ W'.cell? ⟨b1, o1 + kb * 7 + 1, none⟩ = some (.int .i64 pb.bar.b.size) /\ W'.cell? ⟨b1, o1 + kb * 7 + 2, none⟩ = some (.int .i64 pb.bar.b.count) /\ W'.cell? ⟨b1, o1 + kb * 7 + 3, none⟩ = some (.int .i64 pb.bar.b.code) /\ W'.cell? ⟨b1, o1 + kb * 7 + 4, none⟩ = some (.slice pb.bar.A pb.bar.n pb.bar.c) /\ W'.cell? ⟨b1, o1 + kb * 7 + 5, none⟩ = some (.slice pb.A pb.legs.length pb.c) /\ W'.cell? ⟨b1, o1 + kb * 7 + 6, none⟩ = some (.int .i64 pb.main)) (first | exact hkeep _ belr) (fail)
    all_goals (
     go_wp2_with fail
     go_meet
     exact ⟨_, _, rfl, rfl, (by repeat (with_reducible first | (refine Blk.newN ?_ _ _; first | rfl | (simp; done) | (simp [World.setCell]; done)) | refine Blk.set7 ?_ _ _ _ _ _ _ _ | (refine Blk.far7 ?_ ?_ _ _ _ _ _ _ _; rotate_left; omega) | refine Blk.alloc ?_ _ | refine Blk.drew ?_ | refine Blk.via ?_ (by assumption) | (refine BlkE7.newN ?_ _ _ _ _ _ _ _ _; first | rfl | (simp; done) | (simp [World.setCell]; done)) | (refine BlkE7.far7 ?_ ?_ _ _ _ _ _ _ _; rotate_left; omega) | refine BlkE7.alloc ?_ _ | refine BlkE7.drew ?_ | refine BlkE7.via ?_ (by assumption))), (by repeat (with_reducible first | (refine Blk.newN ?_ _ _; first | rfl | (simp; done) | (simp [World.setCell]; done)) | refine Blk.set7 ?_ _ _ _ _ _ _ _ | (refine Blk.far7 ?_ ?_ _ _ _ _ _ _ _; rotate_left; omega) | refine Blk.alloc ?_ _ | refine Blk.drew ?_ | refine Blk.via ?_ (by assumption) | (refine BlkE7.newN ?_ _ _ _ _ _ _ _ _; first | rfl | (simp; done) | (simp [World.setCell]; done)) | (refine BlkE7.far7 ?_ ?_ _ _ _ _ _ _ _; rotate_left; omega) | refine BlkE7.alloc ?_ _ | refine BlkE7.drew ?_ | refine BlkE7.via ?_ (by assumption))), belr⟩)
   case rest =>
    obtain ⟨gp, gq, rfl, rfl, hP, hQ, hbc⟩ := hcut
    have HAI := lh hAI
    clear hAI
    have hCc := hC17.via hbc
    have hDc := ((HD3.out.via hbr).via hb17).via hbc
    have hbwc : Below wr.heap.size wr wc := hb17.trans (hbc.mono hb17.size)
    have hww : Below w.heap.size w wc := (hW3.trans (hbr.mono hW3.size)).trans (hbwc.mono (by have := hW3.size; omega))
    have HRdc := lh (hRd17.kept hbc)
    have HDA := lh (DtAt.wide (HA.out.at_ hB hww) (size_via hB hww))
    have HFIN := lh (fun (i : Nat) (hiq : i = q) (hj : i < C.length) (lo hi : Int) (b : Bool) (hs : (lo, hi, b) = S.spanOf x pa pb) => show SchOk x rs C[i] ⟨ch.A, ch.c, ch.l, lo, hi, b, ar⟩ from by
     subst hiq
     refine ⟨HCQ.out.symm, by rw [HCQ.out]; exact HAR.out.symm, pa, pb, ?_, ?_, hs⟩
     ·rw [HCQ.out, <- HK.out.1]; exact HPA.out
     ·rw [HCQ.out, List.getLastD_eq_getLast?, List.getLast?_eq_getElem?]
      have h2 := HK.out.2
      have h3 := HLN.out
      have h4 := HLZ.out
      rw [show ch.l.length - 1 = ln by omega, h2]
      exact HPB.out)
    have HFA := lh hfa
    have HFB := lh hfb
    have HPAM := lh (HRdc.out.each pa hpam).cells
    have HPBM := lh (HRdc.out.each pb hpbm).cells
    try clear HRdc; try clear hRd17; try clear hfa; try clear hfb; try clear hpam; try clear hpbm; try clear hkeep; try clear aa0; try clear aa1; try clear aa2; try clear aa3; try clear aa4; try clear aa5; try clear aa6; try clear bb0; try clear bb1; try clear bb2; try clear bb3; try clear bb4; try clear bb5; try clear bb6; try clear i0; try clear i1; try clear l17; try clear ll17; try clear HSZ; try clear HB; try clear HCI2; try clear HCE; try clear HL3; try clear HR3; try clear HNC; try clear HRL; try clear HOK; try clear HRL2; try clear hL17; try clear hgl; try clear hkai; try clear hkbi; try clear hb1w; try clear hbIw; try clear e1; try clear e3; try clear e7; try clear hln0; try clear hlz3; try clear hlzN; try clear hlnN; try clear hlz4; try clear hlnz; try clear hlni; try clear hbAl; try clear c0; try clear hlen0; try clear hlen1; try clear hkmi; try clear hb1; try clear hbI; try clear hgl
    have p5 := hP.cell 5
    have p6 := hP.cell 6
    have q5 := hQ.cell 5
    have q6 := hQ.cell 6
    have pl := hP.lt
    have ql := hQ.lt
    have dl := hDc.lt
    simp only [ga1, ga2, ga3] at p5 p6 q5 q6
    by_cases h1 : pa.main < 0
    ·have h1' : ¬ ((0 : Int) <= pa.main) := by omega
     go_upto_region 29 with fail
     have hCt := hCc
     have hbt := hbwc
     have HSP := lh (show ((0 : Int), (0 : Int), false) = S.spanOf x pa pb from by unfold S.spanOf; rw [if_pos h1])
     have t0 := hCt.cell 0
     have t1 := hCt.cell 1
     have t2 := hCt.cell 2
     have t3 := hCt.cell 3
     have t4 := hCt.cell 4
     have tl := hCt.lt
     simp only [ga1, ga2, ga3] at t0 t1 t2 t3 t4
     have hOWt := own_kept HOW.out (fun k hk => hbt.block k (HOW.out.lt k hk).2)
     have hcl9 := hcl.out
     have hbE1 : w3.heap.size <= wc.heap.size := by have := hbt.size; omega
     have hcsl : cs.length <= 2000 := by omega
     have HBT := lh hbt
     have HOWT := lh hOWt
     clear hbt hOWt hCt
     go_wp2_with (at_builtin; refine wpList_push rfl (.tmp 141) (.tmp 143) _ rfl elemSch ((show Row wc wc u8.ownBlock w3.heap.size 172 5 u8 cs.length (cs.flatMap schC) from ⟨HOWT.out, fun k hk => .inl hk.symm⟩).alloc _) ((Exc.refl u8.ownBlock.toList wc).alloc _) (by intro k hk; simp [hk]) hbE1 rfl wc.heap.size 1 1 [.slice ch.A ch.l.length ch.c, .int .i64 (0), .int .i64 (0), .bool false, .int .i64 ar] rfl rfl ?_ (by simp [Value.oneCell']) (by unfold maxLen; omega) (by omega) ?_; (· intro j u hu; have := (Cells.newRow wc #[.slice ch.A ch.l.length ch.c, .int .i64 (0), .int .i64 (0), .bool false, .int .i64 ar] 172 (0, 0)).get (k := j) (v := u) hu; simpa using this); intro v2 wE hRE hXE hOE)
     have hown := hRE.own
     rw [show ([.slice ch.A ch.l.length ch.c, .int .i64 (0), .int .i64 (0), .bool false, .int .i64 ar] : List Value) = schC ⟨ch.A, ch.c, ch.l, 0, 0, false, ar⟩ from rfl] at hown
     have hbE : Below w3.heap.size w3 wE := (hbr.trans (HBT.out.mono hsr)).trans (hXE.below (by omega) (fun g hg => (HOWT.out.lt g (by simpa using hg)).1))
     go_roundw
     case rel =>
      refine ⟨q + 1, cs ++ [⟨ch.A, ch.c, ch.l, 0, 0, false, ar⟩], by omega, by go_num, rfl, lh (by simp; omega), lh (fun i hi hj => ?_), lh (fun c hc => ?_), by simpa using hown, hbE⟩
      ·by_cases hiq : i < cs.length
       ·rw [List.getElem_append_left hiq]
        exact hcok.out i hiq hj
       ·have hi2 : i = cs.length := by simp at hi; omega
        subst hi2
        rw [List.getElem_append_right (Nat.le_refl _)]
        simp only [Nat.sub_self, List.getElem_cons_zero]
        exact HFIN.out cs.length hcl9 hj _ _ _ HSP.out
      ·rcases List.mem_append.1 hc with hc | hc
       ·exact hcin.out c hc
       ·rw [List.mem_singleton] at hc
        subst hc
        exact ⟨ch, HCHM.out, rfl, rfl⟩
     case measure => simp [intOf]; omega
    ·have h1' : (0 : Int) <= pa.main := by omega
     by_cases h2 : pb.main < 0
     ·have h2' : ¬ ((0 : Int) <= pb.main) := by omega
      go_upto_region 29 with fail
      have hCt := hCc
      have hbt := hbwc
      have HSP := lh (show ((0 : Int), (0 : Int), false) = S.spanOf x pa pb from by unfold S.spanOf; rw [if_neg (by omega), if_pos h2])
      have t0 := hCt.cell 0
      have t1 := hCt.cell 1
      have t2 := hCt.cell 2
      have t3 := hCt.cell 3
      have t4 := hCt.cell 4
      have tl := hCt.lt
      simp only [ga1, ga2, ga3] at t0 t1 t2 t3 t4
      have hOWt := own_kept HOW.out (fun k hk => hbt.block k (HOW.out.lt k hk).2)
      have hcl9 := hcl.out
      have hbE1 : w3.heap.size <= wc.heap.size := by have := hbt.size; omega
      have hcsl : cs.length <= 2000 := by omega
      have HBT := lh hbt
      have HOWT := lh hOWt
      clear hbt hOWt hCt
      go_wp2_with (at_builtin; refine wpList_push rfl (.tmp 141) (.tmp 143) _ rfl elemSch ((show Row wc wc u8.ownBlock w3.heap.size 172 5 u8 cs.length (cs.flatMap schC) from ⟨HOWT.out, fun k hk => .inl hk.symm⟩).alloc _) ((Exc.refl u8.ownBlock.toList wc).alloc _) (by intro k hk; simp [hk]) hbE1 rfl wc.heap.size 1 1 [.slice ch.A ch.l.length ch.c, .int .i64 (0), .int .i64 (0), .bool false, .int .i64 ar] rfl rfl ?_ (by simp [Value.oneCell']) (by unfold maxLen; omega) (by omega) ?_; (· intro j u hu; have := (Cells.newRow wc #[.slice ch.A ch.l.length ch.c, .int .i64 (0), .int .i64 (0), .bool false, .int .i64 ar] 172 (0, 0)).get (k := j) (v := u) hu; simpa using this); intro v2 wE hRE hXE hOE)
      have hown := hRE.own
      rw [show ([.slice ch.A ch.l.length ch.c, .int .i64 (0), .int .i64 (0), .bool false, .int .i64 ar] : List Value) = schC ⟨ch.A, ch.c, ch.l, 0, 0, false, ar⟩ from rfl] at hown
      have hbE : Below w3.heap.size w3 wE := (hbr.trans (HBT.out.mono hsr)).trans (hXE.below (by omega) (fun g hg => (HOWT.out.lt g (by simpa using hg)).1))
      go_roundw
      case rel =>
       refine ⟨q + 1, cs ++ [⟨ch.A, ch.c, ch.l, 0, 0, false, ar⟩], by omega, by go_num, rfl, lh (by simp; omega), lh (fun i hi hj => ?_), lh (fun c hc => ?_), by simpa using hown, hbE⟩
       ·by_cases hiq : i < cs.length
        ·rw [List.getElem_append_left hiq]
         exact hcok.out i hiq hj
        ·have hi2 : i = cs.length := by simp at hi; omega
         subst hi2
         rw [List.getElem_append_right (Nat.le_refl _)]
         simp only [Nat.sub_self, List.getElem_cons_zero]
         exact HFIN.out cs.length hcl9 hj _ _ _ HSP.out
       ·rcases List.mem_append.1 hc with hc | hc
        ·exact hcin.out c hc
        ·rw [List.mem_singleton] at hc
         subst hc
         exact ⟨ch, HCHM.out, rfl, rfl⟩
      case measure => simp [intOf]; omega
     ·have h2' : (0 : Int) <= pb.main := by omega
      have HE1 := lh (fun (W : World) (hw : Below wc.heap.size wc W) => ends_rod x pa wc.heap.size W hw.size (HDA.out.at_ (Nat.le_refl _) hw) (HPAM.out.below hw) HFA.out hr hm h1')
      have HE2 := lh (fun (W : World) (hw : Below wc.heap.size wc W) => ends_rod x pb wc.heap.size W hw.size (HDA.out.at_ (Nat.le_refl _) hw) (HPBM.out.below hw) HFB.out hr hm h2')
      obtain ⟨ja, hja, hjae, hjam⟩ := idxf_some (xs := pa.legs) (p := S.isMainB) (by rw [<- HFA.out.main]; exact h1')
      obtain ⟨jb, hjb, hjbe, hjbm⟩ := idxf_some (xs := pb.legs) (p := S.isMainB) (by rw [<- HFB.out.main]; exact h2')
      have hma : pa.main = (ja : Int) := HFA.out.main.trans hjae
      have hmb : pb.main = (jb : Int) := HFB.out.main.trans hjbe
      have hLa : S.legOf pa = pa.legs[ja] := by unfold S.legOf; rw [hma]; simp [List.getD_eq_getElem?_getD, hja]
      have hLb : S.legOf pb = pb.legs[jb] := by unfold S.legOf; rw [hmb]; simp [List.getD_eq_getElem?_getD, hjb]
      have HG1 := lh (fun (W : World) (hw : Below wc.heap.size wc W) => rleg_any pa ja (S.legOf pa) wc.heap.size W hw.size (by rw [hLa]; exact List.getElem?_eq_getElem hja) hma (HPAM.out.below hw))
      have HG2 := lh (fun (W : World) (hw : Below wc.heap.size wc W) => rleg_any pb jb (S.legOf pb) wc.heap.size W hw.size (by rw [hLb]; exact List.getElem?_eq_getElem hjb) hmb (HPBM.out.below hw))
      have hba := boxOk_x (HFA.out.legs _ (List.getElem_mem hja))
      have hbb := boxOk_x (HFB.out.legs _ (List.getElem_mem hjb))
      rw [<- hLa] at hba
      rw [<- hLb] at hbb
      have hlowa := endLen_bd x pa hr HFA.out (S.legOf pa).lo
      have hupb := endLen_bd x pb hr HFB.out (S.legOf pb).hi
      change 0 <= S.lowOf x pa /\ S.lowOf x pa <= 40000000000 at hlowa
      change 0 <= S.upOf x pb /\ S.upOf x pb <= 40000000000 at hupb
      have HSPE := lh (show S.spanOf x pa pb = if (S.legOf pa).lo.x + S.lowOf x pa < (S.legOf pb).hi.x - S.upOf x pb then ((S.legOf pa).lo.x + S.lowOf x pa, (S.legOf pb).hi.x - S.upOf x pb, true) else (0, 0, false) by unfold S.spanOf; rw [if_neg h1, if_neg h2])
      unfold ruleV memV barV at HE1 HE2
      unfold boxV rodV at HG1 HG2
      clear hja hjae hjam hjb hjbe hjbm hLa hLb hma hmb
      generalize S.legOf pa = La at *
      generalize S.legOf pb = Lb at *
      generalize S.lowOf x pa = ea at *
      generalize S.upOf x pb = eb at *
      generalize S.upOf x pa = ea' at *
      generalize S.lowOf x pb = eb' at *
      have a1 : -1048576 <= La.lo.x := hba.1
      have a2 : La.lo.x <= 1048576 := by omega
      have a3 : -1048576 <= Lb.hi.x := by omega
      have a4 : Lb.hi.x <= 1048576 := hbb.2.2
      have a5 := hlowa.1
      have a6 := hlowa.2
      have a7 := hupb.1
      have a8 := hupb.2
      have e21 : IntKind.i64.wrap (La.lo.x + ea) = La.lo.x + ea := IntWalk.i64_in _ (by omega)
      have e22 : IntKind.i64.wrap (Lb.hi.x - eb) = Lb.hi.x - eb := IntWalk.i64_in _ (by omega)
      clear hba hbb hlowa hupb
      have HRR := lh (fun (W : World) (hw : Below wc.heap.size wc W) => Blk.mid (hDc.via hw) 10 [.int .i64 x.rule.num, .int .i64 x.rule.den, .int .i64 x.rule.pnum, .int .i64 x.rule.pden, .int .i64 x.rule.bnum, .int .i64 x.rule.bden, .int .i64 x.rule.lnum, .int .i64 x.rule.lden, .int .i64 x.rule.least] rfl)
      have HRM := lh (fun (W : World) (hw : Below wc.heap.size wc W) => Blk.mid (hDc.via hw) 0 [.string x.m.name, .slice x.mA x.mn x.mc, .slice x.hA x.hn x.hc, .int .i64 x.m.cover, .int .i64 x.m.aggr, .int .i64 x.m.poker] rfl)
      have HRP := lh (fun (W : World) (hw : Below wc.heap.size wc W) => Blk.mid (hP.via hw) 0 [.string pa.bar.b.mark, .int .i64 pa.bar.b.size, .int .i64 pa.bar.b.count, .int .i64 pa.bar.b.code, .slice pa.bar.A pa.bar.n pa.bar.c] rfl)
      have HRQ := lh (fun (W : World) (hw : Below wc.heap.size wc W) => Blk.mid (hQ.via hw) 0 [.string pb.bar.b.mark, .int .i64 pb.bar.b.size, .int .i64 pb.bar.b.count, .int .i64 pb.bar.b.code, .slice pb.bar.A pb.bar.n pb.bar.c] rfl)
      have HRPL := lh (fun (W : World) (hw : Below wc.heap.size wc W) => Blk.mid (hP.via hw) 5 [.slice pa.A pa.legs.length pa.c] rfl)
      have HRQL := lh (fun (W : World) (hw : Below wc.heap.size wc W) => Blk.mid (hQ.via hw) 5 [.slice pb.A pb.legs.length pb.c] rfl)
      have HP := lh hP
      have HQ := lh hQ
      have HDc := lh hDc
      have HCc := lh hCc
      clear hP hQ hDc hCc hC17
      go_upto_region 26 with (first
       | ((with_reducible refine at_load 32 89 ?_); refine wpList_load_mid rfl 32 (.tmp 89) rfl _ _ rfl _ _ (HRR.out _ belr) Tryz.underlying32 rfl (by kernel_rfl) ?_)
       | ((with_reducible refine at_load 26 91 ?_); refine wpList_load_mid rfl 26 (.tmp 91) rfl _ _ rfl _ _ (HRM.out _ belr) Tryz.underlying26 rfl (by kernel_rfl) ?_)
       | ((with_reducible refine at_load 138 93 ?_); refine wpList_load_mid rfl 138 (.tmp 93) rfl _ _ rfl _ _ (HRP.out _ belr) Tryz.underlying138 rfl (by kernel_rfl) ?_)
       | ((go_at_call 182; (with_reducible refine (HE1.out _ belr).mono ?_); rintro e w6 ⟨rfl, hbw6⟩); have q56 := (HQ.out.via hbw6).cell 5; have ql6 := (HQ.out.via hbw6).lt; simp only [ga1, ga2, ga3] at q56)
       | ((with_reducible refine at_load 32 105 ?_); refine wpList_load_mid rfl 32 (.tmp 105) rfl _ _ rfl _ _ (HRR.out _ belr) Tryz.underlying32 rfl (by kernel_rfl) ?_)
       | ((with_reducible refine at_load 26 107 ?_); refine wpList_load_mid rfl 26 (.tmp 107) rfl _ _ rfl _ _ (HRM.out _ belr) Tryz.underlying26 rfl (by kernel_rfl) ?_)
       | ((with_reducible refine at_load 138 109 ?_); refine wpList_load_mid rfl 138 (.tmp 109) rfl _ _ rfl _ _ (HRQ.out _ belr) Tryz.underlying138 rfl (by kernel_rfl) ?_)
       | (go_at_call 182; (with_reducible refine (HE2.out _ belr).mono ?_); rintro e w7 ⟨rfl, hbw7⟩))
      have hb7 : Below wc.heap.size wc w7 := ba_via hbw7 hbw6
      have HP7 := lh (HP.out.via hb7)
      have HQ7 := lh (HQ.out.via hb7)
      have HC7 := lh (HCc.out.via hb7)
      have h7s := hb7.size
      have hb27 : Below wr.heap.size wr w7 := hbwc.trans (hb7.mono hbwc.size)
      clear HE1 HE2 HRR HRM HRP HRQ HRPL HRQL q56 ql6 p5 p6 q5 q6 HPAM HPBM
      have HG1' := lh (fun (W : World) (hw : Below w7.heap.size w7 W) => HG1.out W (hb7.trans (hw.mono h7s)))
      have HG2' := lh (fun (W : World) (hw : Below w7.heap.size w7 W) => HG2.out W (hb7.trans (hw.mono h7s)))
      clear HG1 HG2 HP HQ HCc HDc HDA hb7 hbw7 hbw6
      have F1 : ∀ W, Sem.run Tryz.prog (Instr.field 78 (.agg #[.int .i64 La.lo.x, .int .i64 La.lo.y, .int .i64 La.lo.z, .int .i64 La.hi.x, .int .i64 La.hi.y, .int .i64 La.hi.z]) 0) W = .ok (.agg #[.int .i64 La.lo.x, .int .i64 La.lo.y, .int .i64 La.lo.z]) W := fun W => by kernel_rfl
      have F2 : ∀ W, Sem.run Tryz.prog (Instr.field 76 (.agg #[.int .i64 La.lo.x, .int .i64 La.lo.y, .int .i64 La.lo.z]) 0) W = .ok (.int .i64 La.lo.x) W := fun W => by kernel_rfl
      have F3 : ∀ W, Sem.run Tryz.prog (Instr.field 78 (.agg #[.int .i64 Lb.lo.x, .int .i64 Lb.lo.y, .int .i64 Lb.lo.z, .int .i64 Lb.hi.x, .int .i64 Lb.hi.y, .int .i64 Lb.hi.z]) 1) W = .ok (.agg #[.int .i64 Lb.hi.x, .int .i64 Lb.hi.y, .int .i64 Lb.hi.z]) W := fun W => by kernel_rfl
      have F4 : ∀ W, Sem.run Tryz.prog (Instr.field 76 (.agg #[.int .i64 Lb.hi.x, .int .i64 Lb.hi.y, .int .i64 Lb.hi.z]) 0) W = .ok (.int .i64 Lb.hi.x) W := fun W => by kernel_rfl
      refine wp_region_mixF 5 [1, 5] [] _ 49 #[.int .i64 0, .int .i64 0] (by kernel_rfl) (by kernel_rfl) (of_decide_eq_true (by kernel_rfl)) rfl rfl (fun _ _ => by kernel_rfl) (by intro c a d v w h; cases d <;> exact h) ?_
      try simp only [wpSegsF, gt1, gt2, gt3, gt4, List.take_nil, List.drop_nil]
      repeat (first | (refine quietLoad (by rfl) 202 (.tmp 13) rfl _ _ rfl _ _ (quietBy fun W hw => (HP7.out.via hw).range) Tryz.underlying202 rfl (by kernel_rfl) ?_; intro aQ hQ; simp only [go_sem, List.setIfInBounds_toArray, List.set_cons_succ, List.set_cons_zero] at hQ; subst hQ) | go_big_quiet_step (fail))
      refine wpQuiet_nil ?_
      intro wA hCA hGA
      have hbA : Below w7.heap.size w7 wA := hCA
      clear hCA hGA
      go_wp2_with ((go_at_call 130; (with_reducible refine (HG1'.out _ hbA).mono ?_); rintro e w8 ⟨rfl, hbw8⟩))
      refine segF_next (show Below _ _ _ from belr) ?_
      try simp only [wpSegsF, gt1, gt2, gt3, gt4, List.take_nil, List.drop_nil]
      repeat (first | (refine quietLoad (by rfl) 202 (.tmp 14) rfl _ _ rfl _ _ (quietBy fun W hw => (HQ7.out.via hw).range) Tryz.underlying202 rfl (by kernel_rfl) ?_; intro aQ hQ; simp only [go_sem, List.setIfInBounds_toArray, List.set_cons_succ, List.set_cons_zero] at hQ; subst hQ) | go_big_quiet_step (fail))
      refine wpQuiet_nil ?_
      intro wB hCB hGB
      have hbB : Below w7.heap.size w7 wB := hCB
      clear hCB hGB hbw8 hbA
      go_wp2_with ((go_at_call 130; (with_reducible refine (HG2'.out _ hbB).mono ?_); rintro e w9 ⟨rfl, hbw9⟩))
      refine segF_next (show Below _ _ _ from belr) ?_
      try simp only [wpSegsF, endAt, gt1, gt2, gt3, gt4, List.take_nil, List.drop_nil]
      repeat (go_big_quiet_step (fail))
      refine wpQuiet_nil ?_
      intro g20 wD hOwD hGwD hLg20 hKg20
      try simp only [endAt, List.drop_succ_cons, List.drop_zero, Nat.reduceAdd]
      have hbD : Below w7.heap.size w7 wD := hOwD
      have hg20 : w7.heap.size <= g20 := hLg20
      have hKD : Blk wD g20 49 #[.int .i64 0, .int .i64 0] := hKg20
      clear hOwD hGwD hLg20 hKg20 hbw9 hbB F1 F2 F3 F4 HG1' HG2'
      have k0 := hKD.cell 0
      have k1 := hKD.cell 1
      have kf0 := hKD.frozen 0
      have kf1 := hKD.frozen 1
      have kl := hKD.lt
      try simp only [ga1, ga2, ga3] at k0 k1
      have hS20 := (hKD.set 0 (.int .i64 (La.lo.x + ea))).set 1 (.int .i64 (Lb.hi.x - eb))
      simp only [List.setIfInBounds_toArray, List.set_cons_zero, List.set_cons_succ] at hS20
      have hb209 : Below w7.heap.size w7 ((wD.setCell ⟨g20, 0, none⟩ (.int .i64 (La.lo.x + ea))).setCell ⟨g20, 1, none⟩ (.int .i64 (Lb.hi.x - eb))) := ba_set (ba_set hbD hg20 _) hg20 _
      have hC20 := HC7.out.via hb209
      have hb20 : Below wr.heap.size wr ((wD.setCell ⟨g20, 0, none⟩ (.int .i64 (La.lo.x + ea))).setCell ⟨g20, 1, none⟩ (.int .i64 (Lb.hi.x - eb))) := hb27.trans (hb209.mono hb27.size)
      go_upto_region 27 with fail
      generalize ((wD.setCell ⟨g20, 0, none⟩ (.int .i64 (La.lo.x + ea))).setCell ⟨g20, 1, none⟩ (.int .i64 (Lb.hi.x - eb))) = W20 at *
      clear k0 k1 kf0 kf1 kl hKD hb209 HP7 HQ7
      have x0 := hS20.cell 0
      have x1 := hS20.cell 1
      have xl := hS20.lt
      have c1x := hC20.cell 1
      have c2x := hC20.cell 2
      have c3x := hC20.cell 3
      have cf1 := hC20.frozen 1
      have cf2 := hC20.frozen 2
      have cf3 := hC20.frozen 3
      have clx := hC20.lt
      simp only [ga1, ga2, ga3] at x0 x1 c1x c2x c3x
      by_cases h3 : La.lo.x + ea < Lb.hi.x - eb
      ·have hCt := ((hC20.set 1 (.int .i64 (La.lo.x + ea))).set 2 (.int .i64 (Lb.hi.x - eb))).set 3 (.bool true)
       simp only [List.setIfInBounds_toArray, List.set_cons_zero, List.set_cons_succ] at hCt
       have hbt : Below wr.heap.size wr (((W20.setCell ⟨wr.heap.size, 1, none⟩ (.int .i64 (La.lo.x + ea))).setCell ⟨wr.heap.size, 2, none⟩ (.int .i64 (Lb.hi.x - eb))).setCell ⟨wr.heap.size, 3, none⟩ (.bool true)) := ba_set (ba_set (ba_set hb20 (Nat.le_refl _) _) (Nat.le_refl _) _) (Nat.le_refl _) _
       go_upto_region 29 with fail
       generalize (((W20.setCell ⟨wr.heap.size, 1, none⟩ (.int .i64 (La.lo.x + ea))).setCell ⟨wr.heap.size, 2, none⟩ (.int .i64 (Lb.hi.x - eb))).setCell ⟨wr.heap.size, 3, none⟩ (.bool true)) = W28 at *
       clear c1x c2x c3x cf1 cf2 cf3 clx x0 x1 xl hS20 hC20 hb20
       have HSP := lh (show ((La.lo.x + ea : Int), (Lb.hi.x - eb : Int), true) = S.spanOf x pa pb from by rw [HSPE.out, if_pos h3])
       have t0 := hCt.cell 0
       have t1 := hCt.cell 1
       have t2 := hCt.cell 2
       have t3 := hCt.cell 3
       have t4 := hCt.cell 4
       have tl := hCt.lt
       simp only [ga1, ga2, ga3] at t0 t1 t2 t3 t4
       have hOWt := own_kept HOW.out (fun k hk => hbt.block k (HOW.out.lt k hk).2)
       have hcl9 := hcl.out
       have hbE1 : w3.heap.size <= W28.heap.size := by have := hbt.size; omega
       have hcsl : cs.length <= 2000 := by omega
       have HBT := lh hbt
       have HOWT := lh hOWt
       clear hbt hOWt hCt
       go_wp2_with (at_builtin; refine wpList_push rfl (.tmp 141) (.tmp 143) _ rfl elemSch ((show Row W28 W28 u8.ownBlock w3.heap.size 172 5 u8 cs.length (cs.flatMap schC) from ⟨HOWT.out, fun k hk => .inl hk.symm⟩).alloc _) ((Exc.refl u8.ownBlock.toList W28).alloc _) (by intro k hk; simp [hk]) hbE1 rfl W28.heap.size 1 1 [.slice ch.A ch.l.length ch.c, .int .i64 (La.lo.x + ea), .int .i64 (Lb.hi.x - eb), .bool true, .int .i64 ar] rfl rfl ?_ (by simp [Value.oneCell']) (by unfold maxLen; omega) (by omega) ?_; (· intro j u hu; have := (Cells.newRow W28 #[.slice ch.A ch.l.length ch.c, .int .i64 (La.lo.x + ea), .int .i64 (Lb.hi.x - eb), .bool true, .int .i64 ar] 172 (0, 0)).get (k := j) (v := u) hu; simpa using this); intro v2 wE hRE hXE hOE)
       have hown := hRE.own
       rw [show ([.slice ch.A ch.l.length ch.c, .int .i64 (La.lo.x + ea), .int .i64 (Lb.hi.x - eb), .bool true, .int .i64 ar] : List Value) = schC ⟨ch.A, ch.c, ch.l, La.lo.x + ea, Lb.hi.x - eb, true, ar⟩ from rfl] at hown
       have hbE : Below w3.heap.size w3 wE := (hbr.trans (HBT.out.mono hsr)).trans (hXE.below (by omega) (fun g hg => (HOWT.out.lt g (by simpa using hg)).1))
       go_roundw
       case rel =>
        refine ⟨q + 1, cs ++ [⟨ch.A, ch.c, ch.l, La.lo.x + ea, Lb.hi.x - eb, true, ar⟩], by omega, by go_num, rfl, lh (by simp; omega), lh (fun i hi hj => ?_), lh (fun c hc => ?_), by simpa using hown, hbE⟩
        ·by_cases hiq : i < cs.length
         ·rw [List.getElem_append_left hiq]
          exact hcok.out i hiq hj
         ·have hi2 : i = cs.length := by simp at hi; omega
          subst hi2
          rw [List.getElem_append_right (Nat.le_refl _)]
          simp only [Nat.sub_self, List.getElem_cons_zero]
          exact HFIN.out cs.length hcl9 hj _ _ _ HSP.out
        ·rcases List.mem_append.1 hc with hc | hc
         ·exact hcin.out c hc
         ·rw [List.mem_singleton] at hc
          subst hc
          exact ⟨ch, HCHM.out, rfl, rfl⟩
       case measure => simp [intOf]; omega
      ·go_upto_region 29 with fail
       have hCt := hC20
       have hbt := hb20
       have HSP := lh (show ((0 : Int), (0 : Int), false) = S.spanOf x pa pb from by rw [HSPE.out, if_neg h3])
       have t0 := hCt.cell 0
       have t1 := hCt.cell 1
       have t2 := hCt.cell 2
       have t3 := hCt.cell 3
       have t4 := hCt.cell 4
       have tl := hCt.lt
       simp only [ga1, ga2, ga3] at t0 t1 t2 t3 t4
       have hOWt := own_kept HOW.out (fun k hk => hbt.block k (HOW.out.lt k hk).2)
       have hcl9 := hcl.out
       have hbE1 : w3.heap.size <= W20.heap.size := by have := hbt.size; omega
       have hcsl : cs.length <= 2000 := by omega
       have HBT := lh hbt
       have HOWT := lh hOWt
       clear hbt hOWt hCt
       go_wp2_with (at_builtin; refine wpList_push rfl (.tmp 141) (.tmp 143) _ rfl elemSch ((show Row W20 W20 u8.ownBlock w3.heap.size 172 5 u8 cs.length (cs.flatMap schC) from ⟨HOWT.out, fun k hk => .inl hk.symm⟩).alloc _) ((Exc.refl u8.ownBlock.toList W20).alloc _) (by intro k hk; simp [hk]) hbE1 rfl W20.heap.size 1 1 [.slice ch.A ch.l.length ch.c, .int .i64 (0), .int .i64 (0), .bool false, .int .i64 ar] rfl rfl ?_ (by simp [Value.oneCell']) (by unfold maxLen; omega) (by omega) ?_; (· intro j u hu; have := (Cells.newRow W20 #[.slice ch.A ch.l.length ch.c, .int .i64 (0), .int .i64 (0), .bool false, .int .i64 ar] 172 (0, 0)).get (k := j) (v := u) hu; simpa using this); intro v2 wE hRE hXE hOE)
       have hown := hRE.own
       rw [show ([.slice ch.A ch.l.length ch.c, .int .i64 (0), .int .i64 (0), .bool false, .int .i64 ar] : List Value) = schC ⟨ch.A, ch.c, ch.l, 0, 0, false, ar⟩ from rfl] at hown
       have hbE : Below w3.heap.size w3 wE := (hbr.trans (HBT.out.mono hsr)).trans (hXE.below (by omega) (fun g hg => (HOWT.out.lt g (by simpa using hg)).1))
       go_roundw
       case rel =>
        refine ⟨q + 1, cs ++ [⟨ch.A, ch.c, ch.l, 0, 0, false, ar⟩], by omega, by go_num, rfl, lh (by simp; omega), lh (fun i hi hj => ?_), lh (fun c hc => ?_), by simpa using hown, hbE⟩
        ·by_cases hiq : i < cs.length
         ·rw [List.getElem_append_left hiq]
          exact hcok.out i hiq hj
         ·have hi2 : i = cs.length := by simp at hi; omega
          subst hi2
          rw [List.getElem_append_right (Nat.le_refl _)]
          simp only [Nat.sub_self, List.getElem_cons_zero]
          exact HFIN.out cs.length hcl9 hj _ _ _ HSP.out
        ·rcases List.mem_append.1 hc with hc | hc
         ·exact hcin.out c hc
         ·rw [List.mem_singleton] at hc
          subst hc
          exact ⟨ch, HCHM.out, rfl, rfl⟩
       case measure => simp [intOf]; omega
  ·have hqn : q = nc := by omega
   have hL := HL3.out.via hbr
   have l0 := hL.cell 0
   have ll := hL.lt
   simp only [ga1, ga2, ga3] at l0
   have hcl2 := hcl.out
   obtain ⟨A5, c5, rfl, _, _, _⟩ := own_form hOW (by unfold maxLen; omega)
   have HOW := lh hOW
   have HQN := lh hqn
   have hqi : ¬ ((q : Int) < nc) := by omega
   have HCL2 := lh hcl2
   clear hOW hqn hcl2 hL
   go_wp2
   go_returns
   have hb0 : w.heap.size <= w1.heap.size := by omega
   have hR := HR3.out.kept hbr
   refine ⟨A1, c1, rs, A5, c5, cs, rfl, HRL.out, HOK.out, ⟨own_mono hR.own hb0, fun r hr => ?_⟩, own_mono HOW.out hW3.size, ?_, hcok.out, fun c hc => ?_, ba_via hbr hW3⟩
   ·obtain ⟨g, cur, t, fr, h1, h2, h3⟩ := hR.each r hr
    exact ⟨g, cur, t, fr, h1, Nat.le_trans hb0 h2, h3⟩
   ·rw [HCL2.out, HQN.out, HNC.out, <- HCM.out, List.length_map]
   ·obtain ⟨ch, hch, hA', hl'⟩ := hcin.out c hc
    rw [hA', hl']
    exact ((HCE.out ch hch).1.below hbr).mono hbr.size
end Go.Proofs.YtmfpbafpnoomeaaGreat
