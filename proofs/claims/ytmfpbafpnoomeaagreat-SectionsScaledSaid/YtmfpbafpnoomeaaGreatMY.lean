/- Lemmas. -/
import Derived.Test.YtmfpbafpnoomeaaGreatMX
import Derived.Test.YtmfpbafpnoomeaaGreatMW
set_option linter.unusedVariables false
set_option linter.unusedSimpArgs false
namespace Go.Proofs.YtmfpbafpnoomeaaGreat
open Go.RowKit
set_option maxHeartbeats 2000000 in
theorem count_yes (x : Dt) (B : Nat) (w : World) (hB : B <= w.heap.size) (hA : DtAt w B x) (h : S.laid (bars x.bs) x.rs = true) :
 Calls Tryz.prog 224 #[.slice x.bA x.bn x.bc, .slice x.rA x.rn x.rc] w fun e w' => e = .returned (.tuple #[.int .i64 (S.mains (bars x.bs) x.rs).length, .int .i64 0]) /\ Below w.heap.size w w' := by
 have HA := lh hA
 have HF := lh (fun (k : Nat) (hk : k < x.rs.length) => run_facts (x := x) (B := B) (w := w) h hk)
 have HL := lh (fun (W : World) (hw : B <= W.heap.size) (hh : BarsAt W B x.bA x.bn x.bs) (hr : RunsAt W B x.rA x.rn x.rs) => h ▸ laid_any x.bs x.rs x.bA x.bn x.bc x.rA x.rn x.rc B W hw hh hr)
 have hrl := hA.runs.len
 have hrm := hA.runs.max
 clear hA h
 generalize hrA : x.rA = rA at *
 have HrA := lh hrA
 clear hrA
 go_enter Tryz.func224, Tryz.ntmps224
 go_wp2_with (first
  | (go_at_call 112; (with_reducible refine (HL.out _ hB HA.out.bars (HrA.out ▸ HA.out.runs)).mono ?_); rintro e w1 ⟨rfl, hbw1⟩; obtain ⟨hcw1, hfw1⟩ := bcell hbw1))
 go_loopw [15, 6] (fun i s wr => ∃ k : Nat, k <= x.rn /\ i = .int .i64 k /\ s = .int .i64 (S.mains (bars x.bs) (x.rs.take k)).length /\ Below w.heap.size w wr) (fun i _ _ => x.rn - (intOf i).toNat)
 case atStart => exact ⟨0, Nat.zero_le _, rfl, by simp [S.mains], hbw1⟩
 case round =>
  obtain ⟨k, hk, rfl, rfl, hbr⟩ := hrel
  by_cases hlt : k < x.rn
  ·have hkx : k < x.rs.length := by omega
   have hki : (k : Int) < x.rn := by omega
   have hs' := (HA.out.at_ hB hbr).runs.cells
   rw [HrA.out] at hs'
   obtain ⟨b, o, hAe, hbB, _⟩ := hs'.at_ (by rw [flat_len rnC 10 rnC_len]; omega)
   subst hAe
   have c0 := hs'.row0 rnC_len hkx rfl
   have c1 := hs'.rowj rnC_len hkx 1 rfl
   have c2 := hs'.rowj rnC_len hkx 2 rfl
   have c3 := hs'.rowj rnC_len hkx 3 rfl
   have c4 := hs'.rowj rnC_len hkx 4 rfl
   have c5 := hs'.rowj rnC_len hkx 5 rfl
   have c6 := hs'.rowj rnC_len hkx 6 rfl
   have c7 := hs'.rowj rnC_len hkx 7 rfl
   have c8 := hs'.rowj rnC_len hkx 8 rfl
   have c9 := hs'.rowj rnC_len hkx 9 rfl
   obtain ⟨k0, br, _, hok, _, _, hle⟩ := HF.out k hkx
   have hcnt := hok.count
   have hsn := mains_snoc (bars x.bs) x.rs hkx hok.at_
   have hln : ((S.mains (bars x.bs) (x.rs.take (k + 1))).length : Int) = (S.mains (bars x.bs) (x.rs.take k)).length + x.rs[k].count := by
    rw [hsn, List.length_append, mainsOf_len]
    omega
   have HLN := lh hln
   clear hs' hok hsn hln
   generalize (S.mains (bars x.bs) (x.rs.take k)).length = sm at *
   generalize x.rs[k] = r at *
   have e1 : IntKind.i64.wrap ((sm : Int) + r.count) = sm + r.count := IntWalk.i64_in _ (by omega)
   go_wp2
   go_roundw
   case rel => exact ⟨k + 1, by omega, by go_num, by rw [HLN.out], bel⟩
   case measure => simp [intOf]; omega
  ·have hke : k = x.rn := by omega
   have HTK := lh (show x.rs.take k = x.rs from List.take_of_length_le (by omega))
   rw [HTK.out]
   go_wp2
   go_ret2
   exact ⟨rfl, hbr⟩
set_option maxRecDepth 20000 in
set_option maxHeartbeats 8000000 in
theorem rods_any (x : Dt) (B : Nat) (w : World) (hB : B <= w.heap.size) (hA : DtAt w B x) (h : S.laid (bars x.bs) x.rs = true) (hn2 : (S.mains (bars x.bs) x.rs).length <= 2000) :
 Calls Tryz.prog 176 #[dtV x] w (GivesRods x (S.mains (bars x.bs) x.rs).length w) := by
 have HCN := lh (fun (W : World) (hw : Below w.heap.size w W) => count_yes x B W (size_via hB hw) (hA.at_ hB hw) h)
 have HMK := lh (fun (W : World) (hw : Below w.heap.size w W) (i k j k0 : Nat) (r : BarR) (hL : Lies x.bs x.rs i k j k0 r) => laidMark_any x i B W (size_via hB hw) (hA.at_ hB hw) h hL)
 have HLG := lh (fun (W : World) (hw : Below w.heap.size w W) (i k j k0 : Nat) (r : BarR) (hL : Lies x.bs x.rs i k j k0 r) => llegs_any x i B W (size_via hB hw) (hA.at_ hB hw) h hL _ rfl)
 have HLI := lh (fun (i : Nat) (hi : i < (S.mains (bars x.bs) x.rs).length) => lies_of h hi)
 have HBS := lh hA.bars
 clear hA h
 generalize (S.mains (bars x.bs) x.rs).length = n at *
 unfold dtV
 have hDB := Blk.new w 34 #[.string x.m.name, .slice x.mA x.mn x.mc, .slice x.hA x.hn x.hc, .int .i64 x.m.cover, .int .i64 x.m.aggr, .int .i64 x.m.poker, .slice x.bA x.bn x.bc, .slice x.rA x.rn x.rc, .slice x.jA x.jn x.jc, .slice x.dA x.dn x.dc, .int .i64 x.rule.num, .int .i64 x.rule.den, .int .i64 x.rule.pnum, .int .i64 x.rule.pden, .int .i64 x.rule.bnum, .int .i64 x.rule.bden, .int .i64 x.rule.lnum, .int .i64 x.rule.lden, .int .i64 x.rule.least]
 have hW1 : Below w.heap.size w (w.alloc (.cells #[.string x.m.name, .slice x.mA x.mn x.mc, .slice x.hA x.hn x.hc, .int .i64 x.m.cover, .int .i64 x.m.aggr, .int .i64 x.m.poker, .slice x.bA x.bn x.bc, .slice x.rA x.rn x.rc, .slice x.jA x.jn x.jc, .slice x.dA x.dn x.dc, .int .i64 x.rule.num, .int .i64 x.rule.den, .int .i64 x.rule.pnum, .int .i64 x.rule.pden, .int .i64 x.rule.bnum, .int .i64 x.rule.bden, .int .i64 x.rule.lnum, .int .i64 x.rule.lden, .int .i64 x.rule.least] 34)) := ba_alloc (Below.refl _ _) _
 go_enter Tryz.func176, Tryz.ntmps176
 go_upto_region 1 with fail
 generalize (w.alloc (.cells #[.string x.m.name, .slice x.mA x.mn x.mc, .slice x.hA x.hn x.hc, .int .i64 x.m.cover, .int .i64 x.m.aggr, .int .i64 x.m.poker, .slice x.bA x.bn x.bc, .slice x.rA x.rn x.rc, .slice x.jA x.jn x.jc, .slice x.dA x.dn x.dc, .int .i64 x.rule.num, .int .i64 x.rule.den, .int .i64 x.rule.pnum, .int .i64 x.rule.pden, .int .i64 x.rule.bnum, .int .i64 x.rule.bden, .int .i64 x.rule.lnum, .int .i64 x.rule.lden, .int .i64 x.rule.least] 34)) = W1 at *
 have HDB := lh hDB
 generalize x.bA = bA at *
 have d6 := hDB.cell 6
 have d7 := hDB.cell 7
 have hDl := hDB.lt
 simp only [ga1, ga2, ga3] at d6 d7
 clear hDB
 go_wp2_with (first
  | (go_at_call 224; (with_reducible refine (HCN.out _ belr).mono ?_); rintro e w1 ⟨rfl, hbw1⟩))
 have hb1 : Below w.heap.size w w1 := ba_via hbw1 hW1
 have HD1 := lh (HDB.out.via hbw1)
 have hs1 := hb1.size
 clear HDB d6 d7 hDl hbw1 HCN
 go_loopw [6, 23] (fun v s wr => ∃ (q : Nat) (rs : List Rod), q <= n /\ s = .int .i64 q /\ Hid (rs.length = q) /\ Hid (∀ (i : Nat) (hi : i < rs.length), RodOk x i rs[i]) /\ RodsAt wr w1.heap.size v rs /\ Below w1.heap.size w1 wr) (fun _ s _ => n - (intOf s).toNat)
 case atStart => exact ⟨0, [], Nat.zero_le _, rfl, lh rfl, lh fun i hi => absurd hi (by simp), ⟨World.ownsRow_nil _ _ _ _, fun r hr => by cases hr⟩, Below.refl _ _⟩
 case round =>
  obtain ⟨q, rs, hq, rfl, hrl, hok, hR, hbr⟩ := hrel
  have hbwr : Below w.heap.size w wr := ba_via hbr hb1
  have hsr := hbr.size
  by_cases hlt : q < n
  ·have hqi : (q : Int) < n := by omega
   obtain ⟨k, j, k0, r, hL⟩ := HLI.out q hlt
   have hDr := HD1.out.via hbr
   have d6 := hDr.cell 6
   have d7 := hDr.cell 7
   have hDl := hDr.lt
   simp only [ga1, ga2, ga3] at d6 d7
   have HMQ := lh (fun (W : World) (hw : Below wr.heap.size wr W) => HMK.out W (ba_via hw hbwr) q k j k0 r hL)
   have HLQ := lh (fun (W : World) (hw : Below wr.heap.size wr W) => HLG.out W (ba_via hw hbwr) q k j k0 r hL)
   have HLL := lh hL
   have hl1 := (legs_sum hL.st.ok.bar).2
   have hl6 := legs_len r.b.code
   have hix := hL.st.ok.index
   have hget := hL.get
   obtain ⟨hk0, hk0b⟩ := List.getElem?_eq_some_iff.1 hget
   have hk0n : k0 < x.bn := by have := HBS.out.len; omega
   have hlen : (S.legsL (S.laidPath r.b (x.rs[k]'hL.st.lt) j)).length = (S.legsOf r.b.code).length := by rw [S.legsL, legsTo_len, laidPath_len]; rfl
   have HLN := lh hlen
   have HR := lh hR
   clear hlen hR hq hget
   generalize hlg : S.legsL (S.laidPath r.b (x.rs[k]'hL.st.lt) j) = lg at *
   have HLGE := lh hlg
   generalize hmk : (x.rs[k]'hL.st.lt).mark = mk at *
   clear hlg hmk
   go_upto_region 9 with (first
    | (go_at_call 225; (with_reducible refine (HMQ.out _ belr).mono ?_); rintro e w2 ⟨rfl, hbw2⟩))
   have hS8 := Blk.new w2 9 #[.string mk]
   have hb8 : Below wr.heap.size wr (w2.alloc (.cells #[.string mk] 9)) := ba_alloc hbw2 _
   generalize (w2.alloc (.cells #[.string mk] 9)) = W8 at *
   have hg8 := hbw2.size
   generalize w2.heap.size = g8 at *
   clear hbw2 d6 d7 hDl
   go_upto_region 12 with fail
   have hb10 : Below wr.heap.size wr (W8.alloc (.cells #[.string ⟨#[]⟩, .int .i64 0, .int .i64 0, .int .i64 0, .slice none 0 0, .slice none 0 0, .int .i64 0] 202)) := ba_alloc hb8 _
   have hT10 := Blk.new W8 202 #[.string ⟨#[]⟩, .int .i64 0, .int .i64 0, .int .i64 0, .slice none 0 0, .slice none 0 0, .int .i64 0]
   have hS10 := hS8.alloc (.cells #[.string ⟨#[]⟩, .int .i64 0, .int .i64 0, .int .i64 0, .slice none 0 0, .slice none 0 0, .int .i64 0] 202)
   have hg10 := hb8.size
   generalize (W8.alloc (.cells #[.string ⟨#[]⟩, .int .i64 0, .int .i64 0, .int .i64 0, .slice none 0 0, .slice none 0 0, .int .i64 0] 202)) = W10 at *
   have hlt8 := hS8.lt
   generalize W8.heap.size = g10 at *
   have hD10 := hDr.via hb10
   have hlD := hDr.lt
   have d6 := hD10.cell 6
   have d7 := hD10.cell 7
   have hDl := hD10.lt
   simp only [ga1, ga2, ga3] at d6 d7
   clear hb8 hS8
   go_upto_region 13 with (first
    | (go_at_call 226; (with_reducible refine (HLQ.out _ belr).mono ?_); rintro e w3 ⟨A3, c3, rfl, how3, hbw3⟩; have hT3 := hT10.via hbw3; have t5 := hT3.cell 5; have f5 := hT3.frozen 5; have lt3 := hT3.lt; simp only [ga1, ga2, ga3] at t5))
   obtain ⟨g3, cur3, t3, fr3, rfl, hg3, hh3, hc3⟩ := Blk.of_own how3 (by omega) (by unfold maxLen; omega)
   have hs10 := hT10.lt
   have hT12 := hT3.set 5 (.slice (some ⟨g3, 0, none⟩) (S.legsOf r.b.code).length c3)
   have hD12 := (hD10.via hbw3).far (p := ⟨g10, 5, none⟩) (by simp; omega) (.slice (some ⟨g3, 0, none⟩) (S.legsOf r.b.code).length c3)
   have hS12 := (hS10.via hbw3).far (p := ⟨g10, 5, none⟩) (by simp; omega) (.slice (some ⟨g3, 0, none⟩) (S.legsOf r.b.code).length c3)
   have hh12 : (w3.setCell ⟨g10, 5, none⟩ (.slice (some ⟨g3, 0, none⟩) (S.legsOf r.b.code).length c3)).heap[g3]? = some (.cells cur3 t3 fr3) := (Below.heap_setCell w3 _ _ g3 (by simp; omega)).trans hh3
   have hb12 : Below wr.heap.size wr (w3.setCell ⟨g10, 5, none⟩ (.slice (some ⟨g3, 0, none⟩) (S.legsOf r.b.code).length c3)) := ba_set (ba_via hbw3 hb10) hg10 _
   simp only [List.setIfInBounds_toArray, List.set_cons_zero, List.set_cons_succ] at hT12
   clear hT3 t5 f5 lt3 hbw3 hT10 hS10 hD10 d6 d7 hDl hh3 how3 hb10
   generalize (w3.setCell ⟨g10, 5, none⟩ (.slice (some ⟨g3, 0, none⟩) (S.legsOf r.b.code).length c3)) = W12 at *
   clear w3
   have HHC := lh hc3
   clear hc3
   have hbw12 : Below w.heap.size w W12 := ba_via hb12 hbwr
   have hs12 := hb12.size
   have hBC := HBS.out.cells.below (hbw12.mono hB)
   have HIX := lh (fun (W : World) (hw : Below W12.heap.size W12 W) => show Calls Tryz.prog 227 #[.slice bA x.bn x.bc, .func (.func 228) #[] #[.pointer (some ⟨g8, 0, none⟩)]] W fun e w' => e = .returned (.int .i64 k0) /\ Below W.heap.size W w' from by
    have e : idxf x.bs (fun y => S.isMark mk y.b) = (k0 : Int) := by
     rw [<- hix]
     exact (idxf_map _ _ _).symm
    rw [<- e]
    exact indexfR_any 228 #[] #[.pointer (some ⟨g8, 0, none⟩)] (fun y => S.isMark mk y.b) bA x.bn x.bc x.bs B W HBS.out.len HBS.out.max (by have := hw.size; omega) (hBC.below (hw.mono (by omega))) Tryz.call228
     (fun y V hV => rmark_any mk y g8 V (((hS12.via hw).via hV).cell 0) ((hS12.via hw).via hV).lt))
   obtain ⟨bB, oB, hBe, hbB, hxx⟩ := hBC.at_ (by rw [flat_len barC 5 barC_len]; omega)
   clear hxx
   subst hBe
   have b0 := hBC.row0 barC_len hk0 rfl
   have b1 := hBC.rowj barC_len hk0 1 rfl
   have b2 := hBC.rowj barC_len hk0 2 rfl
   have b3 := hBC.rowj barC_len hk0 3 rfl
   have b4 := hBC.rowj barC_len hk0 4 rfl
   rw [hk0b] at b0 b1 b2 b3 b4
   have hbBl : bB < W12.heap.size := by omega
   have hk0i : (k0 : Int) < x.bn := by omega
   have d6 := hD12.cell 6
   have hDl := hD12.lt
   simp only [ga1, ga2, ga3] at d6
   have hTl := hT12.lt
   clear hBC hix hk0b
   go_upto_region 15 with fail
   refine wp_region_mix 3 [4, 0] (by kernel_rfl) (by kernel_rfl) (of_decide_eq_true (by kernel_rfl)) ?_
   try simp only [wpSegs, gt1, gt2, gt3, gt4, List.take_nil, List.drop_nil]
   repeat (go_big_quiet_step (fail))
   refine wpQuiet_nil ?_
   show wpList _ _ _ _ _ _
   go_wp2_with (fail)
   refine seg_next (grow_to belr) ?_
   try simp only [wpSegs, gt1, gt2, gt3, gt4, List.take_nil, List.drop_nil]
   repeat (go_big_quiet_step (fail))
   refine wpQuiet_nil ?_
   show wpList _ _ _ _ _ _
   go_wp2_with ((go_at_call 227; (with_reducible refine (HIX.out _ belr).mono ?_); rintro e w4 ⟨rfl, hbw4⟩))
   refine seg_next (grow_to belr) ?_
   try simp only [wpSegs, gt1, gt2, gt3, gt4, List.take_nil, List.drop_nil]
   repeat (go_big_quiet_step (fail))
   refine wpQuiet_nil ?_
   show wpList _ _ _ _ _ _
   have hb4 : Below W12.heap.size W12 w4 := belr
   have hT4 := hT12.via hb4
   have t0 := hT4.cell 0
   have t1 := hT4.cell 1
   have t2 := hT4.cell 2
   have t3' := hT4.cell 3
   have t4 := hT4.cell 4
   have f0 := hT4.frozen 0
   have f1 := hT4.frozen 1
   have f2 := hT4.frozen 2
   have f3 := hT4.frozen 3
   have f4 := hT4.frozen 4
   have tl := hT4.lt
   simp only [ga1, ga2, ga3] at t0 t1 t2 t3' t4
   clear b0 b1 b2 b3 b4 d6
   go_upto_region 16 with fail
   have hT15 := ((((hT4.set 0 (.string r.b.mark)).set 1 (.int .i64 r.b.size)).set 2 (.int .i64 r.b.count)).set 3 (.int .i64 r.b.code)).set 4 (.slice r.A r.n r.c)
   have hh4 : w4.heap[g3]? = some (.cells cur3 t3 fr3) := (hb4.block g3 (Array.getElem?_eq_some_iff.1 hh12).1).trans hh12
   have hh15 : (((((w4.setCell ⟨g10, 0, none⟩ (.string r.b.mark)).setCell ⟨g10, 1, none⟩ (.int .i64 r.b.size)).setCell ⟨g10, 2, none⟩ (.int .i64 r.b.count)).setCell ⟨g10, 3, none⟩ (.int .i64 r.b.code)).setCell ⟨g10, 4, none⟩ (.slice r.A r.n r.c)).heap[g3]? = some (.cells cur3 t3 fr3) := (Below.heap_setCell _ _ _ g3 (by simp; omega)).trans ((Below.heap_setCell _ _ _ g3 (by simp; omega)).trans ((Below.heap_setCell _ _ _ g3 (by simp; omega)).trans ((Below.heap_setCell _ _ _ g3 (by simp; omega)).trans ((Below.heap_setCell _ _ _ g3 (by simp; omega)).trans hh4))))
   have hb15 : Below wr.heap.size wr (((((w4.setCell ⟨g10, 0, none⟩ (.string r.b.mark)).setCell ⟨g10, 1, none⟩ (.int .i64 r.b.size)).setCell ⟨g10, 2, none⟩ (.int .i64 r.b.count)).setCell ⟨g10, 3, none⟩ (.int .i64 r.b.code)).setCell ⟨g10, 4, none⟩ (.slice r.A r.n r.c)) := ba_set (ba_set (ba_set (ba_set (ba_set (ba_via hb4 hb12) hg10 _) hg10 _) hg10 _) hg10 _) hg10 _
   simp only [List.setIfInBounds_toArray, List.set_cons_zero, List.set_cons_succ] at hT15
   clear t0 t1 t2 t3' t4 f0 f1 f2 f3 f4 tl hT4 hT12 hh12 hh4 hS12 hD12 hb12 hb4 hbw4
   generalize (((((w4.setCell ⟨g10, 0, none⟩ (.string r.b.mark)).setCell ⟨g10, 1, none⟩ (.int .i64 r.b.size)).setCell ⟨g10, 2, none⟩ (.int .i64 r.b.count)).setCell ⟨g10, 3, none⟩ (.int .i64 r.b.code)).setCell ⟨g10, 4, none⟩ (.slice r.A r.n r.c)) = W15 at *
   clear w4
   have hl15 := (Array.getElem?_eq_some_iff.1 hh15).1
   have HIB := lh (show Calls Tryz.prog 229 #[.slice (some ⟨g3, 0, none⟩) (S.legsOf r.b.code).length c3, .func (.func 230) #[] #[]] W15 fun e w' => e = .returned (.int .i64 (idxf lg S.isMainB)) /\ Below W15.heap.size W15 w' from
    indexfB_any 230 #[] #[] S.isMainB (some ⟨g3, 0, none⟩) (S.legsOf r.b.code).length c3 lg W15.heap.size W15 HLN.out (by omega) (Nat.le_refl _) (.inr ⟨g3, 0, rfl, hl15, fun j' v hv => by rw [Nat.zero_add]; exact (cell_of_row W15 g3 j' cur3 t3 fr3 hh15).trans (HHC.out j' v hv)⟩) Tryz.call230 (fun y V _ => rmain2_any y V))
   generalize hmi : idxf lg S.isMainB = mi at *
   have HMI := lh hmi
   clear hmi
   have t5 := hT15.cell 5
   have tl := hT15.lt
   simp only [ga1, ga2, ga3] at t5
   go_upto_region 17 with (first
    | (go_at_call 229; (with_reducible refine HIB.out.mono ?_); rintro e w5 ⟨rfl, hbw5⟩; have hT5 := hT15.via hbw5; have t6 := hT5.cell 6; have f6 := hT5.frozen 6; have tl5 := hT5.lt; simp only [ga1, ga2, ga3] at t6))
   have hT16 := hT5.set 6 (.int .i64 mi)
   have hh16 : (w5.setCell ⟨g10, 6, none⟩ (.int .i64 mi)).heap[g3]? = some (.cells cur3 t3 fr3) := (Below.heap_setCell _ _ _ g3 (by simp; omega)).trans ((hbw5.block g3 hl15).trans hh15)
   have hb16 : Below wr.heap.size wr (w5.setCell ⟨g10, 6, none⟩ (.int .i64 mi)) := ba_set (ba_via hbw5 hb15) hg10 _
   simp only [List.setIfInBounds_toArray, List.set_cons_zero, List.set_cons_succ] at hT16
   clear t5 tl t6 f6 tl5 hT5 hT15 hh15 hb15 hbw5 HIB hl15
   generalize (w5.setCell ⟨g10, 6, none⟩ (.int .i64 mi)) = W16 at *
   clear w5
   have t0 := hT16.cell 0
   have t1 := hT16.cell 1
   have t2 := hT16.cell 2
   have t3' := hT16.cell 3
   have t4 := hT16.cell 4
   have t5 := hT16.cell 5
   have t6 := hT16.cell 6
   have tl := hT16.lt
   simp only [ga1, ga2, ga3] at t0 t1 t2 t3' t4 t5 t6
   have HRK := lh (HR.out.kept hb16)
   have hrb : rs.length <= 2000 := by have := hrl.out; omega
   have hbE1 : w1.heap.size <= W16.heap.size := by have := hb16.size; omega
   go_wp2_with (at_builtin; refine wpList_push rfl (.tmp 65) (.tmp 67) _ rfl elemRod ((show Row W16 W16 u6.ownBlock w1.heap.size 202 7 u6 rs.length (rs.flatMap rodC) from ⟨HRK.out.own, fun k hk => .inl hk.symm⟩).alloc _) ((Exc.refl u6.ownBlock.toList W16).alloc _) (by intro k hk; simp [hk]) hbE1 rfl W16.heap.size 1 1 [.string r.b.mark, .int .i64 r.b.size, .int .i64 r.b.count, .int .i64 r.b.code, .slice r.A r.n r.c, .slice (some ⟨g3, 0, none⟩) (S.legsOf r.b.code).length c3, .int .i64 mi] rfl rfl ?_ (by simp [Value.oneCell']) (by unfold maxLen; omega) (by omega) ?_; (· intro j u hu; have := (Cells.newRow W16 #[.string r.b.mark, .int .i64 r.b.size, .int .i64 r.b.count, .int .i64 r.b.code, .slice r.A r.n r.c, .slice (some ⟨g3, 0, none⟩) (S.legsOf r.b.code).length c3, .int .i64 mi] 202 (0, 0)).get (k := j) (v := u) hu; simpa using this); intro v2 wE hRE hXE hOE)
   have hlegs : LegsAt W16 w1.heap.size u6 ⟨r, lg, some ⟨g3, 0, none⟩, c3, mi⟩ :=
    ⟨g3, cur3, t3, fr3, rfl, by omega, fun he => by have := (HR.out.own.lt g3 he).2; omega, hh16, HHC.out⟩
   have hown := hRE.own
   rw [show ([.string r.b.mark, .int .i64 r.b.size, .int .i64 r.b.count, .int .i64 r.b.code, .slice r.A r.n r.c, .slice (some ⟨g3, 0, none⟩) (S.legsOf r.b.code).length c3, .int .i64 mi] : List Value) = rodC ⟨r, lg, some ⟨g3, 0, none⟩, c3, mi⟩ from by rw [<- HLN.out]] at hown
   have hpush := RodsAt.push (r := ⟨r, lg, some ⟨g3, 0, none⟩, c3, mi⟩) (w2 := wE) (v2 := v2) HRK.out hlegs hown (fun k hk hne => (hOE k (by simp; omega) hne).trans (Below.heap_alloc _ _ k hk)) (fun k hk => hRE.place k hk)
   have hb1E : Below w1.heap.size w1 wE := (hbr.trans (hb16.mono hsr)).trans (hXE.below (by omega) (fun g hg => (HRK.out.own.lt g (by simpa using hg)).1))
   go_roundw
   case rel =>
    refine ⟨q + 1, rs ++ [⟨r, lg, some ⟨g3, 0, none⟩, c3, mi⟩], by omega, by go_num, lh (by have := hrl.out; simp; omega), lh fun i hi => ?_, hpush, hb1E⟩
    by_cases hiq : i < rs.length
    ·rw [List.getElem_append_left hiq]
     exact hok.out i hiq
    ·have hi2 : i = rs.length := by simp at hi; omega
     subst hi2
     rw [List.getElem_append_right (Nat.le_refl _)]
     simp only [Nat.sub_self, List.getElem_cons_zero]
     refine ⟨⟨k, j, k0, ?_⟩, HMI.out.symm⟩
     have hrq := hrl.out
     exact ⟨by rw [hrq]; exact HLL.out, HLGE.out.symm⟩
   case measure => simp [intOf]; omega
  ·have hqn : q = n := by omega
   have hrb := hrl.out
   obtain ⟨A5, c5, rfl, hnc5, _, hC5⟩ := own_form hR.own (by unfold maxLen; omega)
   have HQN := lh hqn
   clear hqn hrb
   have hqi : ¬ ((q : Int) < n) := by omega
   have HRL := hrl
   go_wp2
   go_ret2
   exact ⟨A5, c5, rs, rfl, by rw [HRL.out, HQN.out], hok.out, ⟨own_mono hR.own (by omega), fun r hr => by
    obtain ⟨g, cur, t, fr, h1, h2, h3⟩ := hR.each r hr
    exact ⟨g, cur, t, fr, h1, by omega, h3⟩⟩, hbwr⟩
set_option maxRecDepth 20000 in
set_option maxHeartbeats 2000000 in
theorem lvalid_any (x : Dt) (t : Bool) (B : Nat) (n : Nat) (xs : List Value) (w : World) (hB : B <= w.heap.size)
 (hL : ∀ W, Below w.heap.size w W -> Calls Tryz.prog 84 #[dtV x] W (GivesLook t n xs W)) :
 Calls Tryz.prog 53 #[dtV x] w fun e w' => e = .returned (.bool t) /\ Below w.heap.size w w' := by
 have HL := lh hL
 clear hL
 unfold dtV at HL
 unfold dtV
 have hDB := (Blk.new w 34 (dtc x))
 have hRG := hDB.range
 go_enter Tryz.func53, Tryz.ntmps53
 go_wp2_with (first
  | (refine wpList_load_mid rfl 34 (.tmp 1) rfl _ _ rfl _ _ hRG Tryz.underlying34 rfl (by kernel_rfl) ?_)
  | (go_at_call 84; (with_reducible refine (HL.out _ bel).mono ?_); rintro e w1 ⟨A1, c1', rfl, how1, hbw1⟩))
 go_ret
 exact ⟨rfl, bel⟩
def GivesChE (L : List (List Int)) (w : World) (e : Ending) (w' : World) : Prop :=
 ∃ (A : Option Addr) (c : Nat) (rs : List Chn), e = .returned (.tuple #[.slice A rs.length c, .int .i64 0]) /\ rs.map (·.l) = L /\ rs.length <= c /\ Cells w' w'.heap.size A (rs.map chV) /\ (∀ r, r ∈ rs -> Cells w' w'.heap.size r.A (i64s r.l) /\ r.l.length <= r.c) /\ Below w.heap.size w w'
set_option maxRecDepth 20000 in
set_option maxHeartbeats 2000000 in
theorem lchains_yes (x : Dt) (B : Nat) (n : Nat) (xs : List Value) (L : List (List Int)) (w : World) (hB : B <= w.heap.size) (hn : n <= 2000)
 (hL : ∀ W, Below w.heap.size w W -> Calls Tryz.prog 84 #[dtV x] W (GivesLook true n xs W)) (hC : ∀ W, Below w.heap.size w W -> Calls Tryz.prog 231 #[dtV x, .int .i64 n] W (GivesChs L W)) :
 Calls Tryz.prog 177 #[dtV x] w (GivesChE L w) := by
 have HL := lh hL
 have HC := lh hC
 clear hL hC
 unfold dtV at HL HC
 unfold dtV
 have hDB := (Blk.new w 34 (dtc x))
 have hRG := hDB.range
 go_enter Tryz.func177, Tryz.ntmps177
 go_wp2_with (first
  | (refine wpList_load_mid rfl 34 (.tmp 1) rfl _ _ rfl _ _ hRG Tryz.underlying34 rfl (by kernel_rfl) ?_)
  | (refine wpList_load_mid rfl 34 (.tmp 1) rfl _ _ rfl _ _ hRG1 Tryz.underlying34 rfl (by kernel_rfl) ?_)
  | (go_at_call 84; (with_reducible refine (HL.out _ bel).mono ?_); rintro e w1 ⟨A1, c1', rfl, how1, hbw1⟩; have hRG1 := (hDB.via hbw1).range)
  | (go_at_call 231; (with_reducible refine (HC.out _ bel).mono ?_); rintro e w2 ⟨A2, c2, rs, rfl, hrs, hrc, hcc, hce, hbw2⟩))
 go_ret2
 exact ⟨A2, c2, rs, rfl, hrs, hrc, hcc, hce, bel⟩
end Go.Proofs.YtmfpbafpnoomeaaGreat
