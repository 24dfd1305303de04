/- Lemmas. -/
import Derived.Test.YtmfpbafpnoomeaaGreatMY
set_option linter.unusedVariables false
set_option linter.unusedSimpArgs false
namespace Go.Proofs.YtmfpbafpnoomeaaGreat
open Go.RowKit
attribute [local go_sem] Oper.semAt_some
theorem pointInfo : (Tryz.prog.info? 76).map (fun i => (i.zero, i.size, i.bytes)) = some (some (.agg #[.int .i64 0, .int .i64 0, .int .i64 0]), 3, 24) := by kernel_rfl
theorem Blk.of_own {w : World} {base E size : Nat} {A : Option Addr} {n c : Nat} {xs : List Value} (h : w.ownsRow base E size (.slice A n c) n xs) (hn : 0 < n) (hm : n <= maxLen) :
 ∃ (g : Nat) (cur : Array Value) (t : TypeId) (fr : Nat × Nat), A = some ⟨g, 0, none⟩ /\ base <= g /\ w.heap[g]? = some (.cells cur t fr) /\ ∀ (j : Nat) (v : Value), xs[j]? = some v -> cur[j]? = some v := by
 have hc := (own_cells h hm).1
 rcases h.2 with ⟨_, h0⟩ | ⟨g, cap, cur, hv, hbg, hh, _⟩
 ·omega
 ·injection hv with hA _ _
  subst hA
  refine ⟨g, _, _, _, rfl, hbg, hh, fun j v hj => ?_⟩
  have h1 := h.cells (g := g) rfl j v hj
  have e : (⟨g, 0, none⟩ : Addr).add j = ⟨g, j, none⟩ := by unfold Addr.add; split <;> simp_all
  rw [e] at h1
  have h2 := cell_of_row w g j _ _ _ hh
  rw [h2] at h1
  exact h1
theorem made_three (n : Nat) (z : Value) : madeCells #[z, z, z] (n * 3) = (List.replicate (n * 3) z).toArray := by
 apply Array.ext_getElem?
 intro j
 by_cases hj : j < n * 3
 ·have h3 : j % 3 = 0 ∨ j % 3 = 1 ∨ j % 3 = 2 := by omega
  have e : (madeCells #[z, z, z] (n * 3))[j]? = some z := by
   unfold madeCells
   rw [Array.getElem?_map, Array.getElem?_range, if_pos (by simpa using hj)]
   simp only [Option.map_some]
   rcases h3 with h | h | h <;> simp [h]
  rw [e]
  simp [hj]
 ·rw [Array.getElem?_eq_none (by simp [madeCells]; omega), Array.getElem?_eq_none (by simp; omega)]
theorem make_points (cs : List Value) (n : Nat) (hn : n <= 100) (hc : cs.length = n * 3) (V : World) :
 (Instr.makeSlice 229 (.int .i64 (n : Int)) (.int .i64 (n : Int))).run Tryz.prog V = .ok (.slice (some ⟨V.heap.size, 0, none⟩) n n) (V.alloc (.cells (fillA cs 0) 76)) := by
 obtain ⟨i, hi, hz, hsz, hby⟩ := info_parts pointInfo
 have := run_make (P := Tryz.prog) V 229 76 i _ Tryz.underlying229 hi hz .i64 .i64 (n : Int) (n : Int) (by omega) (Int.le_refl _) (by rw [hby]; omega) (by omega)
 rw [this, hsz, fillA_zero, hc, <- made_three]
 rfl
set_option maxRecDepth 20000 in
set_option maxHeartbeats 8000000 in
theorem lall_laid (x : Dt) (B n0 : Nat) (M : List Nat) (b2 b3 : Nat) (m : Nat) (w : World) (h1 : 1 <= m) (hB : B <= n0) (hn0 : n0 <= w.heap.size) (hM : ∀ k, k ∈ M -> B <= k /\ k < n0) (h2M : b2 ∉ M) (h3M : b3 ∉ M) (hA : DtAt w B x) (h : S.laid (bars x.bs) x.rs = true)
 (hb3 : Blk w b3 28 #[.slice x.rA x.rn x.rc]) (hb2 : Blk w b2 27 #[.slice x.bA x.bn x.bc]) :
 SeqLaid Fence.wide m Tryz.prog 275 #[.pointer (some ⟨b3, 0, none⟩), .pointer (some ⟨b2, 0, none⟩)] itE (KpL B M) (itR x n0) (fun xs => (xs.length : Int) = S.sumAll x.rs) w := by
 intro l J Jx W hbW hJ hJx hY h0
 refine callsIn_wide.2 ?_
 show Calls Tryz.prog 275 #[.func (.yield l) #[] #[], .pointer (some ⟨b3, 0, none⟩), .pointer (some ⟨b2, 0, none⟩)] W _
 have hBw : B <= w.heap.size := by omega
 have hAW := hA.at_ hBw hbW
 have hRc := hAW.runs.cells
 have hrl := hAW.runs.len
 have hrm := hAW.runs.max
 have HBS := lh hAW.bars
 have hb3W := hb3.via hbW
 have hb2W := hb2.via hbW
 have HF := lh (fun (k : Nat) (hk : k < x.rs.length) => run_facts (x := x) (B := B) (w := w) h hk)
 have HL := lh h
 have HJ := lh hJ
 have HJx := lh hJx
 have HY := lh hY
 have hWs := hbW.size
 have hWB : B <= W.heap.size := by omega
 clear hA hAW hJ hJx hY h hb3 hb2 hbW
 generalize hrA : x.rA = rA at *
 clear hrA
 have c3 := hb3W.cell 0
 have c2 := hb2W.cell 0
 have l3 := hb3W.lt
 have l2 := hb2W.lt
 simp only [ga1, ga2, ga3] at c3 c2
 go_enter Tryz.func275, Tryz.ntmps275
 go_wp2
 go_loopw [14, 4] (fun s t wr => ∃ (k : Nat) (pre : List It), k <= x.rn /\ s = .int .i64 k /\ t = .int .i64 pre.length /\ Hid ((pre.length : Int) = S.sumTo x.rs k) /\ J pre wr /\ Below B W wr /\ Blk wr b3 28 #[.slice rA x.rn x.rc] /\ Blk wr b2 27 #[.slice x.bA x.bn x.bc] /\ W.heap.size <= wr.heap.size) (fun s _ _ => x.rn - (intOf s).toNat)
 case atStart => exact ⟨0, [], Nat.zero_le _, rfl, rfl, lh (by rw [sumTo_zero]; rfl), h0, Below.refl _ _, hb3W, hb2W, Nat.le_refl _⟩
 case round =>
  obtain ⟨k, pre, hk, rfl, rfl, hsum, hJr, hbr, hB3, hB2, hWr⟩ := hrel
  clear c3 c2 l3 l2 hb3W hb2W h0
  by_cases hlt : k < x.rn
  ·have hkx : k < x.rs.length := by omega
   have hki : (k : Int) < x.rn := by omega
   have hRr := hRc.below hbr
   obtain ⟨bR, oR, hRe, hbR, hxx⟩ := hRr.at_ (by rw [flat_len rnC 10 rnC_len]; omega)
   clear hxx
   subst hRe
   have c0 := hRr.row0 rnC_len hkx rfl
   have d1 := hRr.rowj rnC_len hkx 1 rfl
   have d2 := hRr.rowj rnC_len hkx 2 rfl
   have d3 := hRr.rowj rnC_len hkx 3 rfl
   have d4 := hRr.rowj rnC_len hkx 4 rfl
   have d5 := hRr.rowj rnC_len hkx 5 rfl
   have d6 := hRr.rowj rnC_len hkx 6 rfl
   have d7 := hRr.rowj rnC_len hkx 7 rfl
   have d8 := hRr.rowj rnC_len hkx 8 rfl
   have d9 := hRr.rowj rnC_len hkx 9 rfl
   obtain ⟨k0, b, hget, hok, hfe, hfi, hle⟩ := HF.out k hkx
   have hbRl : bR < wr.heap.size := by omega
   have HOK := lh hok
   have HTU := lh (fun (V : World) (hV : B <= V.heap.size) (hh : BarsAt V B x.bA x.bn x.bs) => turned_any x.bs x.rs[k] k0 b x.bA x.bn x.bc B V hV hh hok.index hget hok.bar)
   have hcnt := hok.count
   have hTL : (S.turned b.b x.rs[k]).length = (S.legsOf b.b.code).length + 1 := by
    rw [<- path_len b.b, <- List.length_map (f := S.laidPt x.rs[k] ((0 : Nat) : Int)), laid_map hok.turn hok.bar]
    simp [S.laidPath]
   have hl6 := legs_len b.b.code
   have hT0 : 0 < (S.turned b.b x.rs[k]).length /\ (S.turned b.b x.rs[k]).length <= 100 := by omega
   clear hTL hl6
   have HLIES := lh (fun (j : Nat) (hj : (j : Int) < x.rs[k].count) (i : Nat) (hi : (i : Int) = S.sumTo x.rs k + j) => lies_at HL.out hkx hget hok hi hj)
   unfold rnV at HTU
   clear hRr hok hfe hfi
   generalize hrk : x.rs[k] = r at *
   have e3 := hB3.cell 0
   have e2 := hB2.cell 0
   have l3 := hB3.lt
   have l2 := hB2.lt
   simp only [ga1, ga2, ga3] at e3 e2
   go_upto_region 4 with fail
   have hW6 : Below wr.heap.size wr (wr.alloc (.cells #[.string r.mark, .int .i64 r.tx, .int .i64 r.ty, .int .i64 r.at_.x, .int .i64 r.at_.y, .int .i64 r.at_.z, .int .i64 r.step.x, .int .i64 r.step.y, .int .i64 r.step.z, .int .i64 r.count] 142)) := ba_alloc (Below.refl _ _) _
   have hB6 := Blk.new wr 142 #[.string r.mark, .int .i64 r.tx, .int .i64 r.ty, .int .i64 r.at_.x, .int .i64 r.at_.y, .int .i64 r.at_.z, .int .i64 r.step.x, .int .i64 r.step.y, .int .i64 r.step.z, .int .i64 r.count]
   generalize (wr.alloc (.cells #[.string r.mark, .int .i64 r.tx, .int .i64 r.ty, .int .i64 r.at_.x, .int .i64 r.at_.y, .int .i64 r.at_.z, .int .i64 r.step.x, .int .i64 r.step.y, .int .i64 r.step.z, .int .i64 r.count] 142)) = W6 at *
   have hbW6 : Below B W W6 := hbr.trans (hW6.mono (by omega))
   have HB6 := lh hB6
   have hB3' := hB3.via hW6
   have hB2' := hB2.via hW6
   have HB3 := lh hB3'
   have HB2 := lh hB2'
   have e2' := hB2'.cell 0
   have l2' := hB2'.lt
   simp only [ga1, ga2, ga3] at e2'
   have hs6 := hbW6.size
   have hJ6 := HJ.out _ _ _ hJr (hW6.mono (by omega))
   clear c0 d1 d2 d3 d4 d5 d6 d7 d8 d9 e3 e2 l3 l2 hB3 hB2 hB3' hB2' hbr hJr
   go_upto_region 5 with (first
    | (refine wpList_load_mid rfl 142 (.tmp 6) rfl _ _ rfl _ _ (HB6.out).range Tryz.underlying142 rfl (by kernel_rfl) ?_)
    | (go_at_call 208; (with_reducible refine (HTU.out _ (by omega) (HBS.out.below hbW6)).mono ?_); rintro e w7 ⟨A7, c7, rfl, how7, hbw7⟩))
   obtain ⟨g7, cur7, t7, fr7, rfl, hg7, hh7, hc7⟩ := Blk.of_own how7 (by omega) (by unfold maxLen; omega)
   have hB6' := HB6.out.via hbw7
   have HHC := lh hc7
   have hB3' := HB3.out.via hbw7
   have hB2' := HB2.out.via hbw7
   have hb7W : Below B W w7 := hbW6.trans (hbw7.mono (by omega))
   have hJ7 := HJ.out _ _ _ hJ6 (hbw7.mono hs6)
   have hs7 := hbw7.size
   have d9 := hB6'.cell 9
   have l6 := hB6'.lt
   simp only [ga1, ga2, ga3] at d9
   clear how7 HB6 HB3 HB2 e2' l2' hJ6 hbW6 hB6 hW6 HTU hc7
   have HSS := lh (sumTo_succ x.rs hkx)
   rw [hrk] at HSS
   go_wp2
   clear d9 l6
   go_loopw [23, 4] (fun s t wq => ∃ (j : Nat) (pre' : List It), (j : Int) <= r.count /\ s = .int .i64 j /\ t = .int .i64 pre'.length /\ Hid ((pre'.length : Int) = S.sumTo x.rs k + j) /\ J pre' wq /\ Below B W wq /\ Blk wq b3 28 #[.slice (some ⟨bR, oR, none⟩) x.rn x.rc] /\ Blk wq b2 27 #[.slice x.bA x.bn x.bc] /\ Blk wq wr.heap.size 142 #[.string r.mark, .int .i64 r.tx, .int .i64 r.ty, .int .i64 r.at_.x, .int .i64 r.at_.y, .int .i64 r.at_.z, .int .i64 r.step.x, .int .i64 r.step.y, .int .i64 r.step.z, .int .i64 r.count] /\ wq.heap[g7]? = some (.cells cur7 t7 fr7) /\ w7.heap.size <= wq.heap.size) (fun s _ _ => r.count.toNat - (intOf s).toNat)
   case atStart => exact ⟨0, pre, by omega, rfl, rfl, lh (by have := hsum.out; omega), hJ7, hb7W, hB3', hB2', hB6', hh7, Nat.le_refl _⟩
   case round =>
    generalize wr = wq at *
    obtain ⟨j, pre', hj, rfl, rfl, hsum', hJq, hbq, hB3, hB2, hB6, hq7, hsq⟩ := hrel
    clear hJ7 hb7W hB3' hB2' hB6' hh7 hbw7
    by_cases hltj : (j : Int) < r.count
    ·have hjl := HLIES.out j hltj
     have hJL := lh hjl
     clear hjl
     have hCl : (((S.turned b.b r).map (S.laidPt r j)).flatMap ptC).length = (S.turned b.b r).length * 3 := by rw [flat_len ptC 3 ptC_len, List.length_map]
     have HCL := lh hCl
     have HCG := lh (fun (i : Nat) (hi : i < (S.turned b.b r).length) (q : Nat) (hq : q < 3) => show (((S.turned b.b r).map (S.laidPt r j)).flatMap ptC)[i * 3 + q]? = (ptC (S.laidPt r j (S.turned b.b r)[i]))[q]? from by
      rw [flat_get ptC 3 ptC_len _ i (by rw [List.length_map]; exact hi) q hq, List.getElem_map])
     have hmk := make_points _ (S.turned b.b r).length (by omega) hCl
     have HBD := lh (fun (p : Pt) (hp : p ∈ S.turned b.b r) => laid_bounds HOK.out hp hltj)
     have HPM := lh (show (S.turned b.b r).map (S.laidPt r j) = S.laidPath b.b r j from laid_map HOK.out.turn HOK.out.bar j)
     have HQL := lh (fun (i : Nat) (hi : i < (S.turned b.b r).length) (q : Nat) (v : Value) (hv : (ptC (S.turned b.b r)[i])[q]? = some v) (hq : q < 3) => HHC.out (i * 3 + q) v (by rw [flat_get ptC 3 ptC_len _ i hi q hq]; exact hv))
     clear hCl
     generalize hCs : ((S.turned b.b r).map (S.laidPt r j)).flatMap ptC = Cs at *
     have HCS := lh hCs
     clear hCs
     have d9 := hB6.cell 9
     have l6 := hB6.lt
     simp only [ga1, ga2, ga3] at d9
     go_upto_region 9 with fail
     have hBA := Blk.new wq 76 (fillA Cs 0)
     have hWA : Below wq.heap.size wq (wq.alloc (.cells (fillA Cs 0) 76)) := ba_alloc (Below.refl _ _) _
     have hsA : (wq.alloc (.cells (fillA Cs 0) 76)).heap.size = wq.heap.size + 1 := by simp
     clear hmk d9
     generalize (wq.alloc (.cells (fillA Cs 0) 76)) = wA at *
     have hBA6 := hB6.via hWA
     have hA7 : wA.heap[g7]? = some (.cells cur7 t7 fr7) := (hWA.block g7 (Array.getElem?_eq_some_iff.1 hq7).1).trans hq7
     have l7 := (Array.getElem?_eq_some_iff.1 hq7).1
     go_wp2
     go_loopw [31] (fun s wx => ∃ i : Nat, i <= (S.turned b.b r).length /\ s = .int .i64 i /\ Blk wx wq.heap.size 76 (fillA Cs (i * 3)) /\ Exc [wq.heap.size] wA wx) (fun s _ => (S.turned b.b r).length - (intOf s).toNat)
     case atStart => exact ⟨0, Nat.zero_le _, rfl, by rw [Nat.zero_mul]; exact hBA, Exc.refl _ _⟩
     case round =>
      generalize wr = wx at *
      obtain ⟨i, hi, rfl, hC, hX⟩ := hrel
      have hsx := hX.size
      by_cases hlti : i < (S.turned b.b r).length
      ·have hii : (i : Int) < (S.turned b.b r).length := by omega
       have hx7 : wx.heap[g7]? = some (.cells cur7 t7 fr7) := (hX.block g7 (by omega) (by simp; omega)).trans hA7
       have hbd := HBD.out (S.turned b.b r)[i] (List.getElem_mem hlti)
       have p0 : wx.cell? ⟨g7, i * 3, none⟩ = some (.int .i64 (S.turned b.b r)[i].x) := (cell_of_row wx g7 (i * 3) cur7 t7 fr7 hx7).trans (HQL.out i hlti 0 _ rfl (by omega))
       have p1 : wx.cell? ⟨g7, i * 3 + 1, none⟩ = some (.int .i64 (S.turned b.b r)[i].y) := (cell_of_row wx g7 (i * 3 + 1) cur7 t7 fr7 hx7).trans (HQL.out i hlti 1 _ rfl (by omega))
       have p2 : wx.cell? ⟨g7, i * 3 + 2, none⟩ = some (.int .i64 (S.turned b.b r)[i].z) := (cell_of_row wx g7 (i * 3 + 2) cur7 t7 fr7 hx7).trans (HQL.out i hlti 2 _ rfl (by omega))
       have HG0 := lh (HCG.out i hlti 0 (by omega))
       have HG1 := lh (HCG.out i hlti 1 (by omega))
       have HG2 := lh (HCG.out i hlti 2 (by omega))
       have l7x : g7 < wx.heap.size := by omega
       have hX6 := hBA6.exc hX (by simp; omega)
       generalize (S.turned b.b r)[i] = p at *
       go_upto_region 12 with fail
       have h12 : Below wx.heap.size wx (wx.alloc (.cells #[.int .i64 p.x, .int .i64 p.y, .int .i64 p.z] 76)) := ba_alloc (Below.refl _ _) _
       have hB12 := Blk.new wx 76 #[.int .i64 p.x, .int .i64 p.y, .int .i64 p.z]
       have hC12 := hC.alloc (.cells #[.int .i64 p.x, .int .i64 p.y, .int .i64 p.z] 76)
       have hX12 := hX.alloc (.cells #[.int .i64 p.x, .int .i64 p.y, .int .i64 p.z] 76)
       have hX612 := hX6.alloc (.cells #[.int .i64 p.x, .int .i64 p.y, .int .i64 p.z] 76)
       generalize (wx.alloc (.cells #[.int .i64 p.x, .int .i64 p.y, .int .i64 p.z] 76)) = W12 at *
       have s0 := hB12.cell 0
       have s1 := hB12.cell 1
       have s2 := hB12.cell 2
       have sl := hB12.lt
       have r3 := hX612.cell 3
       have r4 := hX612.cell 4
       have r5 := hX612.cell 5
       have rl := hX612.lt
       simp only [ga1, ga2, ga3] at s0 s1 s2 r3 r4 r5
       have hCl := HCL.out
       have hm3 : i * 3 + 3 <= Cs.length := by omega
       have HP1 := lh (fun (V : World) => plus_any p r.at_ 1 hbd.1 hbd.2.1 (by omega) V)
       have HP2 := lh (fun (h0 : (0 : Int) < j) (V : World) => plus_any (S.plus p r.at_ 1) r.step j hbd.2.2.1 (hbd.2.2.2 h0) (by omega) V)
       unfold ptV at HP1 HP2
       have HLP := lh (show S.laidPt r j p = if (0 : Int) < (j : Int) then S.plus (S.plus p r.at_ 1) r.step j else S.plus p r.at_ 1 from rfl)
       clear p0 p1 p2 hx7 l7x hC hX hX6 hB12 hX612 hbd
       generalize S.plus p r.at_ 1 = q1 at *
       go_upto_region 13 with (first
        | (go_at_call 209; (with_reducible refine (HP1.out _).mono ?_); rintro e w5 ⟨rfl, hbw5⟩; have hC5 := hC12.via hbw5; have y0 := hC5.cell (i * 3); have y1 := hC5.cell (i * 3 + 1); have y2 := hC5.cell (i * 3 + 2); rw [fillA_get (by omega), if_neg (by omega)] at y0 y1 y2; have f0 := hC5.frozen (i * 3); have f1 := hC5.frozen (i * 3 + 1); have f2 := hC5.frozen (i * 3 + 2); have yl := hC5.lt))
       have hD := ((hC5.set (i * 3) (.int .i64 q1.x)).set (i * 3 + 1) (.int .i64 q1.y)).set (i * 3 + 2) (.int .i64 q1.z)
       have hX13 : Exc [wq.heap.size] wA (((w5.setCell ⟨wq.heap.size, i * 3, none⟩ (.int .i64 q1.x)).setCell ⟨wq.heap.size, i * 3 + 1, none⟩ (.int .i64 q1.y)).setCell ⟨wq.heap.size, i * 3 + 2, none⟩ (.int .i64 q1.z)) := (((Exc.via hbw5 hX12).set (.inl (by simp)) _).set (.inl (by simp)) _).set (.inl (by simp)) _
       have hs13 : wq.heap.size < (((w5.setCell ⟨wq.heap.size, i * 3, none⟩ (.int .i64 q1.x)).setCell ⟨wq.heap.size, i * 3 + 1, none⟩ (.int .i64 q1.y)).setCell ⟨wq.heap.size, i * 3 + 2, none⟩ (.int .i64 q1.z)).heap.size := hD.lt
       have hsz : (fillA Cs (i * 3)).size = Cs.length := fillA_size (by omega)
       clear y0 y1 y2 f0 f1 f2 yl hC5 hbw5 hC12 hX12 s0 s1 s2 sl r3 r4 r5 rl HP1
       generalize (((w5.setCell ⟨wq.heap.size, i * 3, none⟩ (.int .i64 q1.x)).setCell ⟨wq.heap.size, i * 3 + 1, none⟩ (.int .i64 q1.y)).setCell ⟨wq.heap.size, i * 3 + 2, none⟩ (.int .i64 q1.z)) = W13 at *
       clear w5
       have hv0 : Cs[i * 3]? = some (.int .i64 (S.laidPt r j p).x) := HG0.out
       have hv1 : Cs[i * 3 + 1]? = some (.int .i64 (S.laidPt r j p).y) := HG1.out
       have hv2 : Cs[i * 3 + 2]? = some (.int .i64 (S.laidPt r j p).z) := HG2.out
       rw [HLP.out] at hv0 hv1 hv2
       by_cases hj0 : (0 : Int) < (j : Int)
       ·rw [if_pos hj0] at hv0 hv1 hv2
        have HV := lh (And.intro hv0 (And.intro hv1 hv2))
        have HPP := lh (HP2.out hj0)
        have hX6 := hBA6.exc hX13 (by simp; omega)
        have r6 := hX6.cell 6
        have r7 := hX6.cell 7
        have r8 := hX6.cell 8
        have rl := hX6.lt
        simp only [ga1, ga2, ga3] at r6 r7 r8
        obtain ⟨g0, g1, g2⟩ := three_get (D := fillA Cs (i * 3)) (m := i * 3) (by omega) (.int .i64 q1.x) (.int .i64 q1.y) (.int .i64 q1.z)
        have y0 := (hD.cell (i * 3)).trans g0
        have y1 := (hD.cell (i * 3 + 1)).trans g1
        have y2 := (hD.cell (i * 3 + 2)).trans g2
        clear hv0 hv1 hv2 HLP HP2 HG0 HG1 HG2 g0 g1 g2 hX6
        generalize S.plus q1 r.step j = q2 at *
        go_upto_region 14 with fail
        refine wp_region_mix 1 [9] (by kernel_rfl) (by kernel_rfl) (of_decide_eq_true (by kernel_rfl)) ?_
        try simp only [wpSegs, gt1, gt2, gt3, gt4, List.take_nil, List.drop_nil]
        repeat (go_big_quiet_step (fail))
        refine wpQuiet_nil ?_
        show wpList _ _ _ _ _ _
        go_wp2_with ((go_at_call 209; (with_reducible refine (HPP.out _).mono ?_); rintro e w6 ⟨rfl, hbw6⟩))
        refine seg_next (grow_to belr) ?_
        try simp only [wpSegs, gt1, gt2, gt3, gt4, List.take_nil, List.drop_nil]
        repeat (go_big_quiet_step (fail))
        refine wpQuiet_nil ?_
        show wpList _ _ _ _ _ _
        have hb6 : Below W13.heap.size W13 w6 := belr
        have hD6 := hD.via hb6
        have hsz6 := hb6.size
        obtain ⟨g0, g1, g2⟩ := three_get (D := fillA Cs (i * 3)) (m := i * 3) (by omega) (.int .i64 q1.x) (.int .i64 q1.y) (.int .i64 q1.z)
        have z0 := (hD6.cell (i * 3)).trans g0
        have z1 := (hD6.cell (i * 3 + 1)).trans g1
        have z2 := (hD6.cell (i * 3 + 2)).trans g2
        have f0 := hD6.frozen (i * 3)
        have f1 := hD6.frozen (i * 3 + 1)
        have f2 := hD6.frozen (i * 3 + 2)
        have hl6 := hD6.lt
        have hXE : Exc [wq.heap.size] wA (((w6.setCell ⟨wq.heap.size, i * 3, none⟩ (.int .i64 q2.x)).setCell ⟨wq.heap.size, i * 3 + 1, none⟩ (.int .i64 q2.y)).setCell ⟨wq.heap.size, i * 3 + 2, none⟩ (.int .i64 q2.z)) := (((Exc.via hb6 hX13).set (.inl (by simp)) _).set (.inl (by simp)) _).set (.inl (by simp)) _
        have hE := ((hD6.set (i * 3) (.int .i64 q2.x)).set (i * 3 + 1) (.int .i64 q2.y)).set (i * 3 + 2) (.int .i64 q2.z)
        clear g0 g1 g2 y0 y1 y2 r6 r7 r8
        go_wp2
        go_roundw
        case rel =>
         refine ⟨i + 1, by omega, by go_num, ?_, hXE⟩
         rw [show (i + 1) * 3 = i * 3 + 3 by omega, <- fillA_three hm3 (.inr ⟨_, _, _, rfl⟩) HV.out.1 HV.out.2.1 HV.out.2.2]
         exact hE
        case measure => simp [intOf]; omega
       ·rw [if_neg hj0] at hv0 hv1 hv2
        have HV := lh (And.intro hv0 (And.intro hv1 hv2))
        clear hv0 hv1 hv2 HLP HP2 HG0 HG1 HG2
        go_wp2
        go_roundw
        case rel =>
         refine ⟨i + 1, by omega, by go_num, ?_, hX13⟩
         rw [show (i + 1) * 3 = i * 3 + 3 by omega, <- fillA_three hm3 (.inl rfl) HV.out.1 HV.out.2.1 HV.out.2.2]
         exact hD
        case measure => simp [intOf]; omega
      ·have hie : i = (S.turned b.b r).length := by omega
       subst hie
       rw [<- HCL.out, fillA_full] at hC
       have hXq : Below B wq wx := (hWA.mono (by omega)).trans (hX.below (by omega) (by intro g hg; simp at hg; omega))
       have hbx : Below B W wx := hbq.trans hXq
       have hJx' : J pre' wx := HJ.out _ _ _ hJq ((hWA.mono (by omega)).trans (hX.below (by omega) (by intro g hg; simp at hg; omega)))
       have hx7 : wx.heap[g7]? = some (.cells cur7 t7 fr7) := (hX.block g7 (by omega) (by simp; omega)).trans hA7
       have hx3 := (hB3.via hWA).exc hX (by have := hB3.lt; simp; omega)
       have hx2 := (hB2.via hWA).exc hX (by have := hB2.lt; simp; omega)
       have hx6 := hBA6.exc hX (by simp; omega)
       have hpl : ((S.turned b.b r).map (S.laidPt r j)).length = (S.turned b.b r).length := List.length_map ..
       have hRy : itR x n0 pre' ⟨pre'.length, some ⟨wq.heap.size, 0, none⟩, (S.turned b.b r).map (S.laidPt r j)⟩ wx := by
        refine ⟨rfl, ⟨k, j, k0, b, hJL.out pre'.length hsum'.out, ?_⟩, wq.heap.size, rfl, by omega, ?_⟩
        ·show (S.turned b.b r).map (S.laidPt r j) = S.laidPath b.b x.rs[k] j
         rw [hrk]
         exact HPM.out
        ·show Blk wx wq.heap.size _ (((S.turned b.b r).map (S.laidPt r j)).flatMap ptC).toArray
         rw [HCS.out]
         exact hC
       obtain ⟨fn, tmps, assign, body, hy, hR⟩ := HY.out pre' _ wx hJx' hRy
       simp only [itE, hpl] at hy
       have HRY := lh hRy
       clear hRy hpl hC hX hJx' hJq hbq hB3 hB2 hB6 hq7 hBA6 hA7 hXq
       go_upto_region 16 with fail
       refine (wpIn_wide (n := m)).1 ?_
       gi_wp2
       refine hR.mono ?_
       have hnM : ∀ g, n0 <= g -> g ∉ M := fun g hg hm => by have := hM g hm; omega
       rintro e V' ⟨hkp, (⟨rfl, hJ'⟩ | ⟨rfl, hJz⟩)⟩
       ·have hv7 := hkp.cells g7 _ _ _ (hnM g7 (by omega)) hx7
        have hv3 := hkp.blk hx3 h3M
        have hv2 := hkp.blk hx2 h2M
        have hv6 := hkp.blk hx6 (hnM _ (by omega))
        have hbv : Below B W V' := hbx.trans hkp.bel
        have hsv := hkp.bel.size
        have hlim := (hJL.out pre'.length hsum'.out).lim
        have e1 : IntKind.i64.wrap ((pre'.length : Int) + 1) = (pre'.length : Int) + 1 := IntWalk.i64_in _ (by omega)
        gi_wp2
        go_wp2
        go_roundw
        case rel => exact ⟨j + 1, pre' ++ [⟨pre'.length, some ⟨wq.heap.size, 0, none⟩, (S.turned b.b r).map (S.laidPt r j)⟩], by omega, by go_num, by simp, lh (by have := hsum'.out; simp; omega), hJ', hbv, hv3, hv2, hv6, hv7, by omega⟩
        case measure => simp [intOf]; omega
       ·gi_wp2
        go_wp2
        refine bodyPost_ret (results_none rfl _ _ _) rfl ?_
        obtain ⟨q1, q2, g, q3, q4, q5⟩ := HRY.out
        exact ⟨⟨_, rfl⟩, .inr ⟨pre', _, hJz, q1, q2, g, q3, q4, hkp.blk q5 (hnM g q4)⟩⟩
    ·have hje : (j : Int) = r.count := by omega
     have d9 := hB6.cell 9
     have l6 := hB6.lt
     simp only [ga1, ga2, ga3] at d9
     have hsq2 := hsum'
     clear hB6 hltj hj
     have HJE := lh hje
     clear hje
     have hnl : ¬ ((j : Int) < r.count) := by have := HJE.out; omega
     go_wp2
     go_roundw
     case rel => exact ⟨k + 1, pre', by omega, by go_num, rfl, lh (by have := HSS.out; have := hsq2.out; have := HJE.out; omega), hJq, hbq, hB3, hB2, by omega⟩
     case measure => simp [intOf]; omega
  ·have hke : k = x.rn := by omega
   have HKE := lh hke
   clear hke
   have hki : ¬ ((k : Int) < x.rn) := by have := HKE.out; omega
   go_wp2
   go_end0
   refine ⟨⟨_, rfl⟩, .inl ⟨pre, ?_, hJr⟩⟩
   have h5 := hsum.out
   rw [HKE.out, <- hrl] at h5
   exact h5
end Go.Proofs.YtmfpbafpnoomeaaGreat
