/- Contract: lap.mains of a valid detail. -/
import Derived.Test.YtnmolefblaahmaaGreatMN
set_option linter.unusedVariables false
set_option linter.unusedSimpArgs false
namespace Go.Proofs.YtnmolefblaahmaaGreat
open Go.RowKit
theorem run_facts {x : Dt} {B : Nat} {w : World} (h : S.laid (bars x.bs) x.rs = true) {k : Nat} (hk : k < x.rs.length) :
 ∃ (k0 : Nat) (b : BarR), x.bs[k0]? = some b ∧ RunOk (bars x.bs) x.rs[k] k0 b.b ∧ S.findErr (bars x.bs) x.rs[k].mark = 0 ∧ S.findIx (bars x.bs) x.rs[k].mark = k0 ∧
  ((S.mains (bars x.bs) (x.rs.take k)).length : Int) + x.rs[k].count ≤ 2000 := by
 simp only [S.laid, Bool.and_eq_true, decide_eq_true_eq] at h
 obtain ⟨⟨hs, hl⟩, hr⟩ := h
 obtain ⟨k0, b, hb⟩ := right_ok hs (runs_in hr (List.getElem_mem hk))
 have hg := hb.get
 simp only [bars, List.getElem?_map, Option.map_eq_some_iff] at hg
 obtain ⟨br, hbr, rfl⟩ := hg
 have hi := hb.index
 have he : S.findErr (bars x.bs) x.rs[k].mark = 0 := by
  unfold S.findErr
  rw [if_neg (by simp [hs]), if_neg (by omega)]
 exact ⟨k0, br, hbr, hb, he, by unfold S.findIx; rw [if_pos he, hi], mains_le hr hk⟩
abbrev mnArr (m : Mn) : Array Value := #[.int .i64 m.leg.lo.x, .int .i64 m.leg.lo.y, .int .i64 m.leg.lo.z, .int .i64 m.leg.hi.x, .int .i64 m.leg.hi.y, .int .i64 m.leg.hi.z, .bool m.has, .int .i64 m.size, .string m.mark]
set_option maxRecDepth 8000 in
set_option maxHeartbeats 8000000 in
theorem mains_any (x : Dt) (B : Nat) (w : World) (hB : B ≤ w.heap.size) (hA : DtAt w B x) (h : S.laid (bars x.bs) x.rs = true) :
 Calls Tryz.prog 109 #[dtV x] w (GivesOne 232 9 (S.mains (bars x.bs) x.rs).length ((S.mains (bars x.bs) x.rs).flatMap mnC) w) := by
 have HA := Lib.hid hA
 have HF := Lib.hid (fun (k : Nat) (hk : k < x.rs.length) => run_facts (x := x) (B := B) (w := w) h hk)
 clear hA h
 unfold dtV
 generalize hrA : x.rA = rA
 generalize hbA : x.bA = bA
 have hrmax : x.rn ≤ 9223372036854775807 := HA.out.runs.max
 have HrA := Lib.hid hrA
 have HbA := Lib.hid hbA
 clear hrA hbA
 have HFI := Lib.hid (fun (m : ByteArray) (W : World) (hw : B ≤ W.heap.size) (hh : BarsAt W B bA x.bn x.bs) => sfind_any x.bs m bA x.bn x.bc B W hw hh)
 go_enter Tryz.func109, Tryz.ntmps109
 go_wp2
 have hD := Blk.new w 34 #[.string x.m.name, .slice x.mA x.mn x.mc, .slice x.hA x.hn x.hc, .int .i64 x.m.cover, .int .i64 x.m.aggr, .int .i64 x.m.poker, .slice bA x.bn x.bc, .slice rA x.rn x.rc, .slice x.jA x.jn x.jc, .slice x.dA x.dn x.dc, .int .i64 x.rule.num, .int .i64 x.rule.den, .int .i64 x.rule.pnum, .int .i64 x.rule.pden, .int .i64 x.rule.bnum, .int .i64 x.rule.bden, .int .i64 x.rule.lnum, .int .i64 x.rule.lden, .int .i64 x.rule.least]
 have hb0 : Below w.heap.size w (w.alloc (.cells #[.string x.m.name, .slice x.mA x.mn x.mc, .slice x.hA x.hn x.hc, .int .i64 x.m.cover, .int .i64 x.m.aggr, .int .i64 x.m.poker, .slice bA x.bn x.bc, .slice rA x.rn x.rc, .slice x.jA x.jn x.jc, .slice x.dA x.dn x.dc, .int .i64 x.rule.num, .int .i64 x.rule.den, .int .i64 x.rule.pnum, .int .i64 x.rule.pden, .int .i64 x.rule.bnum, .int .i64 x.rule.bden, .int .i64 x.rule.lnum, .int .i64 x.rule.lden, .int .i64 x.rule.least] 34)) := ba_alloc (Below.refl _ _) _
 have hs0 : (w.alloc (.cells #[.string x.m.name, .slice x.mA x.mn x.mc, .slice x.hA x.hn x.hc, .int .i64 x.m.cover, .int .i64 x.m.aggr, .int .i64 x.m.poker, .slice bA x.bn x.bc, .slice rA x.rn x.rc, .slice x.jA x.jn x.jc, .slice x.dA x.dn x.dc, .int .i64 x.rule.num, .int .i64 x.rule.den, .int .i64 x.rule.pnum, .int .i64 x.rule.pden, .int .i64 x.rule.bnum, .int .i64 x.rule.bden, .int .i64 x.rule.lnum, .int .i64 x.rule.lden, .int .i64 x.rule.least] 34)).heap.size = w.heap.size + 1 := by simp
 generalize (w.alloc (.cells #[.string x.m.name, .slice x.mA x.mn x.mc, .slice x.hA x.hn x.hc, .int .i64 x.m.cover, .int .i64 x.m.aggr, .int .i64 x.m.poker, .slice bA x.bn x.bc, .slice rA x.rn x.rc, .slice x.jA x.jn x.jc, .slice x.dA x.dn x.dc, .int .i64 x.rule.num, .int .i64 x.rule.den, .int .i64 x.rule.pnum, .int .i64 x.rule.pden, .int .i64 x.rule.bnum, .int .i64 x.rule.bden, .int .i64 x.rule.lnum, .int .i64 x.rule.lden, .int .i64 x.rule.least] 34)) = W0 at *
 go_loopw [3, 21] (fun v i wr => ∃ (k : Nat) (A3 : Option Addr) (c3 : Nat), k ≤ x.rn ∧ i = .int .i64 k ∧ v = .slice A3 (S.mains (bars x.bs) (x.rs.take k)).length c3 ∧ Row W0 wr none w.heap.size 232 9 (.slice A3 (S.mains (bars x.bs) (x.rs.take k)).length c3) (S.mains (bars x.bs) (x.rs.take k)).length ((S.mains (bars x.bs) (x.rs.take k)).flatMap mnC) ∧ Exc [] W0 wr) (fun _ i _ => x.rn - (intOf i).toNat)
 case atStart => exact ⟨0, none, 0, Nat.zero_le _, rfl, rfl, by simpa [S.mains] using Row.none_ W0 w.heap.size 232 9, Exc.refl _ _⟩
 case round =>
  obtain ⟨k, A3, c3, hk, rfl, rfl, hR, hX⟩ := hrel
  by_cases hlt : k < x.rn
  ·have hkx : k < x.rs.length := by have := HA.out.runs.len; omega
   have hlti : (k : Int) < x.rn := by omega
   have HKR := Lib.hid (show k + 1 ≤ x.rn by omega)
   have hbr : Below w.heap.size w wr := hb0.trans (hX.below (by omega) (by simp))
   have HA' := Lib.hid (HA.out.at_ hB hbr)
   have hBr : B ≤ wr.heap.size := by have := hbr.size; omega
   have hsr := hX.size
   have hs' := HA'.out.runs.cells
   rw [HrA.out] at hs'
   obtain ⟨bR, oR, hAe, hbR, _⟩ := hs'.at_ (by rw [flat_len rnC 10 rnC_len]; omega)
   subst hAe
   have c0 := hs'.row0 rnC_len hkx rfl
   have c1 := hs'.rowj rnC_len hkx 1 rfl
   have c2 := hs'.rowj rnC_len hkx 2 rfl
   have c3' := hs'.rowj rnC_len hkx 3 rfl
   have c4 := hs'.rowj rnC_len hkx 4 rfl
   have c5 := hs'.rowj rnC_len hkx 5 rfl
   have c6 := hs'.rowj rnC_len hkx 6 rfl
   have c7 := hs'.rowj rnC_len hkx 7 rfl
   have c8 := hs'.rowj rnC_len hkx 8 rfl
   have c9 := hs'.rowj rnC_len hkx 9 rfl
   obtain ⟨k0, b, hget, hok, hfe, hfi, hle⟩ := HF.out k hkx
   obtain ⟨hkb, hkb'⟩ := List.getElem?_eq_some_iff.1 hget
   have hk0n : k0 < x.bn := by have := HA.out.bars.len; omega
   have hk0i : (k0 : Int) < x.bn := by omega
   have HBS := Lib.hid (HbA.out ▸ HA'.out.bars)
   have hbs := HBS.out.cells
   obtain ⟨bB, oB, hBe, hbB, _⟩ := hbs.at_ (by rw [flat_len barC 5 barC_len]; omega)
   subst hBe
   have b0 := hbs.row0 barC_len hkb rfl
   have b1 := hbs.rowj barC_len hkb 1 rfl
   have b2 := hbs.rowj barC_len hkb 2 rfl
   have b3 := hbs.rowj barC_len hkb 3 rfl
   have b4 := hbs.rowj barC_len hkb 4 rfl
   rw [hkb'] at b0 b1 b2 b3 b4
   have HBA := Lib.hid (HA'.out.bars.each b (List.mem_of_getElem? hget))
   have HFX := Lib.hid (fun (W : World) (hw : B ≤ W.heap.size) (hh : BarsAt W B (some ⟨bB, oB, none⟩) x.bn x.bs) => hfe ▸ hfi ▸ HFI.out x.rs[k].mark W hw hh)
   have HPX := Lib.hid (fun (W : World) (hw : B ≤ W.heap.size) (hh : BarAt W B b.A b.n b.b) => path_yes b.b b.A b.n b.c B W hw hh hok.bar)
   have HOK := Lib.hid hok
   have HSN := Lib.hid (mains_snoc (bars x.bs) x.rs hkx hok.at_)
   unfold barV at HPX
   have hD' := hD.exc hX (by simp)
   have d6 := hD'.cell 6
   simp only [List.getElem?_toArray, List.getElem?_cons_zero, List.getElem?_cons_succ] at d6
   have ltD := hD'.lt
   have hbBlt : bB < wr.heap.size := by omega
   have hcnt := hok.count
   clear hok hfe hfi hs' hbs hget hkb' hD'
   generalize x.rs[k] = r at *
   go_wp2_with (first
    | (go_at_call 163; (with_reducible refine (HFX.out _ (by simp; omega) (HBS.out.at_ hBr bel)).mono ?_); rintro e w1 ⟨rfl, hbw1⟩; obtain ⟨hcw1, hfw1⟩ := bcell hbw1; have hzw1_0 : w.heap.size < w1.heap.size := lt_via hbw1 sz; have hyw1_0 : wr.heap.size < w1.heap.size := lt_via hbw1 sz)
    | (go_at_call 164; (with_reducible refine (HPX.out _ (by have := hbw1.size; simp at this ⊢; omega) (HBA.out.below (((Below.refl B wr).alloc hBr _).trans (((hbw1.mono (by simp; omega)).alloc (by have := hbw1.size; simp at this; omega) _))))).mono ?_); rintro e w2 ⟨Aw2, cw2, rfl, how2, hbw2⟩; obtain ⟨hcw2, hfw2⟩ := bcell hbw2; have hzw2_0 : w.heap.size < w2.heap.size := lt_via hbw2 sz; have hyw2_0 : wr.heap.size < w2.heap.size := lt_via hbw2 sz))
   have hb12 : Below wr.heap.size wr w2 := bel
   have hR1 := (((Blk.new wr 109 #[.string r.mark, .int .i64 r.tx, .int .i64 r.ty, .int .i64 r.at_.x, .int .i64 r.at_.y, .int .i64 r.at_.z, .int .i64 r.step.x, .int .i64 r.step.y, .int .i64 r.step.z, .int .i64 r.count]).via hbw1).alloc (.cells #[.string b.b.mark, .int .i64 b.b.size, .int .i64 b.b.count, .int .i64 b.b.code, .slice b.A b.n b.c] 133)).via hbw2
   have hR2 := (Blk.new w1 133 #[.string b.b.mark, .int .i64 b.b.size, .int .i64 b.b.count, .int .i64 b.b.code, .slice b.A b.n b.c]).via hbw2
   have hpl := path_len b.b
   have hl6 := legs_len b.b.code
   have hPC := (own_cells how2 (by unfold maxLen; omega)).1
   have hsw1 := hbw1.size
   simp at hsw1
   obtain ⟨bp, op, hPe, hbp, _⟩ := hPC.at_ (by rw [flat_len ptC 3 ptC_len, hpl]; omega)
   have hbp2 : wr.heap.size < bp := by
    have := (how2.lt bp (by rw [hPe]; rfl)).1
    simp at this
    omega
   subst hPe
   have hRr := hR.via hb12
   have hXr : Exc [] W0 w2 := Exc.via hb12 hX
   have hM0 : ∀ g, g ∈ (Value.slice A3 (S.mains (bars x.bs) (List.take k x.rs)).length c3).ownBlock.toList → g < wr.heap.size := fun g hg => (hR.own.lt g (by simpa using hg)).2
   have hRs := row_start hRr
   generalize hg0 : (Value.slice A3 (S.mains (bars x.bs) (List.take k x.rs)).length c3).ownBlock = g0 at *
   clear hcw1 hfw1 hcw2 hfw2 HFX HPX HBA c0 c1 c2 c3' c4 c5 c6 c7 c8 c9 b0 b1 b2 b3 b4 HFI d6
   have hsz2 := hb12.size
   have hsz1 : w1.heap.size < w2.heap.size := hR2.lt
   have HEND := Lib.hid (fun (w3 : World) (v : Value) (n : Nat) (xs : List Value) => row_end (w3 := w3) (v := v) (n := n) (xs := xs) hRr hXr)
   rw [hg0] at HEND
   generalize hL0 : S.mains (bars x.bs) (List.take k x.rs) = L0 at *
   clear hR hX hRr hXr
   go_loopw [3, 49] (fun v i wq => ∃ (m : Nat) (A4 : Option Addr) (c4 : Nat), (m : Int) ≤ r.count ∧ i = .int .i64 m ∧ v = .slice A4 (L0.length + m) c4 ∧ Row w2 wq g0 w.heap.size 232 9 (.slice A4 (L0.length + m) c4) (L0.length + m) ((L0 ++ S.mainsOf b.b r m).flatMap mnC) ∧ Exc g0.toList w2 wq) (fun _ i _ => r.count.toNat - (intOf i).toNat)
   case atStart => exact ⟨0, A3, c3, by omega, rfl, rfl, by simpa [S.mainsOf] using hRs, Exc.refl _ _⟩
   case round =>
    obtain ⟨m, A4, c4, hm, rfl, rfl, hR, hX⟩ := hrel
    by_cases hltm : (m : Int) < r.count
    ·obtain ⟨⟨e0, e1, e2⟩, e3, e4, e5⟩ := run_sums HOK.out hltm
     have hnr := HOK.out.start m (by omega) hltm
     have hfe := fpErr_ok HOK.out.turn hnr HOK.out.bar
     have hfp : S.fpath r.tx r.ty (S.plus r.at_ r.step m) (S.path b.b) = S.laidPath b.b r m := by unfold S.fpath S.laidPath; rw [if_pos hfe]
     have hR1q := hR1.exc hX (fun hg => by have := hM0 _ hg; omega)
     have hR2q := hR2.exc hX (fun hg => by have := hM0 _ hg; omega)
     have hPq := hPC.exc hX (Nat.le_refl _) (fun hg => by have := hM0 _ hg; omega) (by rw [flat_len ptC 3 ptC_len, hpl]; omega)
     have hsq := hX.size
     have HFP := Lib.hid (fun (W : World) (hw : w2.heap.size ≤ W.heap.size) (hh : Cells W w2.heap.size (some ⟨bp, op, none⟩) ((S.path b.b).flatMap ptC)) => hfe ▸ fpath_any r.tx r.ty (S.plus r.at_ r.step m) (S.path b.b) (some ⟨bp, op, none⟩) ((S.legsOf b.b.code).length + 1) cw2 w2.heap.size W hpl (by omega) hw hh)
     rw [hfp] at HFP
     unfold turnV ptV at HFP
     have hlp : (S.laidPath b.b r m).length = (S.legsOf b.b.code).length + 1 := by unfold S.laidPath; rw [List.length_map, hpl]
     have HSM := Lib.hid (mainsOf_snoc b.b r m)
     have r1 := hR1q.cell 1
     have r2 := hR1q.cell 2
     have r3 := hR1q.cell 3
     have r4 := hR1q.cell 4
     have r5 := hR1q.cell 5
     have r6 := hR1q.cell 6
     have r7 := hR1q.cell 7
     have r8 := hR1q.cell 8
     have r9 := hR1q.cell 9
     have s0 := hR2q.cell 0
     have s1 := hR2q.cell 1
     simp only [List.getElem?_toArray, List.getElem?_cons_zero, List.getElem?_cons_succ] at r1 r2 r3 r4 r5 r6 r7 r8 r9 s0 s1
     have lt1 := hR1q.lt
     have lt2 := hR2q.lt
     clear hR1q hR2q hnr hfe hfp
     generalize S.plus r.at_ r.step m = o at *
     generalize S.laidPath b.b r m = LP at *
     have hlp1 : 1 ≤ LP.length := by omega
     have hlp7 : LP.length ≤ 7 := by omega
     clear hlp
     go_wp2_with (first
      | (go_at_call 165; (with_reducible refine (HFP.out _ (by simp; omega) (hPq.alloc hsq _)).mono ?_); rintro e w3 ⟨Aw3, cw3, rfl, how3, hbw3⟩; obtain ⟨hcw3, hfw3⟩ := bcell hbw3; have hyw3_0 : wr.heap.size < w3.heap.size := lt_via hbw3 sz))
     have hMb := Blk.new w3 232 #[.int .i64 0, .int .i64 0, .int .i64 0, .int .i64 0, .int .i64 0, .int .i64 0, .bool false, .int .i64 b.b.size, .string b.b.mark]
     have hPC3 := (own_cells how3 (by unfold maxLen; omega)).1
     obtain ⟨b3, q3, hP3, hb3, _⟩ := hPC3.at_ (by rw [flat_len ptC 3 ptC_len]; omega)
     have hP4 := hPC3.alloc (Nat.le_refl _) (.cells #[.int .i64 0, .int .i64 0, .int .i64 0, .int .i64 0, .int .i64 0, .int .i64 0, .bool false, .int .i64 b.b.size, .string b.b.mark] 232)
     have hRW := ((hR.alloc (.cells #[.int .i64 o.x, .int .i64 o.y, .int .i64 o.z] 76)).via hbw3).alloc (.cells #[.int .i64 0, .int .i64 0, .int .i64 0, .int .i64 0, .int .i64 0, .int .i64 0, .bool false, .int .i64 b.b.size, .string b.b.mark] 232)
     have hXW := (Exc.via hbw3 (hX.alloc (.cells #[.int .i64 o.x, .int .i64 o.y, .int .i64 o.z] 76))).alloc (.cells #[.int .i64 0, .int .i64 0, .int .i64 0, .int .i64 0, .int .i64 0, .int .i64 0, .bool false, .int .i64 b.b.size, .string b.b.mark] 232)
     have hs4 : (w3.alloc (.cells #[.int .i64 0, .int .i64 0, .int .i64 0, .int .i64 0, .int .i64 0, .int .i64 0, .bool false, .int .i64 b.b.size, .string b.b.mark] 232)).heap.size = w3.heap.size + 1 := by simp
     have hs3 := hbw3.size
     simp at hs3
     have hA4 : ∀ g, (Value.slice A4 (L0.length + m) c4).ownBlock = some g → g < w3.heap.size := fun g hg => by have := (hR.own.lt g hg).2; omega
     subst hP3
     clear hcw3 hfw3 hPC3 hPq hR hX HFP r1 r2 r3 r4 r5 r6 r7 r8 r9 s0 s1 e0 e1 e2 e3 e4 e5
     generalize (w3.alloc (.cells #[.int .i64 0, .int .i64 0, .int .i64 0, .int .i64 0, .int .i64 0, .int .i64 0, .bool false, .int .i64 b.b.size, .string b.b.mark] 232)) = w4 at *
     go_loopw [15] (fun i wq => ∃ (q : Nat), q + 1 ≤ LP.length ∧ i = .int .i64 ((q : Int) + 1) ∧ Blk wq w3.heap.size 232 (mnArr (S.mnOf b.b.size b.b.mark (S.mainTo LP q))) ∧ Exc [w3.heap.size] w4 wq) (fun i _ => LP.length + 1 - (intOf i).toNat)
     case atStart => exact ⟨0, by omega, by simp, hMb, Exc.refl _ _⟩
     case round =>
      obtain ⟨q, hq, rfl, hM, hXq⟩ := hrel
      have hsq := hXq.size
      by_cases hql : q + 1 < LP.length
      ·cases hmt : S.mainTo LP q with
       | some bx =>
        rw [hmt] at hM
        have HMM := Lib.hid (show S.mnOf b.b.size b.b.mark (some bx) = S.mnOf b.b.size b.b.mark (S.mainLeg LP) by unfold S.mainLeg; rw [mainTo_stay hmt _ (by omega)])
        have hhas : (S.mnOf b.b.size b.b.mark (some bx)).has = true := rfl
        generalize hMM : S.mnOf b.b.size b.b.mark (some bx) = MM at *
        have hqi : ((q : Int) + 1) < LP.length := by omega
        clear hmt hMM
        have z0 := hM.cell 0
        have z1 := hM.cell 1
        have z2 := hM.cell 2
        have z3 := hM.cell 3
        have z4 := hM.cell 4
        have z5 := hM.cell 5
        have z6 := hM.cell 6
        have z7 := hM.cell 7
        have z8 := hM.cell 8
        unfold mnArr at z0 z1 z2 z3 z4 z5 z6 z7 z8
        simp only [List.getElem?_toArray, List.getElem?_cons_zero, List.getElem?_cons_succ] at z0 z1 z2 z3 z4 z5 z6 z7 z8
        rw [hhas] at z6
        have ltM := hM.lt
        have hRq : Row w2 wr g0 w.heap.size 232 9 (.slice A4 (L0.length + m) c4) (L0.length + m) ((L0 ++ S.mainsOf b.b r m).flatMap mnC) := hRW.kept (fun g hg => hXq.block g (by have := hA4 g hg; omega) (by have := hA4 g hg; simp; omega))
        have hXq2 : Exc g0.toList w2 wr := hXW.join hXq (fun g hg => .inr (by simp at hg; omega))
        have HSM2 := Lib.hid (show (L0 ++ S.mainsOf b.b r (m + 1)).flatMap mnC = (L0 ++ S.mainsOf b.b r m).flatMap mnC ++ [.int .i64 MM.leg.lo.x, .int .i64 MM.leg.lo.y, .int .i64 MM.leg.lo.z, .int .i64 MM.leg.hi.x, .int .i64 MM.leg.hi.y, .int .i64 MM.leg.hi.z, .bool true, .int .i64 MM.size, .string MM.mark] from by rw [HSM.out, ← List.append_assoc, List.flatMap_append, ← HMM.out]; simp [hhas])
        clear hM hRW hXW hhas
        go_wp2_with (at_builtin; refine wpList_push rfl (.tmp 157) (.tmp 159) _ rfl elemMn (hRq.alloc _) (hXq2.alloc _) (fun g hg => by simp [hg]) (by omega) rfl wr.heap.size 1 1 [.int .i64 MM.leg.lo.x, .int .i64 MM.leg.lo.y, .int .i64 MM.leg.lo.z, .int .i64 MM.leg.hi.x, .int .i64 MM.leg.hi.y, .int .i64 MM.leg.hi.z, .bool true, .int .i64 MM.size, .string MM.mark] rfl rfl ?_ (by simp [Value.oneCell']) (by unfold maxLen; omega) (by omega) ?_; (· intro j u hu; have := (Cells.newRow wr #[.int .i64 MM.leg.lo.x, .int .i64 MM.leg.lo.y, .int .i64 MM.leg.lo.z, .int .i64 MM.leg.hi.x, .int .i64 MM.leg.hi.y, .int .i64 MM.leg.hi.z, .bool true, .int .i64 MM.size, .string MM.mark] 232 (0, 0)).get (k := j) (v := u) hu; simpa using this); intro v' w' hR' hX' hO')
        obtain ⟨A5, c5, rfl, _, _, _⟩ := own_form hR'.own (by unfold maxLen; omega)
        go_roundw
        case rel => exact ⟨m + 1, A5, c5, by omega, by go_num, rfl, by rw [HSM2.out]; exact hR', hX'⟩
        case measure => simp [intOf]; omega
       | none =>
        rw [hmt] at hM
        have hM0 : Blk wr w3.heap.size 232 #[.int .i64 0, .int .i64 0, .int .i64 0, .int .i64 0, .int .i64 0, .int .i64 0, .bool false, .int .i64 b.b.size, .string b.b.mark] := hM
        have hqi : ((q : Int) + 1) < LP.length := by omega
        have hq0 : (q : Int) < LP.length := by omega
        have hqp : (0 : Int) ≤ (q : Int) + 1 := by omega
        have hqt : ((q : Int) + 1).toNat = q + 1 := by omega
        have ew1 : IntKind.i64.wrap ((q : Int) + 1 - 1) = q := by rw [show (q : Int) + 1 - 1 = q by omega]; exact IntWalk.i64_in _ (by omega)
        have ew2 : IntKind.i64.wrap (q : Int) = q := IntWalk.i64_in _ (by omega)
        have ew3 : IntKind.i64.wrap ((q : Int) + 1 + 1) = (q : Int) + 1 + 1 := IntWalk.i64_in _ (by omega)
        have hP5 := hP4.exc hXq (by omega) (by simp; omega) (by rw [flat_len ptC 3 ptC_len]; omega)
        have hqx : q < LP.length := by omega
        have p0 := hP5.row0 ptC_len hqx rfl
        have p1 := hP5.rowj ptC_len hqx 1 rfl
        have p2 := hP5.rowj ptC_len hqx 2 rfl
        have p3 := hP5.row0 ptC_len hql rfl
        have p4 := hP5.rowj ptC_len hql 1 rfl
        have p5 := hP5.rowj ptC_len hql 2 rfl
        have hstep := mainTo_succ hmt (List.getElem?_eq_getElem hqx) (List.getElem?_eq_getElem hql)
        generalize LP[q] = P at *
        generalize LP[q + 1] = Q at *
        have hlb3 : b3 < wr.heap.size := by omega
        have hlbm : w3.heap.size < wr.heap.size := hM.lt
        have z6 := hM0.cell 6
        simp only [List.getElem?_toArray, List.getElem?_cons_zero, List.getElem?_cons_succ] at z6
        clear hmt hM hP5 hRW hXW hP4 HSM hMb
        go_wp2
        have hkeep : ∀ W', Below wr.heap.size wr W' → W'.cell? ⟨b3, q3 + q * 3, none⟩ = some (.int .i64 P.x) ∧ W'.cell? ⟨b3, q3 + q * 3 + 1, none⟩ = some (.int .i64 P.y) ∧ W'.cell? ⟨b3, q3 + q * 3 + 2, none⟩ = some (.int .i64 P.z) ∧ W'.cell? ⟨b3, q3 + (q + 1) * 3, none⟩ = some (.int .i64 Q.x) ∧ W'.cell? ⟨b3, q3 + (q + 1) * 3 + 1, none⟩ = some (.int .i64 Q.y) ∧ W'.cell? ⟨b3, q3 + (q + 1) * 3 + 2, none⟩ = some (.int .i64 Q.z) := fun W' h => ⟨(h.cell (p := ⟨b3, q3 + q * 3, none⟩) hlb3).trans p0, (h.cell (p := ⟨b3, q3 + q * 3 + 1, none⟩) hlb3).trans p1, (h.cell (p := ⟨b3, q3 + q * 3 + 2, none⟩) hlb3).trans p2, (h.cell (p := ⟨b3, q3 + (q + 1) * 3, none⟩) hlb3).trans p3, (h.cell (p := ⟨b3, q3 + (q + 1) * 3 + 1, none⟩) hlb3).trans p4, (h.cell (p := ⟨b3, q3 + (q + 1) * 3 + 2, none⟩) hlb3).trans p5⟩
        go_cut [16, 17] from 106 to 114 (fun s16 s17 wx => ∃ bP bQ : Nat, s16 = .pointer (some ⟨bP, 0, none⟩) ∧ s17 = .pointer (some ⟨bQ, 0, none⟩) ∧ T3 wx bP P.x P.y P.z ∧ T3 wx bQ Q.x Q.y Q.z ∧ Below wr.heap.size wr wx)
        case first =>
         go_region_held3 (fun W' => W'.cell? ⟨b3, q3 + q * 3, none⟩ = some (.int .i64 P.x) ∧ W'.cell? ⟨b3, q3 + q * 3 + 1, none⟩ = some (.int .i64 P.y) ∧ W'.cell? ⟨b3, q3 + q * 3 + 2, none⟩ = some (.int .i64 P.z) ∧ W'.cell? ⟨b3, q3 + (q + 1) * 3, none⟩ = some (.int .i64 Q.x) ∧ W'.cell? ⟨b3, q3 + (q + 1) * 3 + 1, none⟩ = some (.int .i64 Q.y) ∧ W'.cell? ⟨b3, q3 + (q + 1) * 3 + 2, none⟩ = some (.int .i64 Q.z)) (first | exact hkeep _ belr) (fail)
         all_goals (
          go_wp2_with fail
          go_meet
          exact ⟨_, _, rfl, rfl, (by repeat (with_reducible first | (refine T3.newN ?_ _ _ _ _ _; first | rfl | (simp; done) | (simp [World.setCell]; done)) | refine T3.set3 ?_ _ _ _ | (refine T3.far3 ?_ ?_ _ _ _; rotate_left; omega) | refine T3.alloc ?_ _ | refine T3.drew ?_ | refine T3.via ?_ (by assumption) | (refine T3E.newN ?_ _ _ _ _ _; first | rfl | (simp; done) | (simp [World.setCell]; done)) | (refine T3E.far3 ?_ ?_ _ _ _; rotate_left; omega) | refine T3E.alloc ?_ _ | refine T3E.drew ?_ | refine T3E.via ?_ (by assumption))), (by repeat (with_reducible first | (refine T3.newN ?_ _ _ _ _ _; first | rfl | (simp; done) | (simp [World.setCell]; done)) | refine T3.set3 ?_ _ _ _ | (refine T3.far3 ?_ ?_ _ _ _; rotate_left; omega) | refine T3.alloc ?_ _ | refine T3.drew ?_ | refine T3.via ?_ (by assumption) | (refine T3E.newN ?_ _ _ _ _ _; first | rfl | (simp; done) | (simp [World.setCell]; done)) | (refine T3E.far3 ?_ ?_ _ _ _; rotate_left; omega) | refine T3E.alloc ?_ _ | refine T3E.drew ?_ | refine T3E.via ?_ (by assumption))), belr⟩)
        case rest =>
         obtain ⟨bP, bQ, rfl, rfl, ⟨hlP, x0, x1, x2⟩, ⟨hlQ, y0, y1, y2⟩, hbc⟩ := hcut
         clear hkeep p0 p1 p2 p3 p4 p5 z6
         have hMc := hM0.via hbc
         have hlbc : w3.heap.size < wc.heap.size := hMc.lt
         have z6 := hMc.cell 6
         have fz0 := hMc.frozen 0
         have fz1 := hMc.frozen 1
         have fz2 := hMc.frozen 2
         have fz3 := hMc.frozen 3
         have fz4 := hMc.frozen 4
         have fz5 := hMc.frozen 5
         have fz6 := hMc.frozen 6
         have z0 := hMc.cell 0
         have z1 := hMc.cell 1
         have z2 := hMc.cell 2
         have z3 := hMc.cell 3
         have z4 := hMc.cell 4
         have z5 := hMc.cell 5
         simp only [List.getElem?_toArray, List.getElem?_cons_zero, List.getElem?_cons_succ] at z0 z1 z2 z3 z4 z5 z6
         have hXc := Exc.via hbc hXq
         by_cases hx : P.x = Q.x
         ·have HNO := Lib.hid (show S.mainTo LP (q + 1) = none by rw [hstep, if_neg (by simp [S.isMain, hx])])
          clear hstep
          go_wp2
          go_roundw
          case rel => exact ⟨q + 1, by omega, by simp, by rw [HNO.out]; exact hMc, hXc⟩
          case measure => simp [intOf]; omega
         ·have hx' : (P.x != Q.x) = true := by simp [hx]
          by_cases hy : P.y = Q.y
          ·by_cases hz : P.z = Q.z
           ·have HNEW := Lib.hid (show S.mainTo LP (q + 1) = some (S.legBx P Q) by rw [hstep, if_pos (by simp [S.isMain, hx, hy, hz])])
            have HLB := Lib.hid (show S.legBx P Q = ⟨⟨(if Q.x < P.x then Q.x else P.x), P.y, P.z⟩, ⟨(if P.x < Q.x then Q.x else P.x), P.y, P.z⟩⟩ from rfl)
            clear hstep
            generalize hmn : (if Q.x < P.x then Q.x else P.x) = mnv at *
            generalize hmx : (if P.x < Q.x then Q.x else P.x) = mxv at *
            have hyQ : Q.y = P.y := hy.symm
            have hzQ : Q.z = P.z := hz.symm
            clear hy hz
            rw [hyQ] at y1
            rw [hzQ] at y2
            clear hyQ hzQ
            go_wp2
            go_roundw
            case rel =>
             refine ⟨q + 1, by omega, by simp, ?_, ?_⟩
             ·rw [HNEW.out, HLB.out]
              have h7 := ((((((hMc.set 0 (.int .i64 mnv)).set 1 (.int .i64 P.y)).set 2 (.int .i64 P.z)).set 3 (.int .i64 mxv)).set 4 (.int .i64 P.y)).set 5 (.int .i64 P.z)).set 6 (.bool true)
              simp only [List.setIfInBounds_toArray, List.set_cons_zero, List.set_cons_succ] at h7
              exact h7
             ·exact ((((((hXc.set (.inl (by simp)) _).set (.inl (by simp)) _).set (.inl (by simp)) _).set (.inl (by simp)) _).set (.inl (by simp)) _).set (.inl (by simp)) _).set (.inl (by simp)) _
            case measure => simp [intOf]; omega
           ·have HNO := Lib.hid (show S.mainTo LP (q + 1) = none by rw [hstep, if_neg (by simp [S.isMain, hz])])
            have hz' : (P.z == Q.z) = false := by simp [hz]
            clear hstep
            have hyQ : Q.y = P.y := hy.symm
            clear hy
            rw [hyQ] at y1
            clear hyQ
            go_wp2
            go_roundw
            case rel => exact ⟨q + 1, by omega, by simp, by rw [HNO.out]; exact hMc, hXc⟩
            case measure => simp [intOf]; omega
          ·have HNO := Lib.hid (show S.mainTo LP (q + 1) = none by rw [hstep, if_neg (by simp [S.isMain, hy])])
           have hy' : (P.y == Q.y) = false := by simp [hy]
           clear hstep
           go_wp2
           go_roundw
           case rel => exact ⟨q + 1, by omega, by simp, by rw [HNO.out]; exact hMc, hXc⟩
           case measure => simp [intOf]; omega
      ·obtain rfl : q = LP.length - 1 := by omega
       have HMM := Lib.hid (show S.mnOf b.b.size b.b.mark (S.mainTo LP (LP.length - 1)) = S.mnOf b.b.size b.b.mark (S.mainLeg LP) from rfl)
       generalize S.mnOf b.b.size b.b.mark (S.mainTo LP (LP.length - 1)) = MM at *
       have hqe : ((LP.length - 1 : Nat) : Int) + 1 = LP.length := by omega
       rw [hqe]
       clear hqe hq hql
       have z0 := hM.cell 0
       have z1 := hM.cell 1
       have z2 := hM.cell 2
       have z3 := hM.cell 3
       have z4 := hM.cell 4
       have z5 := hM.cell 5
       have z6 := hM.cell 6
       have z7 := hM.cell 7
       have z8 := hM.cell 8
       unfold mnArr at z0 z1 z2 z3 z4 z5 z6 z7 z8
       simp only [List.getElem?_toArray, List.getElem?_cons_zero, List.getElem?_cons_succ] at z0 z1 z2 z3 z4 z5 z6 z7 z8
       have ltM := hM.lt
       have hRq : Row w2 wr g0 w.heap.size 232 9 (.slice A4 (L0.length + m) c4) (L0.length + m) ((L0 ++ S.mainsOf b.b r m).flatMap mnC) := hRW.kept (fun g hg => hXq.block g (by have := hA4 g hg; omega) (by have := hA4 g hg; simp; omega))
       have hXq2 : Exc g0.toList w2 wr := hXW.join hXq (fun g hg => .inr (by simp at hg; omega))
       have HSM2 := Lib.hid (show (L0 ++ S.mainsOf b.b r (m + 1)).flatMap mnC = (L0 ++ S.mainsOf b.b r m).flatMap mnC ++ mnC MM from by rw [HSM.out, ← List.append_assoc, List.flatMap_append, ← HMM.out]; simp)
       clear hM hRW hXW
       go_wp2_with (at_builtin; refine wpList_push rfl (.tmp 157) (.tmp 159) _ rfl elemMn (hRq.alloc _) (hXq2.alloc _) (fun g hg => by simp [hg]) (by omega) rfl wr.heap.size 1 1 (mnC MM) rfl rfl ?_ (by simp [Value.oneCell']) (by unfold maxLen; omega) (by omega) ?_; (· intro j u hu; have := (Cells.newRow wr (mnArr MM) 232 (0, 0)).get (k := j) (v := u) hu; simpa using this); intro v' w' hR' hX' hO')
       obtain ⟨A5, c5, rfl, _, _, _⟩ := own_form hR'.own (by unfold maxLen; omega)
       go_roundw
       case rel => exact ⟨m + 1, A5, c5, by omega, by go_num, rfl, by rw [HSM2.out]; exact hR', hX'⟩
       case measure => simp [intOf]; omega
    ·have hmc : r.count.toNat = m := by omega
     obtain ⟨hRe, hXe⟩ := HEND.out _ _ _ _ hR hX
     have HS1 := Lib.hid (show S.mains (bars x.bs) (List.take (k + 1) x.rs) = L0 ++ S.mainsOf b.b r m by rw [HSN.out, hmc])
     have HS2 := Lib.hid (show (L0 ++ S.mainsOf b.b r m).length = L0.length + m by rw [List.length_append, mainsOf_len])
     clear hR hX
     go_wp2
     go_roundw
     case rel => exact ⟨k + 1, A4, c4, HKR.out, by go_num, by rw [HS1.out, HS2.out], by rw [HS1.out, HS2.out]; exact hRe, hXe⟩
     case measure => have := HKR.out; simp [intOf]; omega
  ·have he : x.rs.take k = x.rs := List.take_of_length_le (by have := HA.out.runs.len; omega)
   have HT := Lib.hid he
   rw [he] at hR
   go_wp2
   go_ret
   exact ⟨A3, c3, by rw [HT.out]; rfl, hR.own, hb0.trans (hX.below (by omega) (by simp))⟩
end Go.Proofs.YtnmolefblaahmaaGreat
