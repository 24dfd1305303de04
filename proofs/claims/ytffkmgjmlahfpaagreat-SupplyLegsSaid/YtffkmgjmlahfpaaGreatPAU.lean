/- Contracts of the reference for layer 25: Main, Size, Mark, Count. Contract of the reference: In of a zone and a main leg. Contract of the reference for layer 25: joint. Contracts of the reference for  -/
import Derived.Test.YtffkmgjmlahfpaaGreatPAF
import Derived.Test.YtffkmgjmlahfpaaGreatPT
import Derived.Test.YtffkmgjmlahfpaaGreatPAJ
import Derived.Test.YtffkmgjmlahfpaaGreatPV
import Derived.Test.YtffkmgjmlahfpaaGreatPW
import Derived.Test.YtffkmgjmlahfpaaGreatPAI
import Derived.Test.YtffkmgjmlahfpaaGreatPAA
import Derived.Test.YtffkmgjmlahfpaaGreatPR
import Derived.Test.YtffkmgjmlahfpaaGreatPX
set_option linter.unusedVariables false
set_option linter.unusedSimpArgs false
namespace Go.Proofs.YtffkmgjmlahfpaaGreat
open Go.RowKit
theorem mnOf_size (s : Int) (m : ByteArray) (o : Option Bx) : (S.mnOf s m o).size = s := by cases o <;> rfl
set_option maxRecDepth 20000 in
set_option maxHeartbeats 2000000 in
theorem rmain_any (x : Dt) (B : Nat) (w : World) (hB : B ≤ w.heap.size) (hA : DtAt w B x) (h : S.laid (bars x.bs) x.rs = true) (i : Nat) (m : Mn) (hm : (S.mains (bars x.bs) x.rs)[i]? = some m) :
    Calls Tryz.prog 43 #[dtV x, .int .i64 i] w fun e w' => e = .returned (.tuple #[boxV m.leg, .bool m.has]) ∧ Below w.heap.size w w' := by
  obtain ⟨k, j, k0, r, hL⟩ := lies_of h (List.getElem?_eq_some_iff.1 hm).1
  have hmn : m = S.mnOf r.b.size r.b.mark (S.mainLeg (S.laidPath r.b (x.rs[k]'hL.st.lt) j)) := by
    have := hL.st.get
    rw [hm] at this
    injection this
  have HA := Lib.hid hA
  have hl6 := legs_len r.b.code
  have hlp := laidPath_len r.b (x.rs[k]'hL.st.lt) j
  have HLG := Lib.hid (fun (W : World) (hw : B ≤ W.heap.size) (hh : DtAt W B x) => rlegs16_any x.bs x.rs x.bA x.bn x.bc x.rA x.rn x.rc B W hw hh.bars hh.runs i k j k0 r hL _ rfl)
  have hln : (S.legsL (S.laidPath r.b (x.rs[k]'hL.st.lt) j)).length = (S.legsOf r.b.code).length := by rw [S.legsL, legsTo_len, hlp]; rfl
  clear hA hm
  generalize S.laidPath r.b (x.rs[k]'hL.st.lt) j = LP at *
  cases hml : S.mainLeg LP with
  | none =>
    have hid := main_none (by omega) hml
    have HMG := Lib.hid (fun (W : World) (A : Option Addr) (c B' : Nat) (hw : B' ≤ W.heap.size) (hs : Cells W B' A ((S.legsL LP).flatMap boxC)) => hid ▸ mainleg_any A (S.legsOf r.b.code).length c (S.legsL LP) B' W hln (by omega) hw hs)
    rw [hml] at hmn
    subst hmn
    unfold dtV
    go_enter Tryz.func43, Tryz.ntmps43
    go_wp2_with (first
      | (go_at_call 95; (with_reducible refine (HLG.out _ (size_via hB bel) (HA.out.at_ hB bel)).mono ?_); rintro e w1 ⟨Aw1, cw1, rfl, how1, hbw1⟩; obtain ⟨hcw1, hfw1⟩ := bcell hbw1; have hzw1_0 : w.heap.size < w1.heap.size := lt_via hbw1 (by first | omega | (simp; done) | (simp; omega)); have hzw1_1 : w.heap.size + 1 < w1.heap.size := lt_via hbw1 (by first | omega | (simp; done) | (simp; omega)))
      | (go_at_call 96; (with_reducible refine (HMG.out _ _ _ _ (Nat.le_refl _) (own_cells how1 (by unfold maxLen; omega)).1).mono ?_); rintro e w2 ⟨rfl, hbw2⟩; obtain ⟨hcw2, hfw2⟩ := bcell hbw2; have hzw2_0 : w.heap.size < w2.heap.size := lt_via hbw2 (by first | omega | (simp; done) | (simp; omega)); have hzw2_1 : w.heap.size + 1 < w2.heap.size := lt_via hbw2 (by first | omega | (simp; done) | (simp; omega))))
    have hbel : Below w.heap.size w w2 := bel
    exact bodyPost_ret (v := .tuple #[.agg #[.int .i64 0, .int .i64 0, .int .i64 0, .int .i64 0, .int .i64 0, .int .i64 0], .bool false]) (by simp [results, Tryz.results43, go_sem, *]) rfl ⟨rfl, ((((((hbel.setCell (Nat.le_succ _) _).setCell (Nat.le_succ _) _).setCell (Nat.le_succ _) _).setCell (Nat.le_succ _) _).setCell (Nat.le_succ _) _).setCell (Nat.le_succ _) _)⟩
  | some b =>
    obtain ⟨jj, hid, hg, hjj⟩ := main_some (by omega) hml
    have HMG := Lib.hid (fun (W : World) (A : Option Addr) (c B' : Nat) (hw : B' ≤ W.heap.size) (hs : Cells W B' A ((S.legsL LP).flatMap boxC)) => hid ▸ mainleg_any A (S.legsOf r.b.code).length c (S.legsL LP) B' W hln (by omega) hw hs)
    rw [hml] at hmn
    subst hmn
    have HG := Lib.hid hg
    have hjl : jj < (S.legsOf r.b.code).length := by omega
    have hji : (jj : Int) < ((S.legsOf r.b.code).length : Int) := by omega
    clear hid hg
    unfold dtV
    go_enter Tryz.func43, Tryz.ntmps43
    go_wp2_with (first
      | (go_at_call 95; (with_reducible refine (HLG.out _ (size_via hB bel) (HA.out.at_ hB bel)).mono ?_); rintro e w1 ⟨Aw1, cw1, rfl, how1, hbw1⟩; obtain ⟨hcw1, hfw1⟩ := bcell hbw1; have hzw1_0 : w.heap.size < w1.heap.size := lt_via hbw1 (by first | omega | (simp; done) | (simp; omega)); have hzw1_1 : w.heap.size + 1 < w1.heap.size := lt_via hbw1 (by first | omega | (simp; done) | (simp; omega)))
      | (go_at_call 96; (with_reducible refine (HMG.out _ _ _ _ (Nat.le_refl _) (own_cells how1 (by unfold maxLen; omega)).1).mono ?_); rintro e w2 ⟨rfl, hbw2⟩; obtain ⟨hcw2, hfw2⟩ := bcell hbw2
         have hzw2_0 : w.heap.size < w2.heap.size := lt_via hbw2 (by first | omega | (simp; done) | (simp; omega))
         have hzw2_1 : w.heap.size + 1 < w2.heap.size := lt_via hbw2 (by first | omega | (simp; done) | (simp; omega))
         have hsL := (own_cells how1 (by unfold maxLen; omega)).1
         obtain ⟨b4, o4, rfl, hbl4, hxx⟩ := hsL.at_ (by rw [flat_len boxC 6 boxC_len, hln]; omega)
         clear hxx
         obtain ⟨c0, c1, c2, c3, c4, c5⟩ := hsL.boxes HG.out))
    have hbel : Below w.heap.size w w2 := bel
    exact bodyPost_ret (v := .tuple #[.agg #[.int .i64 b.lo.x, .int .i64 b.lo.y, .int .i64 b.lo.z, .int .i64 b.hi.x, .int .i64 b.hi.y, .int .i64 b.hi.z], .bool true]) (by simp [results, Tryz.results43, go_sem, *]) rfl ⟨rfl, ((((((hbel.setCell (Nat.le_succ _) _).setCell (Nat.le_succ _) _).setCell (Nat.le_succ _) _).setCell (Nat.le_succ _) _).setCell (Nat.le_succ _) _).setCell (Nat.le_succ _) _)⟩
set_option maxRecDepth 20000 in
set_option maxHeartbeats 2000000 in
theorem rsize25_any (x : Dt) (B : Nat) (w : World) (hB : B ≤ w.heap.size) (hA : DtAt w B x) (h : S.laid (bars x.bs) x.rs = true) (i : Nat) (m : Mn) (hm : (S.mains (bars x.bs) x.rs)[i]? = some m) :
    Calls Tryz.prog 47 #[dtV x, .int .i64 i] w fun e w' => e = .returned (.int .i64 m.size) ∧ Below w.heap.size w w' := by
  obtain ⟨k, j, k0, r, hL⟩ := lies_of h (List.getElem?_eq_some_iff.1 hm).1
  have hmn : m = S.mnOf r.b.size r.b.mark (S.mainLeg (S.laidPath r.b (x.rs[k]'hL.st.lt) j)) := by
    have := hL.st.get
    rw [hm] at this
    injection this
  have HE := Lib.hid (show m.size = r.b.size by rw [hmn, mnOf_size])
  have HA := Lib.hid hA
  have HLG := Lib.hid (fun (W : World) (hw : B ≤ W.heap.size) (hh : DtAt W B x) => rbar16_any x.bs x.rs x.bA x.bn x.bc x.rA x.rn x.rc B W hw hh.bars hh.runs i k j k0 r hL)
  clear hA hm hmn hL
  unfold dtV
  unfold barV at HLG
  have f1 : ∀ W, (Instr.field 158 (.agg #[.string r.b.mark, .int .i64 r.b.size, .int .i64 r.b.count, .int .i64 r.b.code, .slice r.A r.n r.c]) 1).run Tryz.prog W = .ok (.int .i64 r.b.size) W := fun _ => by kernel_rfl
  go_enter Tryz.func47, Tryz.ntmps47
  go_wp2_with (first
    | (go_at_call 102; (with_reducible refine (HLG.out _ (size_via hB bel) (HA.out.at_ hB bel)).mono ?_); rintro e w1 ⟨rfl, hbw1⟩; obtain ⟨hcw1, hfw1⟩ := bcell hbw1; have hzw1_0 : w.heap.size < w1.heap.size := lt_via hbw1 (by first | omega | (simp; done) | (simp; omega))))
  go_ret
  exact ⟨ret_i HE.out.symm, bel⟩
theorem laid_len {bs : List Bar} {rs : List Rn} (h : S.laid bs rs = true) : ((S.mains bs rs).length : Int) = S.sumAll rs := by
  simp only [S.laid, Bool.and_eq_true, decide_eq_true_eq] at h
  have := mains_sum h.1.1 (fun r hr => runs_in h.2 hr) (k := rs.length) (Nat.le_refl _)
  rwa [List.take_length] at this
theorem rcount25_any (x : Dt) (B : Nat) (w : World) (hB : B ≤ w.heap.size) (hA : DtAt w B x) (h : S.laid (bars x.bs) x.rs = true) :
    Calls Tryz.prog 42 #[dtV x] w fun e w' => e = .returned (.int .i64 (S.mains (bars x.bs) x.rs).length) ∧ Below w.heap.size w w' := by
  have HA := Lib.hid hA
  have hrs : ∀ k (hk : k < x.rs.length), 0 ≤ x.rs[k].count ∧ x.rs[k].count ≤ 1000 := fun k hk => by
    have h2 := h
    simp only [S.laid, Bool.and_eq_true, decide_eq_true_eq] at h2
    have := right_count (runs_in h2.2 (List.getElem_mem hk))
    omega
  have h60 : x.rn ≤ 60 := by
    have h2 := h
    simp only [S.laid, Bool.and_eq_true, decide_eq_true_eq] at h2
    have := hA.runs.len
    omega
  have HC := Lib.hid (fun (W : World) (hw : B ≤ W.heap.size) (hh : DtAt W B x) => (laid_len h).symm ▸ rcount16_any x.rs x.rA x.rn x.rc B W hw hh.runs h60 hrs)
  clear hA hrs h60 h
  unfold dtV
  go_enter Tryz.func42, Tryz.ntmps42
  go_wp2_with (first
    | (go_at_call 94; (with_reducible refine (HC.out _ (size_via hB bel) (HA.out.at_ hB bel)).mono ?_); rintro e w' ⟨rfl, rfl⟩))
  go_ret
  exact ⟨rfl, bel⟩
set_option maxHeartbeats 4000000 in
theorem rin_any (a : Bx) (x1 x2 y z : Int) (w : World) :
    Calls Tryz.prog 144 #[boxV a, .agg #[.int .i64 x1, .int .i64 y, .int .i64 z, .int .i64 x2, .int .i64 y, .int .i64 z]] w fun e w' => e = .returned (.bool (S.inside ⟨⟨x1, y, z⟩, ⟨x2, y, z⟩⟩ a)) ∧ Below w.heap.size w w' := by
  have H := Lib.hid (show S.inside ⟨⟨x1, y, z⟩, ⟨x2, y, z⟩⟩ a = ((decide (a.lo.y ≤ y) && decide (y ≤ a.hi.y)) && (decide (a.lo.z ≤ z) && decide (z ≤ a.hi.z))) from rfl)
  unfold boxV
  by_cases h1 : a.lo.y ≤ y <;> by_cases h2 : y ≤ a.hi.y <;> by_cases h3 : a.lo.z ≤ z <;> by_cases h4 : z ≤ a.hi.z
  all_goals (
    have HE := Lib.hid (H.out.trans (by simp only [h1, h2, h3, h4, decide_true, decide_false, Bool.and_true, Bool.and_false, Bool.true_and, Bool.false_and]; rfl))
    go_enter Tryz.func144, Tryz.ntmps144
    go_wp2
    go_ret
    exact ⟨ret_b HE.out.symm, bel⟩)
theorem jointOk_in {l : List Mn} {j : Jn} {i k : Nat} (hi : j.first = (i : Int)) (hk : j.second = (k : Int)) (h : S.jointIn l j = true) {a b : Mn} (ha : l[i]? = some a) (hb : l[k]? = some b) : S.jointOk l j = S.jointOn a b := by
  unfold S.jointOk
  rw [h, hi, hk]
  simp [ha, hb]
set_option maxRecDepth 20000 in
set_option maxHeartbeats 4000000 in
theorem rjoint_in (x : Dt) (B : Nat) (w : World) (hB : B ≤ w.heap.size) (hA : DtAt w B x) (h : S.laid (bars x.bs) x.rs = true) (i k : Nat) (a b : Mn) (ha : (S.mains (bars x.bs) x.rs)[i]? = some a) (hb : (S.mains (bars x.bs) x.rs)[k]? = some b) :
    Calls Tryz.prog 64 #[dtV x, .agg #[.int .i64 i, .int .i64 k]] w fun e w' => e = .returned (.bool (S.jointOn a b)) ∧ Below w.heap.size w w' := by
  have HA := Lib.hid hA
  have HC := Lib.hid (fun (W : World) (hw : B ≤ W.heap.size) (hh : DtAt W B x) => rcount25_any x B W hw hh h)
  have HM1 := Lib.hid (fun (W : World) (hw : B ≤ W.heap.size) (hh : DtAt W B x) => rmain_any x B W hw hh h i a ha)
  have HM2 := Lib.hid (fun (W : World) (hw : B ≤ W.heap.size) (hh : DtAt W B x) => rmain_any x B W hw hh h k b hb)
  have HE := Lib.hid (show S.jointOn a b = (a.has && b.has && decide (a.leg.lo.x < b.leg.lo.x) && decide (a.leg.hi.x < b.leg.hi.x) && decide (b.leg.lo.x ≤ a.leg.hi.x)) from rfl)
  have hil := (List.getElem?_eq_some_iff.1 ha).1
  have hkl := (List.getElem?_eq_some_iff.1 hb).1
  have hii : (i : Int) < ((S.mains (bars x.bs) x.rs).length : Int) := by omega
  have hki : (k : Int) < ((S.mains (bars x.bs) x.rs).length : Int) := by omega
  have hDB : Blk ((w.alloc (.cells #[.string x.m.name, .slice x.mA x.mn x.mc, .slice x.hA x.hn x.hc, .int .i64 x.m.cover, .int .i64 x.m.aggr, .int .i64 x.m.poker, .slice x.bA x.bn x.bc, .slice x.rA x.rn x.rc, .slice x.jA x.jn x.jc, .slice x.dA x.dn x.dc, .int .i64 x.rule.num, .int .i64 x.rule.den, .int .i64 x.rule.pnum, .int .i64 x.rule.pden, .int .i64 x.rule.bnum, .int .i64 x.rule.bden, .int .i64 x.rule.lnum, .int .i64 x.rule.lden, .int .i64 x.rule.least] 34)).alloc (.cells #[.int .i64 i, .int .i64 k] 124)) w.heap.size 34 #[.string x.m.name, .slice x.mA x.mn x.mc, .slice x.hA x.hn x.hc, .int .i64 x.m.cover, .int .i64 x.m.aggr, .int .i64 x.m.poker, .slice x.bA x.bn x.bc, .slice x.rA x.rn x.rc, .slice x.jA x.jn x.jc, .slice x.dA x.dn x.dc, .int .i64 x.rule.num, .int .i64 x.rule.den, .int .i64 x.rule.pnum, .int .i64 x.rule.pden, .int .i64 x.rule.bnum, .int .i64 x.rule.bden, .int .i64 x.rule.lnum, .int .i64 x.rule.lden, .int .i64 x.rule.least] := (Blk.new w 34 #[.string x.m.name, .slice x.mA x.mn x.mc, .slice x.hA x.hn x.hc, .int .i64 x.m.cover, .int .i64 x.m.aggr, .int .i64 x.m.poker, .slice x.bA x.bn x.bc, .slice x.rA x.rn x.rc, .slice x.jA x.jn x.jc, .slice x.dA x.dn x.dc, .int .i64 x.rule.num, .int .i64 x.rule.den, .int .i64 x.rule.pnum, .int .i64 x.rule.pden, .int .i64 x.rule.bnum, .int .i64 x.rule.bden, .int .i64 x.rule.lnum, .int .i64 x.rule.lden, .int .i64 x.rule.least]).alloc _
  clear hA ha hb hil hkl h
  generalize (S.mains (bars x.bs) x.rs).length = n at *
  have hRG := hDB.range
  have HDB := Lib.hid hDB
  clear hDB
  unfold dtV at HC HM1 HM2
  unfold dtV
  go_enter Tryz.func64, Tryz.ntmps64
  go_upto_region 2 with (first
    | (refine wpList_load_mid rfl 34 (.tmp 2) rfl _ _ rfl _ _ hRG Tryz.underlying34 rfl (by kernel_rfl) ?_)
    | (go_at_call 42; (with_reducible refine (HC.out _ (size_via hB bel) (HA.out.at_ hB bel)).mono ?_); rintro e w1 ⟨rfl, hbw1⟩; obtain ⟨hcw1, hfw1⟩ := bcell hbw1; have hzw1_0 : w.heap.size < w1.heap.size := lt_via hbw1 (by first | omega | (simp; done) | (simp; omega)); have hzw1_1 : w.heap.size + 1 < w1.heap.size := lt_via hbw1 (by first | omega | (simp; done) | (simp; omega))))
  have hRG1 := (HDB.out.via hbw1).range
  have hi0 : ¬ (i : Int) < 0 := by omega
  have hk0 : ¬ (k : Int) < 0 := by omega
  have hi1 : ¬ (n : Int) ≤ (i : Int) := by omega
  have hk1 : ¬ (n : Int) ≤ (k : Int) := by omega
  have hJ0 : w1.cell? ⟨w.heap.size + 1, 0, none⟩ = some (.int .i64 i) := by
    have := (Blk.via (by simpa using Blk.new (w.alloc (.cells #[.string x.m.name, .slice x.mA x.mn x.mc, .slice x.hA x.hn x.hc, .int .i64 x.m.cover, .int .i64 x.m.aggr, .int .i64 x.m.poker, .slice x.bA x.bn x.bc, .slice x.rA x.rn x.rc, .slice x.jA x.jn x.jc, .slice x.dA x.dn x.dc, .int .i64 x.rule.num, .int .i64 x.rule.den, .int .i64 x.rule.pnum, .int .i64 x.rule.pden, .int .i64 x.rule.bnum, .int .i64 x.rule.bden, .int .i64 x.rule.lnum, .int .i64 x.rule.lden, .int .i64 x.rule.least] 34)) 124 #[.int .i64 i, .int .i64 k]) hbw1).cell 0
    simpa using this
  have hJ1 : w1.cell? ⟨w.heap.size + 1, 1, none⟩ = some (.int .i64 k) := by
    have := (Blk.via (by simpa using Blk.new (w.alloc (.cells #[.string x.m.name, .slice x.mA x.mn x.mc, .slice x.hA x.hn x.hc, .int .i64 x.m.cover, .int .i64 x.m.aggr, .int .i64 x.m.poker, .slice x.bA x.bn x.bc, .slice x.rA x.rn x.rc, .slice x.jA x.jn x.jc, .slice x.dA x.dn x.dc, .int .i64 x.rule.num, .int .i64 x.rule.den, .int .i64 x.rule.pnum, .int .i64 x.rule.pden, .int .i64 x.rule.bnum, .int .i64 x.rule.bden, .int .i64 x.rule.lnum, .int .i64 x.rule.lden, .int .i64 x.rule.least] 34)) 124 #[.int .i64 i, .int .i64 k]) hbw1).cell 1
    simpa using this
  have hbv1 : Below w.heap.size w w1 := bel
  have HDB1 := Lib.hid (HDB.out.via hbw1)
  clear hcw1 hfw1
  clear hRG HDB hbw1 HC
  go_upto_region 5 with (first
    | (refine wpList_load_mid rfl 34 (.tmp 2) rfl _ _ rfl _ _ hRG1 Tryz.underlying34 rfl (by kernel_rfl) ?_)
    | (go_at_call 43; (with_reducible refine (HM1.out _ (size_via hB bel) (HA.out.at_ hB bel)).mono ?_); rintro e w2 ⟨rfl, hbw2⟩; obtain ⟨hcw2, hfw2⟩ := bcell hbw2))
  have hbv2 : Below w.heap.size w w2 := bel
  have hRG2 : (w2.alloc (.cells #[.int .i64 a.leg.lo.x, .int .i64 a.leg.lo.y, .int .i64 a.leg.lo.z, .int .i64 a.leg.hi.x, .int .i64 a.leg.hi.y, .int .i64 a.leg.hi.z] 89)).rangeAt w.heap.size 0 [.string x.m.name, .slice x.mA x.mn x.mc, .slice x.hA x.hn x.hc, .int .i64 x.m.cover, .int .i64 x.m.aggr, .int .i64 x.m.poker, .slice x.bA x.bn x.bc, .slice x.rA x.rn x.rc, .slice x.jA x.jn x.jc, .slice x.dA x.dn x.dc, .int .i64 x.rule.num, .int .i64 x.rule.den, .int .i64 x.rule.pnum, .int .i64 x.rule.pden, .int .i64 x.rule.bnum, .int .i64 x.rule.bden, .int .i64 x.rule.lnum, .int .i64 x.rule.lden, .int .i64 x.rule.least] := ((HDB1.out.via hbw2).alloc _).range
  have hz2 : w.heap.size + 1 < w2.heap.size := lt_via hbw2 hzw1_1
  have hb1 := (Blk.new w2 89 #[.int .i64 a.leg.lo.x, .int .i64 a.leg.lo.y, .int .i64 a.leg.lo.z, .int .i64 a.leg.hi.x, .int .i64 a.leg.hi.y, .int .i64 a.leg.hi.z])
  clear HM1 HDB1 hRG1
  cases hb : b.has
  all_goals (
    rw [hb] at HM2 HE
    clear hb
    go_upto_region 6 with (first
      | (refine wpList_load_mid rfl 34 (.tmp 2) rfl _ _ rfl _ _ hRG2 Tryz.underlying34 rfl (by kernel_rfl) ?_)
      | (go_at_call 43; (with_reducible refine (HM2.out _ (size_via hB bel) (HA.out.at_ hB bel)).mono ?_); rintro e w3 ⟨rfl, hbw3⟩; obtain ⟨hcw3, hfw3⟩ := bcell hbw3))
    have hbv3 : Below w.heap.size w w3 := ba_via hbw3 (ba_alloc hbv2 _)
    have hx := hb1.via hbw3
    have hx0 := hx.cell 0
    have hx3 := hx.cell 3
    have hlx := hx.lt
    simp only [List.getElem?_toArray, List.getElem?_cons_zero, List.getElem?_cons_succ] at hx0 hx3
    clear hcw3 hfw3 hcw2 hfw2
    clear hx
    cases ha : a.has
    all_goals (
      rw [ha] at HE
      go_wp2
      all_goals (go_ret; exact ⟨ret_b (by rw [HE.out, Bool.eq_iff_iff]; all_goals (first | (simp; done) | (simp; omega))), ba_alloc hbv3 _⟩)))
set_option maxRecDepth 20000 in
set_option maxHeartbeats 4000000 in
theorem rjoint_out (x : Dt) (jn : Jn) (B : Nat) (w : World) (hB : B ≤ w.heap.size) (hA : DtAt w B x) (hl : S.laid (bars x.bs) x.rs = true) (h : S.jointIn (S.mains (bars x.bs) x.rs) jn = false) :
    Calls Tryz.prog 64 #[dtV x, jnV jn] w fun e w' => e = .returned (.bool (S.jointOk (S.mains (bars x.bs) x.rs) jn)) ∧ Below w.heap.size w w' := by
  have H := Lib.hid (show S.jointOk (S.mains (bars x.bs) x.rs) jn = false by unfold S.jointOk; rw [h]; rfl)
  have HA := Lib.hid hA
  have HC := Lib.hid (fun (W : World) (hw : B ≤ W.heap.size) (hh : DtAt W B x) => rcount25_any x B W hw hh hl)
  rw [H.out]
  have hcs : jn.first < 0 ∨ (¬ jn.first < 0 ∧ ((S.mains (bars x.bs) x.rs).length : Int) ≤ jn.first) ∨ (¬ jn.first < 0 ∧ ¬ ((S.mains (bars x.bs) x.rs).length : Int) ≤ jn.first ∧ jn.second < 0) ∨ (¬ jn.first < 0 ∧ ¬ ((S.mains (bars x.bs) x.rs).length : Int) ≤ jn.first ∧ ¬ jn.second < 0 ∧ ((S.mains (bars x.bs) x.rs).length : Int) ≤ jn.second) := by
    simp only [S.jointIn, Bool.and_eq_false_iff, decide_eq_false_iff_not] at h
    omega
  have hDB : Blk ((w.alloc (.cells #[.string x.m.name, .slice x.mA x.mn x.mc, .slice x.hA x.hn x.hc, .int .i64 x.m.cover, .int .i64 x.m.aggr, .int .i64 x.m.poker, .slice x.bA x.bn x.bc, .slice x.rA x.rn x.rc, .slice x.jA x.jn x.jc, .slice x.dA x.dn x.dc, .int .i64 x.rule.num, .int .i64 x.rule.den, .int .i64 x.rule.pnum, .int .i64 x.rule.pden, .int .i64 x.rule.bnum, .int .i64 x.rule.bden, .int .i64 x.rule.lnum, .int .i64 x.rule.lden, .int .i64 x.rule.least] 34)).alloc (.cells #[.int .i64 jn.first, .int .i64 jn.second] 124)) w.heap.size 34 #[.string x.m.name, .slice x.mA x.mn x.mc, .slice x.hA x.hn x.hc, .int .i64 x.m.cover, .int .i64 x.m.aggr, .int .i64 x.m.poker, .slice x.bA x.bn x.bc, .slice x.rA x.rn x.rc, .slice x.jA x.jn x.jc, .slice x.dA x.dn x.dc, .int .i64 x.rule.num, .int .i64 x.rule.den, .int .i64 x.rule.pnum, .int .i64 x.rule.pden, .int .i64 x.rule.bnum, .int .i64 x.rule.bden, .int .i64 x.rule.lnum, .int .i64 x.rule.lden, .int .i64 x.rule.least] := (Blk.new w 34 #[.string x.m.name, .slice x.mA x.mn x.mc, .slice x.hA x.hn x.hc, .int .i64 x.m.cover, .int .i64 x.m.aggr, .int .i64 x.m.poker, .slice x.bA x.bn x.bc, .slice x.rA x.rn x.rc, .slice x.jA x.jn x.jc, .slice x.dA x.dn x.dc, .int .i64 x.rule.num, .int .i64 x.rule.den, .int .i64 x.rule.pnum, .int .i64 x.rule.pden, .int .i64 x.rule.bnum, .int .i64 x.rule.bden, .int .i64 x.rule.lnum, .int .i64 x.rule.lden, .int .i64 x.rule.least]).alloc _
  have hRG := hDB.range
  clear hA h H hDB hl
  generalize (S.mains (bars x.bs) x.rs).length = n at *
  unfold dtV at HC
  unfold dtV jnV
  rcases hcs with h | ⟨h, h'⟩ | ⟨h, h', h2⟩ | ⟨h, h', h2, h3⟩
  all_goals (
    go_enter Tryz.func64, Tryz.ntmps64
    go_wp2_with (first
      | (refine wpList_load_mid rfl 34 (.tmp 2) rfl _ _ rfl _ _ hRG Tryz.underlying34 rfl (by kernel_rfl) ?_)
      | (go_at_call 42; (with_reducible refine (HC.out _ (size_via hB bel) (HA.out.at_ hB bel)).mono ?_); rintro e w1 ⟨rfl, hbw1⟩; obtain ⟨hcw1, hfw1⟩ := bcell hbw1; have hzw1_0 : w.heap.size < w1.heap.size := lt_via hbw1 (by first | omega | (simp; done) | (simp; omega)); have hzw1_1 : w.heap.size + 1 < w1.heap.size := lt_via hbw1 (by first | omega | (simp; done) | (simp; omega))))
    go_ret
    exact ⟨rfl, bel⟩)
theorem rjoint_any (x : Dt) (jn : Jn) (B : Nat) (w : World) (hB : B ≤ w.heap.size) (hA : DtAt w B x) (hl : S.laid (bars x.bs) x.rs = true) :
    Calls Tryz.prog 64 #[dtV x, jnV jn] w fun e w' => e = .returned (.bool (S.jointOk (S.mains (bars x.bs) x.rs) jn)) ∧ Below w.heap.size w w' := by
  by_cases h : S.jointIn (S.mains (bars x.bs) x.rs) jn = true
  · have h' := h
    simp only [S.jointIn, Bool.and_eq_true, decide_eq_true_eq] at h'
    obtain ⟨i, hi⟩ : ∃ i : Nat, jn.first = (i : Int) := ⟨jn.first.toNat, by omega⟩
    obtain ⟨k, hk⟩ : ∃ i : Nat, jn.second = (i : Int) := ⟨jn.second.toNat, by omega⟩
    have hix : i < (S.mains (bars x.bs) x.rs).length := by omega
    have hkx : k < (S.mains (bars x.bs) x.rs).length := by omega
    rw [jointOk_in hi hk h (List.getElem?_eq_getElem hix) (List.getElem?_eq_getElem hkx)]
    unfold jnV
    rw [hi, hk]
    exact rjoint_in x B w hB hA hl i k _ _ (List.getElem?_eq_getElem hix) (List.getElem?_eq_getElem hkx)
  · exact rjoint_out x jn B w hB hA hl (by simpa using h)
def S.btw (n lo hi : Int) : Bool := decide (lo ≤ n) && decide (n ≤ hi)
theorem rbetween_any (n lo hi : Int) (w : World) : Calls Tryz.prog 103 #[.int .i64 n, .int .i64 lo, .int .i64 hi] w fun e w' => e = .returned (.bool (S.btw n lo hi)) ∧ w = w' := by
  have H := Lib.hid (show S.btw n lo hi = (decide (lo ≤ n) && decide (n ≤ hi)) from rfl)
  go_enter Tryz.func103, Tryz.ntmps103
  go_wp2
  all_goals (go_ret; exact ⟨ret_b (by rw [H.out, Bool.eq_iff_iff]; all_goals (first | (simp; done) | (simp; omega))), rfl⟩)
theorem rplace10_any (n : Int) (w : World) : Calls Tryz.prog 88 #[.int .i64 n] w fun e w' => e = .returned (.bool (S.place n)) ∧ w = w' := by
  have H := Lib.hid (show S.place n = S.btw n (-1048576) 1048576 from rfl)
  have HB := Lib.hid (rbetween_any n (-1048576) 1048576)
  generalize S.btw n (-1048576) 1048576 = t at *
  go_enter Tryz.func88, Tryz.ntmps88
  go_wp2_with (go_at_call 103; (with_reducible refine (HB.out _).mono ?_); rintro e w' ⟨rfl, rfl⟩)
  go_ret
  exact ⟨ret_b H.out.symm, rfl⟩
set_option maxHeartbeats 1000000 in
theorem rsteps_any (l : List Stp) (A : Option Addr) (n c : Nat) (B : Nat) (w : World) (hB : B ≤ w.heap.size) (hA : StepsAt w B A n l) :
    Calls Tryz.prog 50 #[.slice A n c] w fun e w' => e = .returned (.bool (S.steps l)) ∧ Below w.heap.size w w' := by
  have HA := Lib.hid hA
  have HPL := Lib.hid (fun n w => rplace10_any n w)
  have hmx := hA.max
  have hL := hA.len
  clear hA
  by_cases h200 : 200 < n
  · have HS := Lib.hid (show S.steps l = false from by unfold S.steps; rw [hL]; simp; omega)
    clear hL
    go_enter Tryz.func50, Tryz.ntmps50
    go_wp2
    go_ret
    exact ⟨ret_b HS.out.symm, bel⟩
  clear hL
  go_enter Tryz.func50, Tryz.ntmps50
  go_wp2
  go_loopw [3] (fun i wr => ∃ k : Nat, k ≤ n ∧ i = .int .i64 k ∧ (∀ j, j < k → S.stepAt l j = true) ∧ Below w.heap.size w wr) (fun i _ => n - (intOf i).toNat)
  case atStart => exact ⟨0, Nat.zero_le _, rfl, fun j hj => absurd hj (by omega), Below.refl _ _⟩
  case round =>
    obtain ⟨k, hk, rfl, hno, hbr⟩ := hrel
    have HNO := Lib.hid hno
    clear hno
    by_cases hlt : k < n
    · have hkx : k < l.length := by have := HA.out.len; omega
      have hs' := HA.out.cells.below (hbr.mono hB)
      obtain ⟨b, o, rfl, hbB, _⟩ := hs'.at_ (by rw [flat_len stC 2 stC_len]; omega)
      have hbw : b < wr.heap.size := by have := hbr.size; omega
      have c0 := hs'.row0 stC_len hkx rfl
      have c1 := hs'.rowj stC_len hkx 1 rfl
      have HNS := Lib.hid (fun h => show S.steps l = false from rng_no (p := S.stepAt l) (k := k) hkx h)
      have HGO := Lib.hid (fun (h : S.stepAt l k = true) => show ∀ j, j < k + 1 → S.stepAt l j = true from fun j hj => by
        by_cases hjk : j = k
        · subst hjk; exact h
        · exact HNO.out j (by omega))
      have hge : l[k]? = some l[k] := List.getElem?_eq_getElem hkx
      cases k with
      | zero =>
        have HAT := Lib.hid (show S.stepAt l 0 = (S.place l[0].fro && S.btw l[0].val 0 1099511627776) by unfold S.stepAt S.btw; rw [hge]; simp [Bool.and_assoc])
        have HP0 := Lib.hid (HPL.out l[0].fro)
        have HB0 := Lib.hid (fun w => rbetween_any l[0].val 0 1099511627776 w)
        rw [Nat.zero_mul, Nat.add_zero] at c0 c1
        generalize S.place l[0].fro = t0 at *
        generalize S.btw l[0].val 0 1099511627776 = t1 at *
        generalize l[0] = s at *
        clear hs' hge
        have hcs : t0 = false ∨ (t0 = true ∧ t1 = false) ∨ (t0 = true ∧ t1 = true) := by
          cases t0 <;> cases t1 <;> simp
        rcases hcs with rfl | ⟨rfl, rfl⟩ | ⟨rfl, rfl⟩
        rotate_right
        · have HG := Lib.hid (HGO.out (by rw [HAT.out]; rfl))
          go_upto_region 6 with fail
          refine wp_region_grow (by kernel_rfl) (by kernel_rfl) ?_
          repeat (go_big_quiet_step ((first | (go_at_call 88; exact grow_of_eq (HP0.out _)) | (go_at_call 103; exact grow_of_eq (HB0.out _)))))
          all_goals (refine wpQuiet_nil ?_; intro wg hbwg; obtain ⟨hcwg, hfwg⟩ := bcell hbwg)
          go_wp2
          go_roundw
          case rel => exact ⟨0 + 1, by omega, by go_num, HG.out, bel⟩
          case measure => simp [intOf]; omega
        all_goals (
          have HG := Lib.hid (HNS.out (by rw [HAT.out]; rfl))
          go_upto_region 6 with fail
          refine wp_region_grow (by kernel_rfl) (by kernel_rfl) ?_
          repeat (go_big_quiet_step ((first | (go_at_call 88; exact grow_of_eq (HP0.out _)) | (go_at_call 103; exact grow_of_eq (HB0.out _)))))
          all_goals (refine wpQuiet_nil ?_; intro wg hbwg; obtain ⟨hcwg, hfwg⟩ := bcell hbwg)
          go_wp2
          go_ret
          exact ⟨ret_b HG.out.symm, bel⟩)
      | succ j =>
        have hjx : j < l.length := by omega
        have d0 := hs'.row0 stC_len hjx rfl
        have HAT := Lib.hid (show S.stepAt l (j + 1) = (S.place l[j + 1].fro && S.btw l[j + 1].val 0 1099511627776 && decide (l[j].fro < l[j + 1].fro)) by unfold S.stepAt S.btw; rw [hge]; simp only []; rw [List.getElem?_eq_getElem hjx]; simp [Bool.and_assoc])
        have HP0 := Lib.hid (HPL.out l[j + 1].fro)
        have HB0 := Lib.hid (fun w => rbetween_any l[j + 1].val 0 1099511627776 w)
        generalize S.place l[j + 1].fro = t0 at *
        generalize S.btw l[j + 1].val 0 1099511627776 = t1 at *
        generalize l[j + 1] = s at *
        generalize l[j] = p at *
        clear hs' hge
        have hk0 : (0 : Int) < ((j + 1 : Nat) : Int) := by omega
        have e1 : IntKind.i64.wrap (((j + 1 : Nat) : Int) - 1) = (j : Nat) := by rw [IntWalk.i64_in _ (by omega)]; omega
        have hjn : (j : Int) < n := by omega
        have hcs : t0 = false ∨ (t0 = true ∧ t1 = false) ∨ (t0 = true ∧ t1 = true ∧ s.fro ≤ p.fro) ∨ (t0 = true ∧ t1 = true ∧ ¬ s.fro ≤ p.fro) := by
          cases t0 <;> cases t1 <;> simp <;> omega
        rcases hcs with rfl | ⟨rfl, rfl⟩ | ⟨rfl, rfl, h3⟩ | ⟨rfl, rfl, h3⟩
        rotate_right
        · have HG := Lib.hid (HGO.out (by rw [HAT.out]; simp; omega))
          go_upto_region 6 with fail
          refine wp_region_grow (by kernel_rfl) (by kernel_rfl) ?_
          repeat (go_big_quiet_step ((first | (go_at_call 88; exact grow_of_eq (HP0.out _)) | (go_at_call 103; exact grow_of_eq (HB0.out _)))))
          all_goals (refine wpQuiet_nil ?_; intro wg hbwg; obtain ⟨hcwg, hfwg⟩ := bcell hbwg)
          go_wp2
          go_roundw
          case rel => exact ⟨j + 1 + 1, by omega, by go_num, HG.out, bel⟩
          case measure => simp [intOf]; omega
        all_goals (
          have HG := Lib.hid (HNS.out (by rw [HAT.out]; simp; try omega))
          go_upto_region 6 with fail
          refine wp_region_grow (by kernel_rfl) (by kernel_rfl) ?_
          repeat (go_big_quiet_step ((first | (go_at_call 88; exact grow_of_eq (HP0.out _)) | (go_at_call 103; exact grow_of_eq (HB0.out _)))))
          all_goals (refine wpQuiet_nil ?_; intro wg hbwg; obtain ⟨hcwg, hfwg⟩ := bcell hbwg)
          go_wp2
          go_ret
          exact ⟨ret_b HG.out.symm, bel⟩)
    · have HG := Lib.hid (show S.steps l = true from rng_yes (p := S.stepAt l) (by have := HA.out.len; simp; omega) (fun j hj => HNO.out j (by have := HA.out.len; omega)))
      go_wp2
      go_ret
      exact ⟨ret_b HG.out.symm, bel⟩
end Go.Proofs.YtffkmgjmlahfpaaGreat
