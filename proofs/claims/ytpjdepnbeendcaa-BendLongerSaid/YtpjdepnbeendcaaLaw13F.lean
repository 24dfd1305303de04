/- The walk of BendLonger. -/
import Derived.Test.YtpjdepnbeendcaaSpecLonger
import Derived.Test.YtpjdepnbeendcaaClone
import Derived.Test.YtpjdepnbeendcaaLaw13B
set_option linter.unusedVariables false
set_option linter.unusedSimpArgs false
namespace Go.Proofs.Ytpjdepnbeendcaa
open Go.RowKit
set_option maxRecDepth 100000 in
theorem longer_no (b : Bar) (A : Option Addr) (n c : Nat) (k m : Int) (B : Nat) (w : World) (hB : B ≤ w.heap.size) (hA : BarAt w B A n b) (hr : S.right b = false) :
    Calls Try.prog 14 #[barV b A n c, .int .u8 k, .int .u16 m] w fun e w' => e = .returned (.bool true) ∧ Below w.heap.size w w' := by
  have HA := Lib.hid hA
  clear hA
  unfold barV
  go_enter Try.func14, Try.ntmps14
  go_wp2_with (first
    | (go_at_call 33; (with_reducible refine (awake13_any _).mono ?_); rintro e w1 ⟨rfl, hbw1⟩; obtain ⟨hcw1, hfw1⟩ := bcell hbw1; have hzw1_0 : w.heap.size < w1.heap.size := lt_via hbw1 (by first | omega | (simp; done) | (simp; omega)))
    | (go_at_call 39; (with_reducible refine (right_any b A n c B _ (le_via hB (by repeat (first | exact Below.refl _ _ | assumption | refine ba_alloc ?_ _ | refine ba_drew ?_ | refine ba_drewN ?_ _ | refine ba_via (by assumption) ?_ | (refine ba_set ?_ ?_ _; rotate_left; (first | omega | (simp; omega) | simp))))) (BarAt.at_ HA.out hB (by repeat (first | exact Below.refl _ _ | assumption | refine ba_alloc ?_ _ | refine ba_drew ?_ | refine ba_drewN ?_ _ | refine ba_via (by assumption) ?_ | (refine ba_set ?_ ?_ _; rotate_left; (first | omega | (simp; omega) | simp)))))).mono ?_); rintro e w2 ⟨rfl, hbw2⟩; obtain ⟨hcw2, hfw2⟩ := bcell hbw2; have hzw2_0 : w.heap.size < w2.heap.size := lt_via hbw2 (by first | omega | (simp; done) | (simp; omega))))
  go_ret
  exact ⟨rfl, (by repeat (first | exact Below.refl _ _ | assumption | refine ba_alloc ?_ _ | refine ba_drew ?_ | refine ba_drewN ?_ _ | refine ba_via (by assumption) ?_ | (refine ba_set ?_ ?_ _; rotate_left; (first | omega | (simp; omega) | simp))))⟩
theorem bar_len {b : Bar} (h : S.bar b = true) : 1 ≤ b.dims.length ∧ b.dims.length ≤ 5 := by
  have h1 := bar_head h
  have h2 := dimsOf_bd b.code
  have h3 := legs_dim b.code (k := 0) (by have := (legs_sum h).2; omega)
  omega
set_option maxRecDepth 100000 in
set_option maxHeartbeats 8000000 in
theorem longer_yes (b : Bar) (A : Option Addr) (n c : Nat) (K : Nat) (m : Int) (B : Nat) (w : World) (hB : B ≤ w.heap.size) (hA : BarAt w B A n b) (hr : S.right b = true) (hK : K ≤ 255) (hm : 0 ≤ m ∧ m ≤ 65535) (tf : Bool) (htf : S.bar (S.longer b (K % n) m) = tf) :
    Calls Try.prog 14 #[barV b A n c, .int .u8 K, .int .u16 m] w fun e w' => e = .returned (.bool true) ∧ Below w.heap.size w w' := by
  have h := right_bar hr
  have hn1 := hA.len
  have hm1 := hA.max
  have hk1 := hA.mark
  have hnb := bar_len h
  rw [hn1] at hnb
  have HA := Lib.hid hA
  obtain ⟨bA, oA, rfl, hbA, _⟩ := hA.cells.at_ (by simp; omega)
  clear hA
  have hki : K % n < n := Nat.mod_lt _ (by omega)
  have e1 : IntKind.i64.wrap (K : Int) = (K : Int) := IntWalk.i64_in _ (by omega)
  have e2 : (K : Int).tmod (n : Int) = ((K % n : Nat) : Int) := by rw [Int.tmod_eq_emod_of_nonneg (by omega)]; exact (Int.natCast_emod K n).symm
  generalize hkk : K % n = ki at *
  have HKK := Lib.hid hkk
  clear hkk
  have e3 : IntKind.i64.wrap (ki : Int) = (ki : Int) := IntWalk.i64_in _ (by omega)
  have n0 : ((n : Int) == 0) = false := by simp; omega
  have n1 : (n : Int) ≠ 0 := by omega
  have kn : (ki : Int) < (n : Int) := by omega
  have hkd : ki < b.dims.length := by omega
  have hdk := dim_bd (by simp only [S.bar, Bool.and_eq_true] at h; exact h.2) hkd
  have HGD := Lib.hid (show b.dims.getD ki 0 = b.dims[ki] by simp [List.getD_eq_getElem?_getD, List.getElem?_eq_getElem hkd])
  have HCK := Lib.hid (i64s_get hkd)
  have HSET := Lib.hid (fun v : Int => show (i64s b.dims).set ki (.int .i64 v) = i64s (b.dims.set ki v) by simp [i64s, List.map_set])
  generalize hdd : b.dims[ki] = dk at *
  have HDD := Lib.hid hdd
  clear hdd
  have e4 : IntKind.i64.wrap m = m := IntWalk.i64_in _ (by omega)
  have e5 : IntKind.i64.wrap (dk + m) = dk + m := IntWalk.i64_in _ (by omega)
  unfold barV
  go_enter Try.func14, Try.ntmps14
  go_wp2_with (first
    | (go_at_call 33; (with_reducible refine (awake13_any _).mono ?_); rintro e w1 ⟨rfl, hbw1⟩; obtain ⟨hcw1, hfw1⟩ := bcell hbw1; have hzw1_0 : w.heap.size < w1.heap.size := lt_via hbw1 (by first | omega | (simp; done) | (simp; omega)))
    | (go_at_call 39; (with_reducible refine (right_any b (some ⟨bA, oA, none⟩) n c B _ (le_via hB (by repeat (first | exact Below.refl _ _ | assumption | refine ba_alloc ?_ _ | refine ba_drew ?_ | refine ba_drewN ?_ _ | refine ba_via (by assumption) ?_ | (refine ba_set ?_ ?_ _; rotate_left; (first | omega | (simp; omega) | simp))))) (BarAt.at_ HA.out hB (by repeat (first | exact Below.refl _ _ | assumption | refine ba_alloc ?_ _ | refine ba_drew ?_ | refine ba_drewN ?_ _ | refine ba_via (by assumption) ?_ | (refine ba_set ?_ ?_ _; rotate_left; (first | omega | (simp; omega) | simp)))))).mono ?_); rintro e w2 ⟨rfl, hbw2⟩; obtain ⟨hcw2, hfw2⟩ := bcell hbw2; have hzw2_0 : w.heap.size < w2.heap.size := lt_via hbw2 (by first | omega | (simp; done) | (simp; omega)))
    | (go_at_call 32; (with_reducible refine (clone_any bA oA n c b.dims B _ (le_via hB (by repeat (first | exact Below.refl _ _ | assumption | refine ba_alloc ?_ _ | refine ba_drew ?_ | refine ba_drewN ?_ _ | refine ba_via (by assumption) ?_ | (refine ba_set ?_ ?_ _; rotate_left; (first | omega | (simp; omega) | simp))))) hn1 (by omega) (by omega) (BarAt.at_ HA.out hB (by repeat (first | exact Below.refl _ _ | assumption | refine ba_alloc ?_ _ | refine ba_drew ?_ | refine ba_drewN ?_ _ | refine ba_via (by assumption) ?_ | (refine ba_set ?_ ?_ _; rotate_left; (first | omega | (simp; omega) | simp))))).cells).mono ?_); rintro e w3 ⟨g, cap, cur, rfl, hg, hblk, hcap1, hcap2, hcsz, hctk, hbw3⟩
       have hD3 : Blk w3 w2.heap.size 24 #[.string b.mark, .int .i64 b.size, .int .i64 b.count, .int .i64 b.code, .slice (some ⟨bA, oA, none⟩) n c] := (Blk.new w2 _ _).via hbw3
       have hE3 : Blk w3 w.heap.size 24 #[.string b.mark, .int .i64 b.size, .int .i64 b.count, .int .i64 b.code, .slice (some ⟨bA, oA, none⟩) n c] := ((((Blk.new w _ _).via hbw1).via hbw2).alloc _).via hbw3
       have hgw : w2.heap.size < g := by simp at hg; omega
       have hgn : g ≠ w2.heap.size := by omega
       have hgn' : w2.heap.size ≠ g := by omega
       have hgl := hblk.lt
       have hdl := hD3.lt
       have hel := hE3.lt
       have hwn : w.heap.size ≠ w2.heap.size := by omega
       have hce : w3.cell? ⟨g, ki, none⟩ = some (.int .i64 dk) := by rw [hblk.cell, ← Array.getElem?_toList, ← List.getElem?_take_of_lt hki, hctk]; exact HCK.out
       have hfe := hblk.frozen ki
       have d0 := hD3.cell 0
       have d1 := hD3.cell 1
       have d2 := hD3.cell 2
       have d3 := hD3.cell 3
       have d4 := hD3.cell 4
       have f4 := hD3.frozen 4
       simp only [List.getElem?_toArray, List.getElem?_cons_zero, List.getElem?_cons_succ] at d0 d1 d2 d3 d4))
  have hw3 : Below w.heap.size w w3 := (by repeat (first | exact Below.refl _ _ | assumption | refine ba_alloc ?_ _ | refine ba_drew ?_ | refine ba_drewN ?_ _ | refine ba_via (by assumption) ?_ | (refine ba_set ?_ ?_ _; rotate_left; (first | omega | (simp; omega) | simp))))
  have hw2 : w.heap.size ≤ w2.heap.size := ((by repeat (first | exact Below.refl _ _ | assumption | refine ba_alloc ?_ _ | refine ba_drew ?_ | refine ba_drewN ?_ _ | refine ba_via (by assumption) ?_ | (refine ba_set ?_ ?_ _; rotate_left; (first | omega | (simp; omega) | simp)))) : Below w.heap.size w w2).size
  have hWB : Below w.heap.size w ((w3.setCell ⟨w2.heap.size, 4, none⟩ (.slice (some ⟨g, 0, none⟩) n cap)).setCell ⟨g, ki, none⟩ (.int .i64 (dk + m))) := (hw3.setCell (p := ⟨w2.heap.size, 4, none⟩) hw2 _).setCell (p := ⟨g, ki, none⟩) (Nat.le_trans hw2 (Nat.le_of_lt hgw)) _
  have hDW : Blk ((w3.setCell ⟨w2.heap.size, 4, none⟩ (.slice (some ⟨g, 0, none⟩) n cap)).setCell ⟨g, ki, none⟩ (.int .i64 (dk + m))) w2.heap.size 24 #[.string b.mark, .int .i64 b.size, .int .i64 b.count, .int .i64 b.code, .slice (some ⟨g, 0, none⟩) n cap] := by
    have h6 := (hD3.set 4 (.slice (some ⟨g, 0, none⟩) n cap)).far (p := ⟨g, ki, none⟩) hgn' (.int .i64 (dk + m))
    simp only [List.setIfInBounds_toArray, List.set_cons_zero, List.set_cons_succ] at h6
    exact h6
  have hEW : Blk ((w3.setCell ⟨w2.heap.size, 4, none⟩ (.slice (some ⟨g, 0, none⟩) n cap)).setCell ⟨g, ki, none⟩ (.int .i64 (dk + m))) w.heap.size 24 #[.string b.mark, .int .i64 b.size, .int .i64 b.count, .int .i64 b.code, .slice (some ⟨bA, oA, none⟩) n c] := (hE3.far (p := ⟨w2.heap.size, 4, none⟩) hwn _).far (p := ⟨g, ki, none⟩) (by simp only []; omega) _
  have hGW : Blk ((w3.setCell ⟨w2.heap.size, 4, none⟩ (.slice (some ⟨g, 0, none⟩) n cap)).setCell ⟨g, ki, none⟩ (.int .i64 (dk + m))) g 3 (cur.setIfInBounds ki (.int .i64 (dk + m))) := (hblk.far (p := ⟨w2.heap.size, 4, none⟩) hgn _).set ki _
  have hCL : Cells ((w3.setCell ⟨w2.heap.size, 4, none⟩ (.slice (some ⟨g, 0, none⟩) n cap)).setCell ⟨g, ki, none⟩ (.int .i64 (dk + m))) ((w3.setCell ⟨w2.heap.size, 4, none⟩ (.slice (some ⟨g, 0, none⟩) n cap)).setCell ⟨g, ki, none⟩ (.int .i64 (dk + m))).heap.size (some ⟨g, 0, none⟩) (i64s (b.dims.set ki (dk + m))) := .inr ⟨g, 0, rfl, hGW.lt, fun j v hv => by
    have hj : j < n := by
      have := (List.getElem?_eq_some_iff.1 hv).1
      simp at this
      omega
    rw [Nat.zero_add, hGW.cell, ← Array.getElem?_toList, ← List.getElem?_take_of_lt hj, Array.toList_setIfInBounds, List.take_set, hctk, HSET.out]
    exact hv⟩
  have HC := Lib.hid (⟨by simp [hn1], hm1, hk1, hCL⟩ : BarAt ((w3.setCell ⟨w2.heap.size, 4, none⟩ (.slice (some ⟨g, 0, none⟩) n cap)).setCell ⟨g, ki, none⟩ (.int .i64 (dk + m))) ((w3.setCell ⟨w2.heap.size, 4, none⟩ (.slice (some ⟨g, 0, none⟩) n cap)).setCell ⟨g, ki, none⟩ (.int .i64 (dk + m))).heap.size (some ⟨g, 0, none⟩) n ⟨b.mark, b.size, b.count, b.code, b.dims.set ki (dk + m)⟩)
  have hzg : w2.heap.size < ((w3.setCell ⟨w2.heap.size, 4, none⟩ (.slice (some ⟨g, 0, none⟩) n cap)).setCell ⟨g, ki, none⟩ (.int .i64 (dk + m))).heap.size := hDW.lt
  have hzw : w.heap.size < ((w3.setCell ⟨w2.heap.size, 4, none⟩ (.slice (some ⟨g, 0, none⟩) n cap)).setCell ⟨g, ki, none⟩ (.int .i64 (dk + m))).heap.size := hEW.lt
  have hCB : S.longer b ki m = ⟨b.mark, b.size, b.count, b.code, b.dims.set ki (dk + m)⟩ := by unfold S.longer; rw [HGD.out]
  have hfm := finds_mono b ki m hm.1
  have hls := legSum_longer b h ki hkd m hm.1
  have hdl2 := dev_longer b ki m
  rw [hCB] at htf hfm hls hdl2
  clear d0 d1 d2 d3 d4 f4 hD3 hE3 hblk hce hfe hCL hGW hctk hg hbw3 hCB
  have d0 := hDW.cell 0
  have d1 := hDW.cell 1
  have d2 := hDW.cell 2
  have d3 := hDW.cell 3
  have d4 := hDW.cell 4
  have x0 := hEW.cell 0
  have x1 := hEW.cell 1
  have x2 := hEW.cell 2
  have x3 := hEW.cell 3
  have x4 := hEW.cell 4
  simp only [List.getElem?_toArray, List.getElem?_cons_zero, List.getElem?_cons_succ] at d0 d1 d2 d3 d4 x0 x1 x2 x3 x4
  clear hDW hEW hcw1 hfw1 hcw2 hfw2
  generalize ((w3.setCell ⟨w2.heap.size, 4, none⟩ (.slice (some ⟨g, 0, none⟩) n cap)).setCell ⟨g, ki, none⟩ (.int .i64 (dk + m))) = W0 at *
  cases tf
  · go_wp2_with (go_at_call 21; (with_reducible refine (valid_any ⟨b.mark, b.size, b.count, b.code, b.dims.set ki (dk + m)⟩ (some ⟨g, 0, none⟩) n cap W0.heap.size _ (Nat.le_refl _) HC.out).mono ?_); rintro e w4 ⟨rfl, hbw4⟩; obtain ⟨hcw4, hfw4⟩ := bcell hbw4; have hzw4_0 : w.heap.size < w4.heap.size := lt_via hbw4 (by first | omega | (simp; done) | (simp; omega)); have hyw4_0 : w2.heap.size < w4.heap.size := lt_via hbw4 (by first | omega | (simp; done) | (simp; omega)))
    go_ret
    exact ⟨rfl, (by repeat (first | exact Below.refl _ _ | assumption | refine ba_alloc ?_ _ | refine ba_drew ?_ | refine ba_drewN ?_ _ | refine ba_via (by assumption) ?_ | (refine ba_set ?_ ?_ _; rotate_left; (first | omega | (simp; omega) | simp))))⟩
  · have hdb := dev_bd h
    have hdc := dev_bd htf
    have hl6 := legs_len b.code
    have HF1 := Lib.hid (show (S.finds b).length ≤ 6 by
      unfold S.finds
      split
      · simp
      · exact Nat.le_trans (kindsTo_le _ _ _ _) (legs_len _))
    have HP1 := Lib.hid (lens_pos h)
    have HP2 := Lib.hid (lens_pos htf)
    have HL1 := Lib.hid (show (S.legLens b).length = (S.legsOf b.code).length by simp [S.legLens])
    have HL2 := Lib.hid (show (S.legLens ⟨b.mark, b.size, b.count, b.code, b.dims.set ki (dk + m)⟩).length = (S.legsOf b.code).length by simp [S.legLens])
    have T1 := Lib.hid (show ∀ (A : Option Addr) (n c B : Nat) (w : World) (hn : (S.legLens b).length = n) (hm : n ≤ 1000000) (hs : Cells w B A (i64s (S.legLens b))), Calls Try.prog 43 #[.slice A n c] w fun e w' => e = .returned (.int .i64 (S.legSum b)) ∧ w = w' from fun A n c B w hn hm hs => total_any A n c (S.legLens b) B w hn hm hs HP1.out (by have := hdb.2.2.2.2; unfold S.legSum at this; omega))
    have T2 := Lib.hid (show ∀ (A : Option Addr) (n c B : Nat) (w : World) (hn : (S.legLens ⟨b.mark, b.size, b.count, b.code, b.dims.set ki (dk + m)⟩).length = n) (hm : n ≤ 1000000) (hs : Cells w B A (i64s (S.legLens ⟨b.mark, b.size, b.count, b.code, b.dims.set ki (dk + m)⟩))), Calls Try.prog 43 #[.slice A n c] w fun e w' => e = .returned (.int .i64 (S.legSum ⟨b.mark, b.size, b.count, b.code, b.dims.set ki (dk + m)⟩)) ∧ w = w' from fun A n c B w hn hm hs => total_any A n c (S.legLens ⟨b.mark, b.size, b.count, b.code, b.dims.set ki (dk + m)⟩) B w hn hm hs HP2.out (by have := hdc.2.2.2.2; unfold S.legSum at this; omega))
    have D1 := Lib.hid (fun (B : Nat) (w : World) (hB : B ≤ w.heap.size) (hA : BarAt w B (some ⟨bA, oA, none⟩) n b) => devel_yes b (some ⟨bA, oA, none⟩) n c B w hB hA h)
    have D2 := Lib.hid (fun (B : Nat) (w : World) (hB : B ≤ w.heap.size) (hA : BarAt w B (some ⟨g, 0, none⟩) n ⟨b.mark, b.size, b.count, b.code, b.dims.set ki (dk + m)⟩) => devel_yes ⟨b.mark, b.size, b.count, b.code, b.dims.set ki (dk + m)⟩ (some ⟨g, 0, none⟩) n cap B w hB hA htf)
    have C1 := Lib.hid (fun (B : Nat) (w : World) (hB : B ≤ w.heap.size) (hA : BarAt w B (some ⟨bA, oA, none⟩) n b) => check_yes b (some ⟨bA, oA, none⟩) n c B w hB hA h)
    have C2 := Lib.hid (fun (B : Nat) (w : World) (hB : B ≤ w.heap.size) (hA : BarAt w B (some ⟨g, 0, none⟩) n ⟨b.mark, b.size, b.count, b.code, b.dims.set ki (dk + m)⟩) => check_yes ⟨b.mark, b.size, b.count, b.code, b.dims.set ki (dk + m)⟩ (some ⟨g, 0, none⟩) n cap B w hB hA htf)
    generalize S.devLo ⟨b.mark, b.size, b.count, b.code, b.dims.set ki (dk + m)⟩ = el at *
    generalize S.devHi ⟨b.mark, b.size, b.count, b.code, b.dims.set ki (dk + m)⟩ = eh at *
    generalize S.devLo b = dl at *
    generalize S.devHi b = dh at *
    generalize S.legSum ⟨b.mark, b.size, b.count, b.code, b.dims.set ki (dk + m)⟩ = sc at *
    generalize S.legSum b = sb at *
    generalize (S.finds ⟨b.mark, b.size, b.count, b.code, b.dims.set ki (dk + m)⟩).length = n2 at *
    generalize (S.finds b).length = n1' at *
    have v1 : IntKind.i64.wrap (sc - sb) = sc - sb := IntWalk.i64_in _ (by omega)
    have v2 : IntKind.i64.wrap (1000 * (sc - sb)) = 1000 * (sc - sb) := IntWalk.i64_in _ (by omega)
    have v3 : IntKind.i64.wrap (1000 * m) = 1000 * m := IntWalk.i64_in _ (by omega)
    have v4 : decide (1000 * m ≤ 1000 * (sc - sb)) = true := by simp; omega
    have v4' : decide (m ≤ sc - sb) = true := by simp; omega
    have v4'' : m ≤ sc - sb := by omega
    have v5 : IntKind.i64.wrap (el - dl) = el - dl := IntWalk.i64_in _ (by omega)
    have v6 : IntKind.i64.wrap (eh - dh) = eh - dh := IntWalk.i64_in _ (by omega)
    have v7 : (el - dl == 1000 * (sc - sb)) = true := by simp; omega
    have v8 : (eh - dh == 1000 * (sc - sb)) = true := by simp; omega
    have v9 : decide ((n2 : Int) ≤ (n1' : Int)) = true := by simp; omega
    clear hdl2 hls hdb hdc
    generalize hL : (S.legsOf b.code).length = L at *
    have HL := Lib.hid hL
    clear hL
    go_wp2_with (first
      | (go_at_call 21; (with_reducible refine (valid_any ⟨b.mark, b.size, b.count, b.code, b.dims.set ki (dk + m)⟩ (some ⟨g, 0, none⟩) n cap W0.heap.size _ (Nat.le_refl _) HC.out).mono ?_); rintro e w4 ⟨rfl, hbw4⟩; obtain ⟨hcw4, hfw4⟩ := bcell hbw4; have hzw4_0 : w.heap.size < w4.heap.size := lt_via hbw4 (by first | omega | (simp; done) | (simp; omega)); have hyw4_0 : w2.heap.size < w4.heap.size := lt_via hbw4 (by first | omega | (simp; done) | (simp; omega)))
      | ((go_at_call 19; (with_reducible refine (legs_yesL b (some ⟨bA, oA, none⟩) n c B _ L HL.out (le_via hB (by repeat (first | exact Below.refl _ _ | assumption | refine ba_alloc ?_ _ | refine ba_drew ?_ | refine ba_drewN ?_ _ | refine ba_via (by assumption) ?_ | (refine ba_set ?_ ?_ _; rotate_left; (first | omega | (simp; omega) | simp))))) (BarAt.at_ HA.out hB (by repeat (first | exact Below.refl _ _ | assumption | refine ba_alloc ?_ _ | refine ba_drew ?_ | refine ba_drewN ?_ _ | refine ba_via (by assumption) ?_ | (refine ba_set ?_ ?_ _; rotate_left; (first | omega | (simp; omega) | simp))))) h).mono ?_); rintro e w5 ⟨Aw5, cw5, rfl, how5, hbw5⟩; obtain ⟨hcw5, hfw5⟩ := bcell hbw5; have hzw5_0 : w.heap.size < w5.heap.size := lt_via hbw5 (by first | omega | (simp; done) | (simp; omega)); have hyw5_0 : w2.heap.size < w5.heap.size := lt_via hbw5 (by first | omega | (simp; done) | (simp; omega)))
         obtain ⟨hs5, _, _⟩ := own_cells how5)
      | ((go_at_call 19; (with_reducible refine (legs_yesL ⟨b.mark, b.size, b.count, b.code, b.dims.set ki (dk + m)⟩ (some ⟨g, 0, none⟩) n cap W0.heap.size _ L HL.out ((by repeat (first | exact Below.refl _ _ | assumption | refine ba_alloc ?_ _ | refine ba_drew ?_ | refine ba_drewN ?_ _ | refine ba_via (by assumption) ?_ | (refine ba_set ?_ ?_ _; rotate_left; (first | omega | (simp; omega) | simp)))) : Below W0.heap.size W0 _).size (BarAt.at_ HC.out (Nat.le_refl _) (by repeat (first | exact Below.refl _ _ | assumption | refine ba_alloc ?_ _ | refine ba_drew ?_ | refine ba_drewN ?_ _ | refine ba_via (by assumption) ?_ | (refine ba_set ?_ ?_ _; rotate_left; (first | omega | (simp; omega) | simp))))) htf).mono ?_); rintro e w6 ⟨Aw6, cw6, rfl, how6, hbw6⟩; obtain ⟨hcw6, hfw6⟩ := bcell hbw6; have hzw6_0 : w.heap.size < w6.heap.size := lt_via hbw6 (by first | omega | (simp; done) | (simp; omega)); have hyw6_0 : w2.heap.size < w6.heap.size := lt_via hbw6 (by first | omega | (simp; done) | (simp; omega)))
         obtain ⟨hs6, _, _⟩ := own_cells how6)
      | (go_at_call 42; (with_reducible refine (D1.out B _ (le_via hB (by repeat (first | exact Below.refl _ _ | assumption | refine ba_alloc ?_ _ | refine ba_drew ?_ | refine ba_drewN ?_ _ | refine ba_via (by assumption) ?_ | (refine ba_set ?_ ?_ _; rotate_left; (first | omega | (simp; omega) | simp))))) (BarAt.at_ HA.out hB (by repeat (first | exact Below.refl _ _ | assumption | refine ba_alloc ?_ _ | refine ba_drew ?_ | refine ba_drewN ?_ _ | refine ba_via (by assumption) ?_ | (refine ba_set ?_ ?_ _; rotate_left; (first | omega | (simp; omega) | simp)))))).mono ?_); rintro e w7 ⟨rfl, hbw7⟩; obtain ⟨hcw7, hfw7⟩ := bcell hbw7; have hzw7_0 : w.heap.size < w7.heap.size := lt_via hbw7 (by first | omega | (simp; done) | (simp; omega)); have hyw7_0 : w2.heap.size < w7.heap.size := lt_via hbw7 (by first | omega | (simp; done) | (simp; omega)))
      | (go_at_call 42; (with_reducible refine (D2.out W0.heap.size _ ((by repeat (first | exact Below.refl _ _ | assumption | refine ba_alloc ?_ _ | refine ba_drew ?_ | refine ba_drewN ?_ _ | refine ba_via (by assumption) ?_ | (refine ba_set ?_ ?_ _; rotate_left; (first | omega | (simp; omega) | simp)))) : Below W0.heap.size W0 _).size (BarAt.at_ HC.out (Nat.le_refl _) (by repeat (first | exact Below.refl _ _ | assumption | refine ba_alloc ?_ _ | refine ba_drew ?_ | refine ba_drewN ?_ _ | refine ba_via (by assumption) ?_ | (refine ba_set ?_ ?_ _; rotate_left; (first | omega | (simp; omega) | simp)))))).mono ?_); rintro e w8 ⟨rfl, hbw8⟩; obtain ⟨hcw8, hfw8⟩ := bcell hbw8; have hzw8_0 : w.heap.size < w8.heap.size := lt_via hbw8 (by first | omega | (simp; done) | (simp; omega)); have hyw8_0 : w2.heap.size < w8.heap.size := lt_via hbw8 (by first | omega | (simp; done) | (simp; omega)))
      | (go_at_call 57; (with_reducible refine (C1.out B _ (le_via hB (by repeat (first | exact Below.refl _ _ | assumption | refine ba_alloc ?_ _ | refine ba_drew ?_ | refine ba_drewN ?_ _ | refine ba_via (by assumption) ?_ | (refine ba_set ?_ ?_ _; rotate_left; (first | omega | (simp; omega) | simp))))) (BarAt.at_ HA.out hB (by repeat (first | exact Below.refl _ _ | assumption | refine ba_alloc ?_ _ | refine ba_drew ?_ | refine ba_drewN ?_ _ | refine ba_via (by assumption) ?_ | (refine ba_set ?_ ?_ _; rotate_left; (first | omega | (simp; omega) | simp)))))).mono ?_); rintro e w9 ⟨Aw9, cw9, rfl, how9, hbw9⟩; obtain ⟨hcw9, hfw9⟩ := bcell hbw9; have hzw9_0 : w.heap.size < w9.heap.size := lt_via hbw9 (by first | omega | (simp; done) | (simp; omega)); have hyw9_0 : w2.heap.size < w9.heap.size := lt_via hbw9 (by first | omega | (simp; done) | (simp; omega)))
      | (go_at_call 57; (with_reducible refine (C2.out W0.heap.size _ ((by repeat (first | exact Below.refl _ _ | assumption | refine ba_alloc ?_ _ | refine ba_drew ?_ | refine ba_drewN ?_ _ | refine ba_via (by assumption) ?_ | (refine ba_set ?_ ?_ _; rotate_left; (first | omega | (simp; omega) | simp)))) : Below W0.heap.size W0 _).size (BarAt.at_ HC.out (Nat.le_refl _) (by repeat (first | exact Below.refl _ _ | assumption | refine ba_alloc ?_ _ | refine ba_drew ?_ | refine ba_drewN ?_ _ | refine ba_via (by assumption) ?_ | (refine ba_set ?_ ?_ _; rotate_left; (first | omega | (simp; omega) | simp)))))).mono ?_); rintro e w10 ⟨Aw10, cw10, rfl, how10, hbw10⟩; obtain ⟨hcw10, hfw10⟩ := bcell hbw10; have hzw10_0 : w.heap.size < w10.heap.size := lt_via hbw10 (by first | omega | (simp; done) | (simp; omega)); have hyw10_0 : w2.heap.size < w10.heap.size := lt_via hbw10 (by first | omega | (simp; done) | (simp; omega))))
    have z1 : w7.heap.size < w8.heap.size := lt_via hbw8 (by simp)
    have z2 : w8.heap.size < w9.heap.size := lt_via hbw9 (by simp)
    have z3 := hbw10.size
    have z4 : w7.heap.size < w9.heap.size := by omega
    have z5 : w7.heap.size < w10.heap.size := by omega
    have z6 : w8.heap.size < w10.heap.size := by omega
    have b6 : Below w6.heap.size w6 w10 := (by repeat (first | exact Below.refl _ _ | assumption | refine ba_alloc ?_ _ | refine ba_drew ?_ | refine ba_drewN ?_ _ | refine ba_via (by assumption) ?_ | (refine ba_set ?_ ?_ _; rotate_left; (first | omega | (simp; omega) | simp))))
    have b5 : Below w5.heap.size w5 w10 := ba_via b6 hbw6
    have hx5 := hs5.below b5
    have hx6 := hs6.below b6
    go_wp2_with (first
      | (go_at_call 43; (with_reducible refine (T2.out Aw6 L cw6 w6.heap.size _ HL2.out (by omega) hx6).mono ?_); rintro e w' ⟨rfl, rfl⟩)
      | (go_at_call 43; (with_reducible refine (T1.out Aw5 L cw5 w5.heap.size _ HL1.out (by omega) hx5).mono ?_); rintro e w' ⟨rfl, rfl⟩))
    go_ret
    exact ⟨rfl, (by repeat (first | exact Below.refl _ _ | assumption | refine ba_alloc ?_ _ | refine ba_drew ?_ | refine ba_drewN ?_ _ | refine ba_via (by assumption) ?_ | (refine ba_set ?_ ?_ _; rotate_left; (first | omega | (simp; omega) | simp))))⟩
theorem longer_walk (b : Bar) (A : Option Addr) (n c : Nat) (k m : Int) (w : World) (hA : BarAt w w.heap.size A n b) (hk : 0 ≤ k ∧ k ≤ 255) (hm : 0 ≤ m ∧ m ≤ 65535) :
    Calls Try.prog 14 #[barV b A n c, .int .u8 k, .int .u16 m] w fun e w' => e = .returned (.bool true) ∧ Below w.heap.size w w' := by
  cases h : S.right b
  · exact longer_no b A n c k m _ w (Nat.le_refl _) hA h
  · obtain ⟨K, rfl⟩ := Int.eq_ofNat_of_zero_le hk.1
    exact longer_yes b A n c K m _ w (Nat.le_refl _) hA h (by omega) hm _ rfl
end Go.Proofs.Ytpjdepnbeendcaa
