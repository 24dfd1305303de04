/- The walk of ShapeScales (printed by tools/gen_scales.py). -/
import Derived.Test.YtpjdepnbeendcaaSpecScale
set_option linter.unusedVariables false
set_option linter.unusedSimpArgs false
namespace Go.Proofs.Ytpjdepnbeendcaa
open Go.RowKit
set_option maxRecDepth 100000 in
set_option maxHeartbeats 2000000 in
theorem scales_1 (b : Bar) (A : Option Addr) (n c : Nat) (k : Int) (mk : ByteArray) (ct : Int) (B : Nat) (w : World) (hB : B ≤ w.heap.size) (hA : BarAt w B A n b) (hk : 0 ≤ k ∧ k ≤ 255) (hct : 0 ≤ ct ∧ ct ≤ 65535) (hmk : mk.size ≤ 9223372036854775807) (hs : S.short b = false) :
    Calls Try.prog 7 #[barV b A n c, .int .u8 k, .string mk, .int .u16 ct] w fun e w' => e = .returned (.bool true) ∧ Below w.heap.size w w' := by
  have hn1 := hA.len
  have hm1 := hA.max
  have hk1 := hA.mark
  have HA := Lib.hid hA
  clear hA
  unfold barV
  go_enter Try.func7, Try.ntmps7
  go_wp2_with (first
    | (go_at_call 17; (with_reducible refine (awake12_any _).mono ?_); rintro e w1 ⟨rfl, hbw1⟩; obtain ⟨hcw1, hfw1⟩ := bcell hbw1; have hzw1_0 : w.heap.size < w1.heap.size := lt_via hbw1 (by first | omega | (simp; done) | (simp; omega)))
    | (go_at_call 18; (with_reducible refine (short_any b A n c _ hn1 hm1 hk1).mono ?_); rintro e w2 ⟨rfl, hbw2⟩; obtain ⟨hcw2, hfw2⟩ := bcell hbw2; have hzw2_0 : w.heap.size < w2.heap.size := lt_via hbw2 (by first | omega | (simp; done) | (simp; omega))))
  go_ret
  exact ⟨rfl, (by repeat (first | exact Below.refl _ _ | assumption | refine ba_alloc ?_ _ | refine ba_drew ?_ | refine ba_drewN ?_ _ | refine ba_via (by assumption) ?_ | (refine ba_set ?_ ?_ _; rotate_left; (first | omega | (simp; omega) | simp))))⟩
set_option maxRecDepth 100000 in
set_option maxHeartbeats 2000000 in
theorem scales_2 (b : Bar) (A : Option Addr) (n c : Nat) (k : Int) (mk : ByteArray) (ct : Int) (B : Nat) (w : World) (hB : B ≤ w.heap.size) (hA : BarAt w B A n b) (hk : 0 ≤ k ∧ k ≤ 255) (hct : 0 ≤ ct ∧ ct ≤ 65535) (hmk : mk.size ≤ 9223372036854775807) (hs : S.short b = true) (h0 : (k == 0) = true) :
    Calls Try.prog 7 #[barV b A n c, .int .u8 k, .string mk, .int .u16 ct] w fun e w' => e = .returned (.bool true) ∧ Below w.heap.size w w' := by
  have hn1 := hA.len
  have hm1 := hA.max
  have hk1 := hA.mark
  have HA := Lib.hid hA
  clear hA
  unfold barV
  go_enter Try.func7, Try.ntmps7
  go_wp2_with (first
    | (go_at_call 17; (with_reducible refine (awake12_any _).mono ?_); rintro e w1 ⟨rfl, hbw1⟩; obtain ⟨hcw1, hfw1⟩ := bcell hbw1; have hzw1_0 : w.heap.size < w1.heap.size := lt_via hbw1 (by first | omega | (simp; done) | (simp; omega)))
    | (go_at_call 18; (with_reducible refine (short_any b A n c _ hn1 hm1 hk1).mono ?_); rintro e w2 ⟨rfl, hbw2⟩; obtain ⟨hcw2, hfw2⟩ := bcell hbw2; have hzw2_0 : w.heap.size < w2.heap.size := lt_via hbw2 (by first | omega | (simp; done) | (simp; omega))))
  go_ret
  exact ⟨rfl, (by repeat (first | exact Below.refl _ _ | assumption | refine ba_alloc ?_ _ | refine ba_drew ?_ | refine ba_drewN ?_ _ | refine ba_via (by assumption) ?_ | (refine ba_set ?_ ?_ _; rotate_left; (first | omega | (simp; omega) | simp))))⟩
set_option maxRecDepth 100000 in
set_option maxHeartbeats 2000000 in
theorem scales_3 (b : Bar) (A : Option Addr) (n c : Nat) (k : Int) (mk : ByteArray) (ct : Int) (B : Nat) (w : World) (hB : B ≤ w.heap.size) (hA : BarAt w B A n b) (hk : 0 ≤ k ∧ k ≤ 255) (hct : 0 ≤ ct ∧ ct ≤ 65535) (hmk : mk.size ≤ 9223372036854775807) (hs : S.short b = true) (h0 : (k == 0) = false) (h6 : 60 < mk.size) :
    Calls Try.prog 7 #[barV b A n c, .int .u8 k, .string mk, .int .u16 ct] w fun e w' => e = .returned (.bool true) ∧ Below w.heap.size w w' := by
  have hn1 := hA.len
  have hm1 := hA.max
  have hk1 := hA.mark
  have HA := Lib.hid hA
  clear hA
  have h6' : decide ((60 : Int) < (mk.size : Int)) = true := by simp; omega
  unfold barV
  go_enter Try.func7, Try.ntmps7
  go_wp2_with (first
    | (go_at_call 17; (with_reducible refine (awake12_any _).mono ?_); rintro e w1 ⟨rfl, hbw1⟩; obtain ⟨hcw1, hfw1⟩ := bcell hbw1; have hzw1_0 : w.heap.size < w1.heap.size := lt_via hbw1 (by first | omega | (simp; done) | (simp; omega)))
    | (go_at_call 18; (with_reducible refine (short_any b A n c _ hn1 hm1 hk1).mono ?_); rintro e w2 ⟨rfl, hbw2⟩; obtain ⟨hcw2, hfw2⟩ := bcell hbw2; have hzw2_0 : w.heap.size < w2.heap.size := lt_via hbw2 (by first | omega | (simp; done) | (simp; omega))))
  go_ret
  exact ⟨rfl, (by repeat (first | exact Below.refl _ _ | assumption | refine ba_alloc ?_ _ | refine ba_drew ?_ | refine ba_drewN ?_ _ | refine ba_via (by assumption) ?_ | (refine ba_set ?_ ?_ _; rotate_left; (first | omega | (simp; omega) | simp))))⟩
set_option maxRecDepth 100000 in
set_option maxHeartbeats 2000000 in
theorem scales_4 (b : Bar) (A : Option Addr) (n c : Nat) (k : Int) (mk : ByteArray) (ct : Int) (B : Nat) (w : World) (hB : B ≤ w.heap.size) (hA : BarAt w B A n b) (hk : 0 ≤ k ∧ k ≤ 255) (hct : 0 ≤ ct ∧ ct ≤ 65535) (hmk : mk.size ≤ 9223372036854775807) (hs : S.short b = true) (h0 : (k == 0) = false) (h6 : mk.size ≤ 60) (h : S.bar b = false) :
    Calls Try.prog 7 #[barV b A n c, .int .u8 k, .string mk, .int .u16 ct] w fun e w' => e = .returned (.bool true) ∧ Below w.heap.size w w' := by
  have hn1 := hA.len
  have hm1 := hA.max
  have hk1 := hA.mark
  have HA := Lib.hid hA
  clear hA
  have h6' : decide ((60 : Int) < (mk.size : Int)) = false := by simp; omega
  unfold barV
  go_enter Try.func7, Try.ntmps7
  go_wp2_with (first
    | (go_at_call 17; (with_reducible refine (awake12_any _).mono ?_); rintro e w1 ⟨rfl, hbw1⟩; obtain ⟨hcw1, hfw1⟩ := bcell hbw1; have hzw1_0 : w.heap.size < w1.heap.size := lt_via hbw1 (by first | omega | (simp; done) | (simp; omega)))
    | (go_at_call 18; (with_reducible refine (short_any b A n c _ hn1 hm1 hk1).mono ?_); rintro e w2 ⟨rfl, hbw2⟩; obtain ⟨hcw2, hfw2⟩ := bcell hbw2; have hzw2_0 : w.heap.size < w2.heap.size := lt_via hbw2 (by first | omega | (simp; done) | (simp; omega)))
    | (go_at_call 20; (with_reducible refine (path_no b A n c B _ (by omega) (BarAt.at_ HA.out hB (by repeat (first | exact Below.refl _ _ | assumption | refine ba_alloc ?_ _ | refine ba_drew ?_ | refine ba_drewN ?_ _ | refine ba_via (by assumption) ?_ | (refine ba_set ?_ ?_ _; rotate_left; (first | omega | (simp; omega) | simp))))) h).mono ?_); rintro e w4 ⟨Aw4, cw4, rfl, how4, hbw4⟩; obtain ⟨hcw4, hfw4⟩ := bcell hbw4; have hzw4_0 : w.heap.size < w4.heap.size := lt_via hbw4 (by first | omega | (simp; done) | (simp; omega))))
  go_ret
  exact ⟨rfl, (by repeat (first | exact Below.refl _ _ | assumption | refine ba_alloc ?_ _ | refine ba_drew ?_ | refine ba_drewN ?_ _ | refine ba_via (by assumption) ?_ | (refine ba_set ?_ ?_ _; rotate_left; (first | omega | (simp; omega) | simp))))⟩
theorem BarAt.remark {w : World} {B : Nat} {A : Option Addr} {n : Nat} {b : Bar} (h : BarAt w B A n b) {mk : ByteArray} (ct : Int) (hm : mk.size ≤ 9223372036854775807) : BarAt w B A n ⟨mk, b.size, ct, b.code, b.dims⟩ := ⟨h.len, h.max, hm, h.cells⟩
theorem same_remark (b : Bar) (mk : ByteArray) (ct : Int) : S.same b ⟨mk, b.size, ct, b.code, b.dims⟩ = true := by simp [S.same, S.eqi]
theorem path_remark (b : Bar) (mk : ByteArray) (ct : Int) : S.path ⟨mk, b.size, ct, b.code, b.dims⟩ = S.path b := path_congr _ _ rfl rfl
theorem eqp_refl (l : List Pt) : S.eqp l l = true := eqp_iff.2 rfl
theorem equalp_same (A A' : Option Addr) (n c c' : Nat) (xs : List Pt) (B : Nat) (w : World) (hB : B ≤ w.heap.size) (hn : xs.length = n) (hn' : n ≤ 9223372036854775807) (hx : Cells w B A (xs.flatMap ptC)) (hy : Cells w B A' (xs.flatMap ptC)) :
    Calls Try.prog 31 #[.slice A n c, .slice A' n c'] w fun e w' => e = .returned (.bool true) ∧ Below w.heap.size w w' := by
  have := equalp_any A A' n n c c' xs xs B w hB hn hn hn' hn' hx hy
  rwa [eqp_refl] at this
theorem mulk_wrap {k x : Int} (hk : 0 ≤ k ∧ k ≤ 255) (h1 : -2000000 ≤ x) (h2 : x ≤ 2000000) : IntKind.i64.wrap (k * x) = k * x := IntWalk.i64_in _ (by
  have a := Int.mul_le_mul_of_nonneg_left h2 hk.1
  have b := Int.mul_le_mul_of_nonneg_left h1 hk.1
  omega)
set_option maxRecDepth 100000 in
set_option maxHeartbeats 4000000 in
theorem scales_y (b : Bar) (A : Option Addr) (n c : Nat) (k : Int) (mk : ByteArray) (ct : Int) (B : Nat) (w : World) (hB : B ≤ w.heap.size) (hA : BarAt w B A n b) (hk : 0 ≤ k ∧ k ≤ 255) (hct : 0 ≤ ct ∧ ct ≤ 65535) (hmk : mk.size ≤ 9223372036854775807) (hs : S.short b = true) (h0 : (k == 0) = false) (h6 : mk.size ≤ 60) (h : S.bar b = true) (hnm : S.isName mk = true) :
    Calls Try.prog 7 #[barV b A n c, .int .u8 k, .string mk, .int .u16 ct] w fun e w' => e = .returned (.bool true) ∧ Below w.heap.size w w' := by
  have hn1 := hA.len
  have hm1 := hA.max
  have hk1 := hA.mark
  have HA := Lib.hid hA
  clear hA
  obtain ⟨_, hl1⟩ := legs_sum h
  have hl6 := legs_len b.code
  have hdl := bar_head h
  have hdb := dimsOf_bd b.code
  have hd0 := legs_dim b.code (k := 0) (by omega)
  have hn0 : 1 ≤ n ∧ n ≤ 5 := by omega
  clear hdl hdb hd0
  obtain ⟨bA, oA, rfl, _, _⟩ := HA.out.cells.at_ (by simp; omega)
  generalize hL : (S.legsOf b.code).length = L at *
  have HL := Lib.hid hL
  clear hL
  have h6' : decide ((60 : Int) < (mk.size : Int)) = false := by simp; omega
  have hbr : S.bar ⟨mk, b.size, 1 + ct % 1000, b.code, b.dims⟩ = true := (bar_remark b h mk (1 + ct % 1000) (by omega) (by omega)).trans hnm
  have hsr := same_remark b mk (1 + ct % 1000)
  have hct1 : ct.tmod 1000 = ct % 1000 := by rw [Int.tmod_eq_emod_of_nonneg (by omega)]
  have hct2 : IntKind.i64.wrap (1 + ct % 1000) = 1 + ct % 1000 := IntWalk.i64_in _ (by omega)
  unfold barV
  go_enter Try.func7, Try.ntmps7
  go_wp2_with (first
    | (go_at_call 17; (with_reducible refine (awake12_any _).mono ?_); rintro e w1 ⟨rfl, hbw1⟩; obtain ⟨hcw1, hfw1⟩ := bcell hbw1; have hzw1_0 : w.heap.size < w1.heap.size := lt_via hbw1 (by first | omega | (simp; done) | (simp; omega)))
    | (go_at_call 18; (with_reducible refine (short_any b (some ⟨bA, oA, none⟩) n c _ hn1 hm1 hk1).mono ?_); rintro e w2 ⟨rfl, hbw2⟩; obtain ⟨hcw2, hfw2⟩ := bcell hbw2; have hzw2_0 : w.heap.size < w2.heap.size := lt_via hbw2 (by first | omega | (simp; done) | (simp; omega)))
    | ((go_at_call 20; (with_reducible refine (path_yesL b (some ⟨bA, oA, none⟩) n c B _ L HL.out (by first | omega | (simp; omega)) (BarAt.at_ HA.out hB (by repeat (first | exact Below.refl _ _ | assumption | refine ba_alloc ?_ _ | refine ba_drew ?_ | refine ba_drewN ?_ _ | refine ba_via (by assumption) ?_ | (refine ba_set ?_ ?_ _; rotate_left; (first | omega | (simp; omega) | simp))))) h).mono ?_); rintro e w4 ⟨Aw4, cw4, rfl, how4, hbw4⟩; obtain ⟨hcw4, hfw4⟩ := bcell hbw4; have hzw4_0 : w.heap.size < w4.heap.size := lt_via hbw4 (by first | omega | (simp; done) | (simp; omega)))
       obtain ⟨hs4, _, _⟩ := own_cells how4
       obtain ⟨b4, o4, rfl, hb4, _⟩ := hs4.at_ (by rw [flat_len ptC 3 ptC_len, path_length]; omega))
    | (go_at_call 28; (with_reducible refine (same_yes b ⟨mk, b.size, 1 + ct % 1000, b.code, b.dims⟩ (some ⟨bA, oA, none⟩) (some ⟨bA, oA, none⟩) n n c c B _ (by first | omega | (simp; omega)) (BarAt.at_ HA.out hB (by repeat (first | exact Below.refl _ _ | assumption | refine ba_alloc ?_ _ | refine ba_drew ?_ | refine ba_drewN ?_ _ | refine ba_via (by assumption) ?_ | (refine ba_set ?_ ?_ _; rotate_left; (first | omega | (simp; omega) | simp))))) ((BarAt.at_ HA.out hB (by repeat (first | exact Below.refl _ _ | assumption | refine ba_alloc ?_ _ | refine ba_drew ?_ | refine ba_drewN ?_ _ | refine ba_via (by assumption) ?_ | (refine ba_set ?_ ?_ _; rotate_left; (first | omega | (simp; omega) | simp))))).remark _ hmk) h hbr).mono ?_); rintro e w5 ⟨rfl, hbw5⟩; obtain ⟨hcw5, hfw5⟩ := bcell hbw5; have hzw5_0 : w.heap.size < w5.heap.size := lt_via hbw5 (by first | omega | (simp; done) | (simp; omega)); have hyw5_0 : w4.heap.size < w5.heap.size := lt_via hbw5 (by first | omega | (simp; done) | (simp; omega)))
    | ((go_at_call 20; (with_reducible refine (path_yesL ⟨mk, b.size, 1 + ct % 1000, b.code, b.dims⟩ (some ⟨bA, oA, none⟩) n c B _ L HL.out (by first | omega | (simp; omega)) ((BarAt.at_ HA.out hB (by repeat (first | exact Below.refl _ _ | assumption | refine ba_alloc ?_ _ | refine ba_drew ?_ | refine ba_drewN ?_ _ | refine ba_via (by assumption) ?_ | (refine ba_set ?_ ?_ _; rotate_left; (first | omega | (simp; omega) | simp))))).remark _ hmk) hbr).mono ?_); rintro e w6 ⟨Aw6, cw6, rfl, how6, hbw6⟩; obtain ⟨hcw6, hfw6⟩ := bcell hbw6; have hzw6_0 : w.heap.size < w6.heap.size := lt_via hbw6 (by first | omega | (simp; done) | (simp; omega)); have hyw6_0 : w4.heap.size < w6.heap.size := lt_via hbw6 (by first | omega | (simp; done) | (simp; omega)))
       obtain ⟨hs6, _, _⟩ := own_cells how6
       rw [path_remark] at hs6
       have hb46 : Below w4.heap.size w4 w6 := (by repeat (first | exact Below.refl _ _ | assumption | refine ba_alloc ?_ _ | refine ba_drew ?_ | refine ba_drewN ?_ _ | refine ba_via (by assumption) ?_ | (refine ba_set ?_ ?_ _; rotate_left; (first | omega | (simp; omega) | simp))))
       have hs46 := (hs4.below hb46).mono hb46.size)
    | (go_at_call 31; (with_reducible refine (equalp_same (some ⟨b4, o4, none⟩) Aw6 (L + 1) cw4 cw6 (S.path b) w6.heap.size _ (by omega) (by rw [path_length, HL.out]) (by omega) hs46 hs6).mono ?_); rintro e w7 ⟨rfl, hbw7⟩; obtain ⟨hcw7, hfw7⟩ := bcell hbw7; have hzw7_0 : w.heap.size < w7.heap.size := lt_via hbw7 (by first | omega | (simp; done) | (simp; omega)); have hyw7_0 : w4.heap.size < w7.heap.size := lt_via hbw7 (by first | omega | (simp; done) | (simp; omega)))
    | (go_at_call 32; (with_reducible refine (clone_any bA oA n c b.dims B _ (by first | omega | (simp; omega)) hn1 (by omega) (by omega) (BarAt.at_ HA.out hB (by repeat (first | exact Below.refl _ _ | assumption | refine ba_alloc ?_ _ | refine ba_drew ?_ | refine ba_drewN ?_ _ | refine ba_via (by assumption) ?_ | (refine ba_set ?_ ?_ _; rotate_left; (first | omega | (simp; omega) | simp))))).cells).mono ?_); rintro e w8 ⟨g, cap, cur, rfl, hg, hblk, hcap1, hcap2, hcsz, hctk, hbw8⟩
       obtain ⟨hcw8, hfw8⟩ := bcell hbw8
       have hz8 : w.heap.size < w8.heap.size := lt_via hbw8 (by first | omega | (simp; omega))
       have hy8 : w4.heap.size < w8.heap.size := lt_via hbw8 (by first | omega | (simp; omega))
       have hB7 : Blk w7 w4.heap.size 24 #[.string mk, .int .i64 b.size, .int .i64 (1 + ct % 1000), .int .i64 b.code, .slice (some ⟨bA, oA, none⟩) n c] := (Blk.new w4 _ _).via (via hbw7 (via hbw6 hbw5 (Nat.le_refl _)) (Nat.le_refl _))
       have hB8 : Blk w8 w4.heap.size 24 #[.string b.mark, .int .i64 b.size, .int .i64 b.count, .int .i64 b.code, .slice (some ⟨bA, oA, none⟩) n c] := by simpa using (((((hB7.set 0 (.string b.mark)).set 1 (.int .i64 b.size)).set 2 (.int .i64 b.count)).set 3 (.int .i64 b.code)).set 4 (.slice (some ⟨bA, oA, none⟩) n c)).via hbw8
       have k0 := hB8.cell 0
       have k1 := hB8.cell 1
       have k2 := hB8.cell 2
       have k3 := hB8.cell 3
       have k4 := hB8.cell 4
       have kf4 := hB8.frozen 4
       simp only [List.getElem?_toArray, List.getElem?_cons_zero, List.getElem?_cons_succ] at k0 k1 k2 k3 k4
       clear hcw8 hfw8))
  have h45 : Below w4.heap.size w4 w5 := ba_via hbw5 (ba_alloc (Below.refl _ _) _)
  have h47 : Below w4.heap.size w4 w7 := ba_via hbw7 (ba_via hbw6 h45)
  have h48 : Below w4.heap.size w4 w8 := ba_via hbw8 (((((h47.setCell (Nat.le_refl _) _).setCell (Nat.le_refl _) _).setCell (Nat.le_refl _) _).setCell (Nat.le_refl _) _).setCell (Nat.le_refl _) _)
  have hb4W : Below w4.heap.size w4 (w8.setCell ⟨w4.heap.size, 4, none⟩ (.slice (some ⟨g, 0, none⟩) n cap)) := h48.setCell (Nat.le_refl _) _
  have hgw : w4.heap.size < g := by simp at hg; omega
  have hgn : g ≠ w4.heap.size := by omega
  have hC0 : Blk (w8.setCell ⟨w4.heap.size, 4, none⟩ (.slice (some ⟨g, 0, none⟩) n cap)) w4.heap.size 24 #[.string b.mark, .int .i64 b.size, .int .i64 b.count, .int .i64 b.code, .slice (some ⟨g, 0, none⟩) n cap] := by simpa using hB8.set 4 (.slice (some ⟨g, 0, none⟩) n cap)
  have hG0 : Blk (w8.setCell ⟨w4.heap.size, 4, none⟩ (.slice (some ⟨g, 0, none⟩) n cap)) g 3 cur := hblk.far hgn _
  have hgW : g < (w8.setCell ⟨w4.heap.size, 4, none⟩ (.slice (some ⟨g, 0, none⟩) n cap)).heap.size := hG0.lt
  have hP0 := hs4.below hb4W
  have hzW := hb4W.size
  have hyW : w4.heap.size < (w8.setCell ⟨w4.heap.size, 4, none⟩ (.slice (some ⟨g, 0, none⟩) n cap)).heap.size := hC0.lt
  have hbW : Below w.heap.size w (w8.setCell ⟨w4.heap.size, 4, none⟩ (.slice (some ⟨g, 0, none⟩) n cap)) := ba_via hb4W (by repeat (first | exact Below.refl _ _ | assumption | refine ba_alloc ?_ _ | refine ba_drew ?_ | refine ba_drewN ?_ _ | refine ba_via (by assumption) ?_ | (refine ba_set ?_ ?_ _; rotate_left; (first | omega | (simp; omega) | simp))))
  generalize w8.setCell ⟨w4.heap.size, 4, none⟩ (.slice (some ⟨g, 0, none⟩) n cap) = W0 at *
  clear h45 h47 h48 hB8 k0 k1 k2 k3 k4 kf4 hz8 hy8 hblk hbw8 hB7 hcw1 hfw1 hcw2 hfw2 hcw4 hfw4 hcw5 hfw5 hcw6 hfw6 hcw7 hfw7 hbw6 hbw7 how6 hs6 hs46 hb46 hbw5 hg how4
  have hww4 : w.heap.size ≤ w4.heap.size := by omega
  have HCT := Lib.hid hctk
  have HLN := Lib.hid hn1
  have HMX := Lib.hid hm1
  have HMK := Lib.hid hk1
  have HC0 := Lib.hid hC0
  have HP0 := Lib.hid hP0
  have HOK := Lib.hid (by simp only [S.bar, Bool.and_eq_true] at h; exact h.2 : S.dimsOk b.dims = true)
  go_loopw [88] (fun i wr => ∃ (j : Nat) (cur' : Array Value), j ≤ n ∧ i = .int .i64 j ∧ Blk wr g 3 cur' ∧ cur'.toList.take n = i64s (S.mulTo b.dims k j) ∧ Exc [g] W0 wr) (fun i _ => n - (intOf i).toNat)
  case atStart => exact ⟨0, cur, Nat.zero_le _, rfl, hG0, by rw [mulTo_zero]; exact HCT.out, Exc.refl _ _⟩
  case round =>
    obtain ⟨j, cur', hj, rfl, hG, htk, hX⟩ := hrel
    have HTK := Lib.hid htk
    have HWR := Lib.hid (hbW.trans (hX.below (by have := hbW.size; omega) (by intro x hx; simp at hx; rw [hx]; omega)))
    clear htk hG0 hC0 hP0 hctk
    have hsz := hX.size
    have hCr : Blk wr w4.heap.size 24 #[.string b.mark, .int .i64 b.size, .int .i64 b.count, .int .i64 b.code, .slice (some ⟨g, 0, none⟩) n cap] := (hX.block _ hyW (by simp; omega)).trans HC0.out
    have hPr : Cells wr w4.heap.size (some ⟨b4, o4, none⟩) ((S.path b).flatMap ptC) := HP0.out.below (hX.below (by omega) (by intro x hx; simp at hx; rw [hx]; exact Nat.le_of_lt hgw))
    have q0 := hCr.cell 0
    have q1 := hCr.cell 1
    have q2 := hCr.cell 2
    have q3 := hCr.cell 3
    have q4 := hCr.cell 4
    simp only [List.getElem?_toArray, List.getElem?_cons_zero, List.getElem?_cons_succ] at q0 q1 q2 q3 q4
    have hgr := hG.lt
    have hcr := hCr.lt
    by_cases hlt : j < n
    · have hjl : j < b.dims.length := by have := HLN.out; omega
      have hjd := dim_bd HOK.out hjl
      have hce : wr.cell? ⟨g, j, none⟩ = some (.int .i64 b.dims[j]) := by
        rw [hG.cell, ← Array.getElem?_toList, ← List.getElem?_take_of_lt hlt, HTK.out, List.getElem?_map, mulTo_get k hjl]; rfl
      have hfe := hG.frozen j
      have hce0 : wr.cell? ⟨g, 0 + j, none⟩ = some (.int .i64 b.dims[j]) := by rw [Nat.zero_add]; exact hce
      have hwk : IntKind.i64.wrap k = k := IntWalk.i64_in _ (by omega)
      have hpb : 1 * 0 ≤ b.dims[j] * k ∧ b.dims[j] * k ≤ 262144 * 255 := ⟨Int.mul_nonneg (by omega) hk.1, Int.mul_le_mul hjd.2 hk.2 hk.1 (by omega)⟩
      have hwp : IntKind.i64.wrap (b.dims[j] * k) = b.dims[j] * k := IntWalk.i64_in _ (by omega)
      have HE := Lib.hid (mulTo_set k hjl)
      generalize hq : b.dims[j] = q at *
      have HQ := Lib.hid hq
      clear hq hjd hpb
      go_wp2
      go_roundw
      case rel =>
        refine ⟨j + 1, _, by omega, by go_num, hG.set j (.int .i64 (q * k)), ?_, hX.set (.inl (by simp)) _⟩
        have := HE.out
        rw [Array.toList_setIfInBounds, List.take_set, HTK.out, ← this, ← List.map_set]
      case measure => simp [intOf]; omega
    · have he : j = n := by omega
      subst he
      have hsl : (b.dims.map (· * k)).length = j := by rw [List.length_map]; exact HLN.out
      have hsc : Cells wr wr.heap.size (some ⟨g, 0, none⟩) (i64s (b.dims.map (· * k))) := .inr ⟨g, 0, rfl, hgr, fun i v hv => by
        have hi : i < j := by
          have := (List.getElem?_eq_some_iff.1 hv).1
          simp at this
          have := HLN.out
          omega
        have hm : S.mulTo b.dims k j = b.dims.map (· * k) := mulTo_full k (by have := HLN.out; omega)
        rw [Nat.zero_add, hG.cell, ← Array.getElem?_toList, ← List.getElem?_take_of_lt hi, HTK.out, hm]
        exact hv⟩
      have HS := Lib.hid (⟨hsl, HMX.out, HMK.out, hsc⟩ : BarAt wr wr.heap.size (some ⟨g, 0, none⟩) j ⟨b.mark, b.size, b.count, b.code, b.dims.map (· * k)⟩)
      clear hsl hsc
      have hk1' : S.bar ⟨b.mark, b.size, b.count, b.code, b.dims.map (· * k)⟩ = false → k ≠ 1 := fun hf h1 => by
        subst h1
        have := scaled_one b
        unfold S.scaled at this
        rw [this, h] at hf
        cases hf
      by_cases hv : S.bar ⟨b.mark, b.size, b.count, b.code, b.dims.map (· * k)⟩ = true
      · have hjs : ∀ k (hk : k < (S.legsOf b.code).length), (S.legsOf b.code)[k].1 < b.dims.length := fun k hk => by have := legs_dim b.code hk; have := bar_head h; omega
        have HBD := Lib.hid (ptAt_bd b HOK.out hjs)
        clear hjs
        go_wp2_with (go_at_call 20; (with_reducible refine (path_yesL ⟨b.mark, b.size, b.count, b.code, b.dims.map (· * k)⟩ (some ⟨g, 0, none⟩) j cap wr.heap.size _ L HL.out (Nat.le_refl _) HS.out hv).mono ?_); rintro e w9 ⟨Aw9, cw9, rfl, how9, hbw9⟩; obtain ⟨hcw9, hfw9⟩ := bcell hbw9)
        obtain ⟨hs9, _, _⟩ := own_cells how9
        obtain ⟨b9, o9, rfl, hb9, _⟩ := hs9.at_ (by rw [flat_len ptC 3 ptC_len, path_length]; omega)
        have hp9 := hPr.below (hbw9.mono (by omega))
        have hz9 := hbw9.size
        clear how9
        go_loopw [121] (fun i wx => ∃ q : Nat, q ≤ L + 1 ∧ i = .int .i64 q ∧ Below w9.heap.size w9 wx) (fun i _ => (L + 1) - (intOf i).toNat)
        case atStart => exact ⟨0, Nat.zero_le _, rfl, Below.refl _ _⟩
        case round =>
          obtain ⟨q, hq, rfl, hbx⟩ := hrel
          by_cases hlt : q < L + 1
          · have hg1 : (S.path b)[q]? = some (S.ptAt b q) := path_get b (by have := HL.out; omega)
            have hg2 : (S.path ⟨b.mark, b.size, b.count, b.code, b.dims.map (· * k)⟩)[q]? = some (S.mul k (S.ptAt b q)) := by
              rw [path_get _ (by have := HL.out; simp only []; omega)]
              exact congrArg some (ptAt_scaled b k q)
            obtain ⟨c1, c2, c3⟩ := (hp9.below (hbx.mono (by omega))).pts hg1
            obtain ⟨d1, d2, d3⟩ := (hs9.below hbx).pts hg2
            have hwi := HBD.out q
            unfold Within at hwi
            have hqi : (q : Int) < ((L + 1 : Nat) : Int) := by omega
            have hwk : IntKind.i64.wrap k = k := IntWalk.i64_in _ (by omega)
            generalize S.ptAt b q = P at *
            have hx1 := mulk_wrap hk (x := P.x) (by omega) (by omega)
            have hx2 := mulk_wrap hk (x := P.y) (by omega) (by omega)
            have hx3 := mulk_wrap hk (x := P.z) (by omega) (by omega)
            simp only [S.mul] at d1 d2 d3
            have hne : ∀ W, (binOp .neq 34 (.agg #[.int .i64 (k * P.x), .int .i64 (k * P.y), .int .i64 (k * P.z)]) (.agg #[.int .i64 (k * P.x), .int .i64 (k * P.y), .int .i64 (k * P.z)])).run Try.prog W = .ok (.bool false) W := fun W => by
              have := run_neq_pt (S.mul k P) (S.mul k P) W
              rw [show S.eqpt (S.mul k P) (S.mul k P) = true by simp [S.eqpt]] at this
              exact this
            have hbx4 : b4 < wr.heap.size := by have := hbx.size; omega
            have hbx9 : b9 < wr.heap.size := by have := hbx.size; omega
            clear hg1 hg2 hwi
            go_wp2
            go_quiet (fail)
            go_wp2
            go_roundw
            case rel => exact ⟨q + 1, by omega, by go_num, ba_drewN (ba_alloc hbx _) _⟩
            case measure => simp [intOf]; omega
          · go_wp2
            go_ret
            exact ⟨rfl, ba_via hbx (ba_via hbw9 HWR.out)⟩
      · have hv' : S.bar ⟨b.mark, b.size, b.count, b.code, b.dims.map (· * k)⟩ = false := by simpa using hv
        have hk2 : decide (1 < k) = true := by have := hk1' hv'; simp at h0 ⊢; omega
        go_wp2_with (go_at_call 20; (with_reducible refine (path_no ⟨b.mark, b.size, b.count, b.code, b.dims.map (· * k)⟩ (some ⟨g, 0, none⟩) j cap wr.heap.size _ (Nat.le_refl _) HS.out hv').mono ?_); rintro e w9 ⟨Aw9, cw9, rfl, how9, hbw9⟩; obtain ⟨hcw9, hfw9⟩ := bcell hbw9)
        go_ret
        exact ⟨rfl, ba_via hbw9 HWR.out⟩

set_option maxRecDepth 100000 in
set_option maxHeartbeats 4000000 in
theorem scales_n (b : Bar) (A : Option Addr) (n c : Nat) (k : Int) (mk : ByteArray) (ct : Int) (B : Nat) (w : World) (hB : B ≤ w.heap.size) (hA : BarAt w B A n b) (hk : 0 ≤ k ∧ k ≤ 255) (hct : 0 ≤ ct ∧ ct ≤ 65535) (hmk : mk.size ≤ 9223372036854775807) (hs : S.short b = true) (h0 : (k == 0) = false) (h6 : mk.size ≤ 60) (h : S.bar b = true) (hnm : S.isName mk = false) :
    Calls Try.prog 7 #[barV b A n c, .int .u8 k, .string mk, .int .u16 ct] w fun e w' => e = .returned (.bool true) ∧ Below w.heap.size w w' := by
  have hn1 := hA.len
  have hm1 := hA.max
  have hk1 := hA.mark
  have HA := Lib.hid hA
  clear hA
  obtain ⟨_, hl1⟩ := legs_sum h
  have hl6 := legs_len b.code
  have hdl := bar_head h
  have hdb := dimsOf_bd b.code
  have hd0 := legs_dim b.code (k := 0) (by omega)
  have hn0 : 1 ≤ n ∧ n ≤ 5 := by omega
  clear hdl hdb hd0
  obtain ⟨bA, oA, rfl, _, _⟩ := HA.out.cells.at_ (by simp; omega)
  generalize hL : (S.legsOf b.code).length = L at *
  have HL := Lib.hid hL
  clear hL
  have h6' : decide ((60 : Int) < (mk.size : Int)) = false := by simp; omega
  have hbr : S.bar ⟨mk, b.size, 1 + ct % 1000, b.code, b.dims⟩ = false := (bar_remark b h mk (1 + ct % 1000) (by omega) (by omega)).trans hnm
  have hsr := same_remark b mk (1 + ct % 1000)
  have hct1 : ct.tmod 1000 = ct % 1000 := by rw [Int.tmod_eq_emod_of_nonneg (by omega)]
  have hct2 : IntKind.i64.wrap (1 + ct % 1000) = 1 + ct % 1000 := IntWalk.i64_in _ (by omega)
  unfold barV
  go_enter Try.func7, Try.ntmps7
  go_wp2_with (first
    | (go_at_call 17; (with_reducible refine (awake12_any _).mono ?_); rintro e w1 ⟨rfl, hbw1⟩; obtain ⟨hcw1, hfw1⟩ := bcell hbw1; have hzw1_0 : w.heap.size < w1.heap.size := lt_via hbw1 (by first | omega | (simp; done) | (simp; omega)))
    | (go_at_call 18; (with_reducible refine (short_any b (some ⟨bA, oA, none⟩) n c _ hn1 hm1 hk1).mono ?_); rintro e w2 ⟨rfl, hbw2⟩; obtain ⟨hcw2, hfw2⟩ := bcell hbw2; have hzw2_0 : w.heap.size < w2.heap.size := lt_via hbw2 (by first | omega | (simp; done) | (simp; omega)))
    | ((go_at_call 20; (with_reducible refine (path_yesL b (some ⟨bA, oA, none⟩) n c B _ L HL.out (by first | omega | (simp; omega)) (BarAt.at_ HA.out hB (by repeat (first | exact Below.refl _ _ | assumption | refine ba_alloc ?_ _ | refine ba_drew ?_ | refine ba_drewN ?_ _ | refine ba_via (by assumption) ?_ | (refine ba_set ?_ ?_ _; rotate_left; (first | omega | (simp; omega) | simp))))) h).mono ?_); rintro e w4 ⟨Aw4, cw4, rfl, how4, hbw4⟩; obtain ⟨hcw4, hfw4⟩ := bcell hbw4; have hzw4_0 : w.heap.size < w4.heap.size := lt_via hbw4 (by first | omega | (simp; done) | (simp; omega)))
       obtain ⟨hs4, _, _⟩ := own_cells how4
       obtain ⟨b4, o4, rfl, hb4, _⟩ := hs4.at_ (by rw [flat_len ptC 3 ptC_len, path_length]; omega))
    | (go_at_call 28; (with_reducible refine (same_no2 b ⟨mk, b.size, 1 + ct % 1000, b.code, b.dims⟩ (some ⟨bA, oA, none⟩) (some ⟨bA, oA, none⟩) n n c c B _ (by first | omega | (simp; omega)) (BarAt.at_ HA.out hB (by repeat (first | exact Below.refl _ _ | assumption | refine ba_alloc ?_ _ | refine ba_drew ?_ | refine ba_drewN ?_ _ | refine ba_via (by assumption) ?_ | (refine ba_set ?_ ?_ _; rotate_left; (first | omega | (simp; omega) | simp))))) ((BarAt.at_ HA.out hB (by repeat (first | exact Below.refl _ _ | assumption | refine ba_alloc ?_ _ | refine ba_drew ?_ | refine ba_drewN ?_ _ | refine ba_via (by assumption) ?_ | (refine ba_set ?_ ?_ _; rotate_left; (first | omega | (simp; omega) | simp))))).remark _ hmk) h hbr).mono ?_); rintro e w5 ⟨rfl, hbw5⟩; obtain ⟨hcw5, hfw5⟩ := bcell hbw5; have hzw5_0 : w.heap.size < w5.heap.size := lt_via hbw5 (by first | omega | (simp; done) | (simp; omega)); have hyw5_0 : w4.heap.size < w5.heap.size := lt_via hbw5 (by first | omega | (simp; done) | (simp; omega)))
    | (go_at_call 32; (with_reducible refine (clone_any bA oA n c b.dims B _ (by first | omega | (simp; omega)) hn1 (by omega) (by omega) (BarAt.at_ HA.out hB (by repeat (first | exact Below.refl _ _ | assumption | refine ba_alloc ?_ _ | refine ba_drew ?_ | refine ba_drewN ?_ _ | refine ba_via (by assumption) ?_ | (refine ba_set ?_ ?_ _; rotate_left; (first | omega | (simp; omega) | simp))))).cells).mono ?_); rintro e w8 ⟨g, cap, cur, rfl, hg, hblk, hcap1, hcap2, hcsz, hctk, hbw8⟩
       obtain ⟨hcw8, hfw8⟩ := bcell hbw8
       have hz8 : w.heap.size < w8.heap.size := lt_via hbw8 (by first | omega | (simp; omega))
       have hy8 : w4.heap.size < w8.heap.size := lt_via hbw8 (by first | omega | (simp; omega))
       have hB7 : Blk w5 w4.heap.size 24 #[.string mk, .int .i64 b.size, .int .i64 (1 + ct % 1000), .int .i64 b.code, .slice (some ⟨bA, oA, none⟩) n c] := (Blk.new w4 _ _).via hbw5
       have hB8 : Blk w8 w4.heap.size 24 #[.string b.mark, .int .i64 b.size, .int .i64 b.count, .int .i64 b.code, .slice (some ⟨bA, oA, none⟩) n c] := by simpa using (((((hB7.set 0 (.string b.mark)).set 1 (.int .i64 b.size)).set 2 (.int .i64 b.count)).set 3 (.int .i64 b.code)).set 4 (.slice (some ⟨bA, oA, none⟩) n c)).via hbw8
       have k0 := hB8.cell 0
       have k1 := hB8.cell 1
       have k2 := hB8.cell 2
       have k3 := hB8.cell 3
       have k4 := hB8.cell 4
       have kf4 := hB8.frozen 4
       simp only [List.getElem?_toArray, List.getElem?_cons_zero, List.getElem?_cons_succ] at k0 k1 k2 k3 k4
       clear hcw8 hfw8))
  have h45 : Below w4.heap.size w4 w5 := ba_via hbw5 (ba_alloc (Below.refl _ _) _)
  have h47 : Below w4.heap.size w4 w5 := h45
  have h48 : Below w4.heap.size w4 w8 := ba_via hbw8 (((((h47.setCell (Nat.le_refl _) _).setCell (Nat.le_refl _) _).setCell (Nat.le_refl _) _).setCell (Nat.le_refl _) _).setCell (Nat.le_refl _) _)
  have hb4W : Below w4.heap.size w4 (w8.setCell ⟨w4.heap.size, 4, none⟩ (.slice (some ⟨g, 0, none⟩) n cap)) := h48.setCell (Nat.le_refl _) _
  have hgw : w4.heap.size < g := by simp at hg; omega
  have hgn : g ≠ w4.heap.size := by omega
  have hC0 : Blk (w8.setCell ⟨w4.heap.size, 4, none⟩ (.slice (some ⟨g, 0, none⟩) n cap)) w4.heap.size 24 #[.string b.mark, .int .i64 b.size, .int .i64 b.count, .int .i64 b.code, .slice (some ⟨g, 0, none⟩) n cap] := by simpa using hB8.set 4 (.slice (some ⟨g, 0, none⟩) n cap)
  have hG0 : Blk (w8.setCell ⟨w4.heap.size, 4, none⟩ (.slice (some ⟨g, 0, none⟩) n cap)) g 3 cur := hblk.far hgn _
  have hgW : g < (w8.setCell ⟨w4.heap.size, 4, none⟩ (.slice (some ⟨g, 0, none⟩) n cap)).heap.size := hG0.lt
  have hP0 := hs4.below hb4W
  have hzW := hb4W.size
  have hyW : w4.heap.size < (w8.setCell ⟨w4.heap.size, 4, none⟩ (.slice (some ⟨g, 0, none⟩) n cap)).heap.size := hC0.lt
  have hbW : Below w.heap.size w (w8.setCell ⟨w4.heap.size, 4, none⟩ (.slice (some ⟨g, 0, none⟩) n cap)) := ba_via hb4W (by repeat (first | exact Below.refl _ _ | assumption | refine ba_alloc ?_ _ | refine ba_drew ?_ | refine ba_drewN ?_ _ | refine ba_via (by assumption) ?_ | (refine ba_set ?_ ?_ _; rotate_left; (first | omega | (simp; omega) | simp))))
  generalize w8.setCell ⟨w4.heap.size, 4, none⟩ (.slice (some ⟨g, 0, none⟩) n cap) = W0 at *
  clear h45 h47 h48 hB8 k0 k1 k2 k3 k4 kf4 hz8 hy8 hblk hbw8 hB7 hcw1 hfw1 hcw2 hfw2 hcw4 hfw4 hcw5 hfw5  hbw5 hg how4
  have hww4 : w.heap.size ≤ w4.heap.size := by omega
  have HCT := Lib.hid hctk
  have HLN := Lib.hid hn1
  have HMX := Lib.hid hm1
  have HMK := Lib.hid hk1
  have HC0 := Lib.hid hC0
  have HP0 := Lib.hid hP0
  have HOK := Lib.hid (by simp only [S.bar, Bool.and_eq_true] at h; exact h.2 : S.dimsOk b.dims = true)
  go_loopw [88] (fun i wr => ∃ (j : Nat) (cur' : Array Value), j ≤ n ∧ i = .int .i64 j ∧ Blk wr g 3 cur' ∧ cur'.toList.take n = i64s (S.mulTo b.dims k j) ∧ Exc [g] W0 wr) (fun i _ => n - (intOf i).toNat)
  case atStart => exact ⟨0, cur, Nat.zero_le _, rfl, hG0, by rw [mulTo_zero]; exact HCT.out, Exc.refl _ _⟩
  case round =>
    obtain ⟨j, cur', hj, rfl, hG, htk, hX⟩ := hrel
    have HTK := Lib.hid htk
    have HWR := Lib.hid (hbW.trans (hX.below (by have := hbW.size; omega) (by intro x hx; simp at hx; rw [hx]; omega)))
    clear htk hG0 hC0 hP0 hctk
    have hsz := hX.size
    have hCr : Blk wr w4.heap.size 24 #[.string b.mark, .int .i64 b.size, .int .i64 b.count, .int .i64 b.code, .slice (some ⟨g, 0, none⟩) n cap] := (hX.block _ hyW (by simp; omega)).trans HC0.out
    have hPr : Cells wr w4.heap.size (some ⟨b4, o4, none⟩) ((S.path b).flatMap ptC) := HP0.out.below (hX.below (by omega) (by intro x hx; simp at hx; rw [hx]; exact Nat.le_of_lt hgw))
    have q0 := hCr.cell 0
    have q1 := hCr.cell 1
    have q2 := hCr.cell 2
    have q3 := hCr.cell 3
    have q4 := hCr.cell 4
    simp only [List.getElem?_toArray, List.getElem?_cons_zero, List.getElem?_cons_succ] at q0 q1 q2 q3 q4
    have hgr := hG.lt
    have hcr := hCr.lt
    by_cases hlt : j < n
    · have hjl : j < b.dims.length := by have := HLN.out; omega
      have hjd := dim_bd HOK.out hjl
      have hce : wr.cell? ⟨g, j, none⟩ = some (.int .i64 b.dims[j]) := by
        rw [hG.cell, ← Array.getElem?_toList, ← List.getElem?_take_of_lt hlt, HTK.out, List.getElem?_map, mulTo_get k hjl]; rfl
      have hfe := hG.frozen j
      have hce0 : wr.cell? ⟨g, 0 + j, none⟩ = some (.int .i64 b.dims[j]) := by rw [Nat.zero_add]; exact hce
      have hwk : IntKind.i64.wrap k = k := IntWalk.i64_in _ (by omega)
      have hpb : 1 * 0 ≤ b.dims[j] * k ∧ b.dims[j] * k ≤ 262144 * 255 := ⟨Int.mul_nonneg (by omega) hk.1, Int.mul_le_mul hjd.2 hk.2 hk.1 (by omega)⟩
      have hwp : IntKind.i64.wrap (b.dims[j] * k) = b.dims[j] * k := IntWalk.i64_in _ (by omega)
      have HE := Lib.hid (mulTo_set k hjl)
      generalize hq : b.dims[j] = q at *
      have HQ := Lib.hid hq
      clear hq hjd hpb
      go_wp2
      go_roundw
      case rel =>
        refine ⟨j + 1, _, by omega, by go_num, hG.set j (.int .i64 (q * k)), ?_, hX.set (.inl (by simp)) _⟩
        have := HE.out
        rw [Array.toList_setIfInBounds, List.take_set, HTK.out, ← this, ← List.map_set]
      case measure => simp [intOf]; omega
    · have he : j = n := by omega
      subst he
      have hsl : (b.dims.map (· * k)).length = j := by rw [List.length_map]; exact HLN.out
      have hsc : Cells wr wr.heap.size (some ⟨g, 0, none⟩) (i64s (b.dims.map (· * k))) := .inr ⟨g, 0, rfl, hgr, fun i v hv => by
        have hi : i < j := by
          have := (List.getElem?_eq_some_iff.1 hv).1
          simp at this
          have := HLN.out
          omega
        have hm : S.mulTo b.dims k j = b.dims.map (· * k) := mulTo_full k (by have := HLN.out; omega)
        rw [Nat.zero_add, hG.cell, ← Array.getElem?_toList, ← List.getElem?_take_of_lt hi, HTK.out, hm]
        exact hv⟩
      have HS := Lib.hid (⟨hsl, HMX.out, HMK.out, hsc⟩ : BarAt wr wr.heap.size (some ⟨g, 0, none⟩) j ⟨b.mark, b.size, b.count, b.code, b.dims.map (· * k)⟩)
      clear hsl hsc
      have hk1' : S.bar ⟨b.mark, b.size, b.count, b.code, b.dims.map (· * k)⟩ = false → k ≠ 1 := fun hf h1 => by
        subst h1
        have := scaled_one b
        unfold S.scaled at this
        rw [this, h] at hf
        cases hf
      by_cases hv : S.bar ⟨b.mark, b.size, b.count, b.code, b.dims.map (· * k)⟩ = true
      · have hjs : ∀ k (hk : k < (S.legsOf b.code).length), (S.legsOf b.code)[k].1 < b.dims.length := fun k hk => by have := legs_dim b.code hk; have := bar_head h; omega
        have HBD := Lib.hid (ptAt_bd b HOK.out hjs)
        clear hjs
        go_wp2_with (go_at_call 20; (with_reducible refine (path_yesL ⟨b.mark, b.size, b.count, b.code, b.dims.map (· * k)⟩ (some ⟨g, 0, none⟩) j cap wr.heap.size _ L HL.out (Nat.le_refl _) HS.out hv).mono ?_); rintro e w9 ⟨Aw9, cw9, rfl, how9, hbw9⟩; obtain ⟨hcw9, hfw9⟩ := bcell hbw9)
        obtain ⟨hs9, _, _⟩ := own_cells how9
        obtain ⟨b9, o9, rfl, hb9, _⟩ := hs9.at_ (by rw [flat_len ptC 3 ptC_len, path_length]; omega)
        have hp9 := hPr.below (hbw9.mono (by omega))
        have hz9 := hbw9.size
        clear how9
        go_loopw [121] (fun i wx => ∃ q : Nat, q ≤ L + 1 ∧ i = .int .i64 q ∧ Below w9.heap.size w9 wx) (fun i _ => (L + 1) - (intOf i).toNat)
        case atStart => exact ⟨0, Nat.zero_le _, rfl, Below.refl _ _⟩
        case round =>
          obtain ⟨q, hq, rfl, hbx⟩ := hrel
          by_cases hlt : q < L + 1
          · have hg1 : (S.path b)[q]? = some (S.ptAt b q) := path_get b (by have := HL.out; omega)
            have hg2 : (S.path ⟨b.mark, b.size, b.count, b.code, b.dims.map (· * k)⟩)[q]? = some (S.mul k (S.ptAt b q)) := by
              rw [path_get _ (by have := HL.out; simp only []; omega)]
              exact congrArg some (ptAt_scaled b k q)
            obtain ⟨c1, c2, c3⟩ := (hp9.below (hbx.mono (by omega))).pts hg1
            obtain ⟨d1, d2, d3⟩ := (hs9.below hbx).pts hg2
            have hwi := HBD.out q
            unfold Within at hwi
            have hqi : (q : Int) < ((L + 1 : Nat) : Int) := by omega
            have hwk : IntKind.i64.wrap k = k := IntWalk.i64_in _ (by omega)
            generalize S.ptAt b q = P at *
            have hx1 := mulk_wrap hk (x := P.x) (by omega) (by omega)
            have hx2 := mulk_wrap hk (x := P.y) (by omega) (by omega)
            have hx3 := mulk_wrap hk (x := P.z) (by omega) (by omega)
            simp only [S.mul] at d1 d2 d3
            have hne : ∀ W, (binOp .neq 34 (.agg #[.int .i64 (k * P.x), .int .i64 (k * P.y), .int .i64 (k * P.z)]) (.agg #[.int .i64 (k * P.x), .int .i64 (k * P.y), .int .i64 (k * P.z)])).run Try.prog W = .ok (.bool false) W := fun W => by
              have := run_neq_pt (S.mul k P) (S.mul k P) W
              rw [show S.eqpt (S.mul k P) (S.mul k P) = true by simp [S.eqpt]] at this
              exact this
            have hbx4 : b4 < wr.heap.size := by have := hbx.size; omega
            have hbx9 : b9 < wr.heap.size := by have := hbx.size; omega
            clear hg1 hg2 hwi
            go_wp2
            go_quiet (fail)
            go_wp2
            go_roundw
            case rel => exact ⟨q + 1, by omega, by go_num, ba_drewN (ba_alloc hbx _) _⟩
            case measure => simp [intOf]; omega
          · go_wp2
            go_ret
            exact ⟨rfl, ba_via hbx (ba_via hbw9 HWR.out)⟩
      · have hv' : S.bar ⟨b.mark, b.size, b.count, b.code, b.dims.map (· * k)⟩ = false := by simpa using hv
        have hk2 : decide (1 < k) = true := by have := hk1' hv'; simp at h0 ⊢; omega
        go_wp2_with (go_at_call 20; (with_reducible refine (path_no ⟨b.mark, b.size, b.count, b.code, b.dims.map (· * k)⟩ (some ⟨g, 0, none⟩) j cap wr.heap.size _ (Nat.le_refl _) HS.out hv').mono ?_); rintro e w9 ⟨Aw9, cw9, rfl, how9, hbw9⟩; obtain ⟨hcw9, hfw9⟩ := bcell hbw9)
        go_ret
        exact ⟨rfl, ba_via hbw9 HWR.out⟩

theorem scales_walk (b : Bar) (A : Option Addr) (n c : Nat) (k : Int) (mk : ByteArray) (ct : Int) (w : World) (hA : BarAt w w.heap.size A n b) (hk : 0 ≤ k ∧ k ≤ 255) (hct : 0 ≤ ct ∧ ct ≤ 65535) (hmk : mk.size ≤ 9223372036854775807) :
    Calls Try.prog 7 #[barV b A n c, .int .u8 k, .string mk, .int .u16 ct] w fun e w' => e = .returned (.bool true) ∧ Below w.heap.size w w' := by
  by_cases s : S.short b = true
  · by_cases h0 : (k == 0) = true
    · exact scales_2 b A n c k mk ct _ w (Nat.le_refl _) hA hk hct hmk s h0
    · have h0' : (k == 0) = false := by simpa using h0
      by_cases h6 : 60 < mk.size
      · exact scales_3 b A n c k mk ct _ w (Nat.le_refl _) hA hk hct hmk s h0' h6
      · by_cases h : S.bar b = true
        · by_cases hn : S.isName mk = true
          · exact scales_y b A n c k mk ct _ w (Nat.le_refl _) hA hk hct hmk s h0' (by omega) h hn
          · exact scales_n b A n c k mk ct _ w (Nat.le_refl _) hA hk hct hmk s h0' (by omega) h (by simpa using hn)
        · exact scales_4 b A n c k mk ct _ w (Nat.le_refl _) hA hk hct hmk s h0' (by omega) (by simpa using h)
  · exact scales_1 b A n c k mk ct _ w (Nat.le_refl _) hA hk hct hmk (by simpa using s)
end Go.Proofs.Ytpjdepnbeendcaa
