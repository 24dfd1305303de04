/- The walk of ShapePaths. -/
import Derived.Test.YtpjdepnbeendcaaBoxD
import Derived.Test.YtpjdepnbeendcaaRef12V
import Derived.Deep.RegionWith
set_option linter.unusedVariables false
set_option linter.unusedSimpArgs false
namespace Go.Proofs.Ytpjdepnbeendcaa
open Go.RowKit
theorem leV {B : Nat} {w W : World} (hB : B ≤ w.heap.size) (h : Below w.heap.size w W) : B ≤ W.heap.size := Nat.le_trans hB h.size
def S.eqbox (a b : Bx) : Bool := S.eqpt a.lo b.lo && S.eqpt a.hi b.hi
theorem run_eq_box (a b : Bx) (W : World) : (binOp .eql 62 (boxV a) (boxV b)).run Try.prog W = .ok (.bool (S.eqbox a b)) W := by
  by_cases h1 : a.lo.x = b.lo.x
  · by_cases h2 : a.lo.y = b.lo.y
    · by_cases h3 : a.lo.z = b.lo.z
      · by_cases h4 : a.hi.x = b.hi.x
        · by_cases h5 : a.hi.y = b.hi.y
          · by_cases h6 : a.hi.z = b.hi.z
            · simp [go_sem, S.eqbox, S.eqpt, h1, h2, h3, h4, h5, h6]
            · simp [go_sem, S.eqbox, S.eqpt, h1, h2, h3, h4, h5, h6]
          · simp [go_sem, S.eqbox, S.eqpt, h1, h2, h3, h4, h5]
        · simp [go_sem, S.eqbox, S.eqpt, h1, h2, h3, h4]
      · simp [go_sem, S.eqbox, S.eqpt, h1, h2, h3]
    · simp [go_sem, S.eqbox, S.eqpt, h1, h2]
  · simp [go_sem, S.eqbox, S.eqpt, h1]
theorem eqbox_refl (a : Bx) : S.eqbox a a = true := by simp [S.eqbox, S.eqpt]
set_option maxRecDepth 100000 in
theorem paths_long (b : Bar) (A : Option Addr) (n c : Nat) (B : Nat) (w : World) (hB : B ≤ w.heap.size) (hA : BarAt w B A n b) (hs : S.short b = false) :
    Calls Try.prog 12 #[barV b A n c] w fun e w' => e = .returned (.bool true) ∧ Below w.heap.size w w' := by
  have hln := hA.len
  have hmx := hA.max
  have hmk := hA.mark
  unfold barV
  go_enter Try.func12, Try.ntmps12
  go_wp2_with (first
    | (go_at_call 17; (with_reducible refine (awake12_any _).mono ?_); rintro e w1 ⟨rfl, hbw1⟩; obtain ⟨hcw1, hfw1⟩ := bcell hbw1; have hzw1_0 : w.heap.size < w1.heap.size := lt_via hbw1 (by first | omega | (simp; done) | (simp; omega)))
    | (go_at_call 18; (with_reducible refine (short_any b A n c _ hln hmx hmk).mono ?_); rintro e w2 ⟨rfl, hbw2⟩; obtain ⟨hcw2, hfw2⟩ := bcell hbw2; have hzw2_0 : w.heap.size < w2.heap.size := lt_via hbw2 (by first | omega | (simp; done) | (simp; omega))))
  go_ret
  exact ⟨rfl, (by repeat (first | exact Below.refl _ _ | assumption | refine ba_alloc ?_ _ | refine ba_drew ?_ | refine ba_drewN ?_ _ | refine ba_via (by assumption) ?_ | (refine ba_set ?_ ?_ _; rotate_left; (first | omega | (simp; omega) | simp))))⟩
set_option maxRecDepth 100000 in
set_option maxHeartbeats 2000000 in
theorem paths_no (b : Bar) (A : Option Addr) (n c : Nat) (B : Nat) (w : World) (hB : B ≤ w.heap.size) (hA : BarAt w B A n b) (hs : S.short b = true) (h : S.bar b = false) :
    Calls Try.prog 12 #[barV b A n c] w fun e w' => e = .returned (.bool true) ∧ Below w.heap.size w w' := by
  have hln := hA.len
  have hmx := hA.max
  have hmk := hA.mark
  have HA := Lib.hid hA
  have q := run_eq_box ⟨⟨0, 0, 0⟩, ⟨0, 0, 0⟩⟩ ⟨⟨0, 0, 0⟩, ⟨0, 0, 0⟩⟩
  rw [eqbox_refl] at q
  clear hA
  unfold barV
  go_enter Try.func12, Try.ntmps12
  go_wp2_with (first
    | (go_at_call 17; (with_reducible refine (awake12_any _).mono ?_); rintro e w1 ⟨rfl, hbw1⟩; obtain ⟨hcw1, hfw1⟩ := bcell hbw1; have hzw1_0 : w.heap.size < w1.heap.size := lt_via hbw1 (by first | omega | (simp; done) | (simp; omega)))
    | (go_at_call 18; (with_reducible refine (short_any b A n c _ hln hmx hmk).mono ?_); rintro e w2 ⟨rfl, hbw2⟩; obtain ⟨hcw2, hfw2⟩ := bcell hbw2; have hzw2_0 : w.heap.size < w2.heap.size := lt_via hbw2 (by first | omega | (simp; done) | (simp; omega)))
    | (go_at_call 19; (with_reducible refine (legs_no b A n c B _ (by omega) (BarAt.at_ HA.out hB (by repeat (first | exact Below.refl _ _ | assumption | refine ba_alloc ?_ _ | refine ba_drew ?_ | refine ba_drewN ?_ _ | refine ba_via (by assumption) ?_ | (refine ba_set ?_ ?_ _; rotate_left; (first | omega | (simp; omega) | simp))))) h).mono ?_); rintro e w3 ⟨Aw3, cw3, rfl, how3, hbw3⟩; obtain ⟨hcw3, hfw3⟩ := bcell hbw3; have hzw3_0 : w.heap.size < w3.heap.size := lt_via hbw3 (by first | omega | (simp; done) | (simp; omega)))
    | (go_at_call 20; (with_reducible refine (path_no b A n c B _ (by omega) (BarAt.at_ HA.out hB (by repeat (first | exact Below.refl _ _ | assumption | refine ba_alloc ?_ _ | refine ba_drew ?_ | refine ba_drewN ?_ _ | refine ba_via (by assumption) ?_ | (refine ba_set ?_ ?_ _; rotate_left; (first | omega | (simp; omega) | simp))))) h).mono ?_); rintro e w4 ⟨Aw4, cw4, rfl, how4, hbw4⟩; obtain ⟨hcw4, hfw4⟩ := bcell hbw4; have hzw4_0 : w.heap.size < w4.heap.size := lt_via hbw4 (by first | omega | (simp; done) | (simp; omega)))
    | (go_at_call 52; (with_reducible refine (sbox_no b A n c B _ (by omega) (BarAt.at_ HA.out hB (by repeat (first | exact Below.refl _ _ | assumption | refine ba_alloc ?_ _ | refine ba_drew ?_ | refine ba_drewN ?_ _ | refine ba_via (by assumption) ?_ | (refine ba_set ?_ ?_ _; rotate_left; (first | omega | (simp; omega) | simp))))) h).mono ?_); rintro e w5 ⟨rfl, hbw5⟩; obtain ⟨hcw5, hfw5⟩ := bcell hbw5; have hzw5_0 : w.heap.size < w5.heap.size := lt_via hbw5 (by first | omega | (simp; done) | (simp; omega)))
    | (go_at_call 29; (with_reducible refine (rvalid_any b A n c B _ (by first | omega | (simp; omega)) (BarAt.at_ HA.out hB (by repeat (first | exact Below.refl _ _ | assumption | refine ba_alloc ?_ _ | refine ba_drew ?_ | refine ba_drewN ?_ _ | refine ba_via (by assumption) ?_ | (refine ba_set ?_ ?_ _; rotate_left; (first | omega | (simp; omega) | simp)))))).mono ?_); rintro e w6 ⟨rfl, hbw6⟩; obtain ⟨hcw6, hfw6⟩ := bcell hbw6; have hzw6_0 : w.heap.size < w6.heap.size := lt_via hbw6 (by first | omega | (simp; done) | (simp; omega)); have hyw6_0 : w5.heap.size < w6.heap.size := lt_via hbw6 (by first | omega | (simp; done) | (simp; omega)))
    | (go_at_call 21; (with_reducible refine (valid_any b A n c B _ (by first | omega | (simp; omega)) (BarAt.at_ HA.out hB (by repeat (first | exact Below.refl _ _ | assumption | refine ba_alloc ?_ _ | refine ba_drew ?_ | refine ba_drewN ?_ _ | refine ba_via (by assumption) ?_ | (refine ba_set ?_ ?_ _; rotate_left; (first | omega | (simp; omega) | simp)))))).mono ?_); rintro e w7 ⟨rfl, hbw7⟩; obtain ⟨hcw7, hfw7⟩ := bcell hbw7; have hzw7_0 : w.heap.size < w7.heap.size := lt_via hbw7 (by first | omega | (simp; done) | (simp; omega)); have hyw7_0 : w5.heap.size < w7.heap.size := lt_via hbw7 (by first | omega | (simp; done) | (simp; omega))))
  go_ret
  exact ⟨rfl, (by repeat (first | exact Below.refl _ _ | assumption | refine ba_alloc ?_ _ | refine ba_drew ?_ | refine ba_drewN ?_ _ | refine ba_via (by assumption) ?_ | (refine ba_set ?_ ?_ _; rotate_left; (first | omega | (simp; omega) | simp))))⟩
theorem box_hull (b : Bar) : S.hull (S.ptBox ⟨0, 0, 0⟩) ((S.path b).map S.ptBox) = S.box b := rfl
theorem eqi_self (l : List Int) : S.eqi l l = true := by simp [S.eqi]
theorem eqp_self (l : List Pt) : S.eqp l l = true := eqp_iff.2 rfl
set_option maxRecDepth 100000 in
set_option maxHeartbeats 4000000 in
theorem paths_yes (b : Bar) (A : Option Addr) (n c : Nat) (B : Nat) (w : World) (hB : B ≤ w.heap.size) (hA : BarAt w B A n b) (hs : S.short b = true) (h : S.bar b = true) :
    Calls Try.prog 12 #[barV b A n c] w fun e w' => e = .returned (.bool true) ∧ Below w.heap.size w w' := by
  have hln := hA.len
  have hmx := hA.max
  have hmk := hA.mark
  have hl6 := legs_len b.code
  have HA := Lib.hid hA
  have HLL := Lib.hid (show (S.legLens b).length = (S.legsOf b.code).length by simp [S.legLens])
  have HPL := Lib.hid (path_length b)
  have HP0 := Lib.hid (show (S.path b)[0]? = some ⟨0, 0, 0⟩ from path_get b (Nat.zero_le _))
  have HX := Lib.hid (fun (B : Nat) (w : World) (hB : B ≤ w.heap.size) (hA : BarAt w B A n b) => sbox_yes b A n c B w hB hA h)
  have HH := Lib.hid (fun (A : Option Addr) (n c : Nat) (B : Nat) (w : World) (hn : (S.path b).length = n) (hm : n ≤ 1000000) (hB : B ≤ w.heap.size) (hs : Cells w B A ((S.path b).flatMap ptC)) => rhull_any A n c (S.path b) ⟨0, 0, 0⟩ B w hn hm hB hs HP0.out)
  have HQ := Lib.hid (box_hull b)
  rw [HQ.out] at HH
  generalize S.box b = X at *
  have q := run_eq_box X X
  rw [eqbox_refl] at q
  have HE := Lib.hid (fun (A A' : Option Addr) (n c c' : Nat) (B : Nat) (w : World) (hB : B ≤ w.heap.size) (hn : (S.legLens b).length = n) (hn' : n ≤ 9223372036854775807) (hx : Cells w B A (i64s (S.legLens b))) (hy : Cells w B A' (i64s (S.legLens b))) => eqi_self (S.legLens b) ▸ equal_any A A' n n c c' _ _ B w hB hn hn hn' hn' hx hy)
  have HF := Lib.hid (fun (A A' : Option Addr) (n c c' : Nat) (B : Nat) (w : World) (hB : B ≤ w.heap.size) (hn : (S.path b).length = n) (hn' : n ≤ 9223372036854775807) (hx : Cells w B A ((S.path b).flatMap ptC)) (hy : Cells w B A' ((S.path b).flatMap ptC)) => eqp_self (S.path b) ▸ equalp_any A A' n n c c' _ _ B w hB hn hn hn' hn' hx hy)
  clear hA
  generalize hL : (S.legsOf b.code).length = L at *
  have HL := Lib.hid hL
  clear hL
  unfold barV
  go_enter Try.func12, Try.ntmps12
  go_wp2_with (first
    | (go_at_call 17; (with_reducible refine (awake12_any _).mono ?_); rintro e w1 ⟨rfl, hbw1⟩; obtain ⟨hcw1, hfw1⟩ := bcell hbw1; have hzw1_0 : w.heap.size < w1.heap.size := lt_via hbw1 (by first | omega | (simp; done) | (simp; omega)))
    | (go_at_call 18; (with_reducible refine (short_any b A n c _ hln hmx hmk).mono ?_); rintro e w2 ⟨rfl, hbw2⟩; obtain ⟨hcw2, hfw2⟩ := bcell hbw2; have hzw2_0 : w.heap.size < w2.heap.size := lt_via hbw2 (by first | omega | (simp; done) | (simp; omega)))
    | ((go_at_call 19; (with_reducible refine (legs_yesL b A n c B _ L HL.out (by omega) (BarAt.at_ HA.out hB (by repeat (first | exact Below.refl _ _ | assumption | refine ba_alloc ?_ _ | refine ba_drew ?_ | refine ba_drewN ?_ _ | refine ba_via (by assumption) ?_ | (refine ba_set ?_ ?_ _; rotate_left; (first | omega | (simp; omega) | simp))))) h).mono ?_); rintro e w3 ⟨Aw3, cw3, rfl, how3, hbw3⟩; obtain ⟨hcw3, hfw3⟩ := bcell hbw3; have hzw3_0 : w.heap.size < w3.heap.size := lt_via hbw3 (by first | omega | (simp; done) | (simp; omega)))
       obtain ⟨hs3, _, _⟩ := own_cells how3)
    | ((go_at_call 20; (with_reducible refine (path_yesL b A n c B _ L HL.out (by omega) (BarAt.at_ HA.out hB (by repeat (first | exact Below.refl _ _ | assumption | refine ba_alloc ?_ _ | refine ba_drew ?_ | refine ba_drewN ?_ _ | refine ba_via (by assumption) ?_ | (refine ba_set ?_ ?_ _; rotate_left; (first | omega | (simp; omega) | simp))))) h).mono ?_); rintro e w4 ⟨Aw4, cw4, rfl, how4, hbw4⟩; obtain ⟨hcw4, hfw4⟩ := bcell hbw4; have hzw4_0 : w.heap.size < w4.heap.size := lt_via hbw4 (by first | omega | (simp; done) | (simp; omega)))
       obtain ⟨hs4, _, _⟩ := own_cells how4)
    | (go_at_call 52; (with_reducible refine (HX.out B _ (by omega) (BarAt.at_ HA.out hB (by repeat (first | exact Below.refl _ _ | assumption | refine ba_alloc ?_ _ | refine ba_drew ?_ | refine ba_drewN ?_ _ | refine ba_via (by assumption) ?_ | (refine ba_set ?_ ?_ _; rotate_left; (first | omega | (simp; omega) | simp)))))).mono ?_); rintro e w5 ⟨rfl, hbw5⟩; obtain ⟨hcw5, hfw5⟩ := bcell hbw5; have hzw5_0 : w.heap.size < w5.heap.size := lt_via hbw5 (by first | omega | (simp; done) | (simp; omega)))
    | (go_at_call 29; (with_reducible refine (rvalid_any b A n c B _ (by first | omega | (simp; omega)) (BarAt.at_ HA.out hB (by repeat (first | exact Below.refl _ _ | assumption | refine ba_alloc ?_ _ | refine ba_drew ?_ | refine ba_drewN ?_ _ | refine ba_via (by assumption) ?_ | (refine ba_set ?_ ?_ _; rotate_left; (first | omega | (simp; omega) | simp)))))).mono ?_); rintro e w6 ⟨rfl, hbw6⟩; obtain ⟨hcw6, hfw6⟩ := bcell hbw6; have hzw6_0 : w.heap.size < w6.heap.size := lt_via hbw6 (by first | omega | (simp; done) | (simp; omega)); have hyw6_0 : w5.heap.size < w6.heap.size := lt_via hbw6 (by first | omega | (simp; done) | (simp; omega))))
  clear how3 how4
  have hD6 : Blk w6 w.heap.size 24 #[.string b.mark, .int .i64 b.size, .int .i64 b.count, .int .i64 b.code, .slice A n c] := ((((((Blk.new w _ _).via hbw1).via hbw2).via hbw3).via hbw4).via hbw5).alloc _ |>.via hbw6
  have hE6 : Blk w6 w5.heap.size 62 #[.int .i64 X.lo.x, .int .i64 X.lo.y, .int .i64 X.lo.z, .int .i64 X.hi.x, .int .i64 X.hi.y, .int .i64 X.hi.z] := (Blk.new w5 _ _).via hbw6
  have d0 := hD6.cell 0
  have d1 := hD6.cell 1
  have d2 := hD6.cell 2
  have d3 := hD6.cell 3
  have d4 := hD6.cell 4
  simp only [List.getElem?_toArray, List.getElem?_cons_zero, List.getElem?_cons_succ] at d0 d1 d2 d3 d4
  clear hcw1 hfw1 hcw2 hfw2 hcw3 hfw3 hcw4 hfw4 hcw5 hfw5 hcw6 hfw6
  go_region_with (first
    | (go_at_call 21; (with_reducible refine (valid_any b A n c B _ (leV hB (by repeat (first | exact Below.refl _ _ | assumption | refine ba_alloc ?_ _ | refine ba_drew ?_ | refine ba_drewN ?_ _ | refine ba_via (by assumption) ?_ | (refine ba_set ?_ ?_ _; rotate_left; (first | omega | (simp; omega) | simp))))) (BarAt.at_ HA.out hB (by repeat (first | exact Below.refl _ _ | assumption | refine ba_alloc ?_ _ | refine ba_drew ?_ | refine ba_drewN ?_ _ | refine ba_via (by assumption) ?_ | (refine ba_set ?_ ?_ _; rotate_left; (first | omega | (simp; omega) | simp)))))).mono ?_); rintro e w7 ⟨rfl, hbw7⟩; have hD : Blk w7 w.heap.size 24 #[.string b.mark, .int .i64 b.size, .int .i64 b.count, .int .i64 b.code, .slice A n c] := Blk.via (by exact hD6) hbw7; have hE : Blk w7 w5.heap.size 62 #[.int .i64 X.lo.x, .int .i64 X.lo.y, .int .i64 X.lo.z, .int .i64 X.hi.x, .int .i64 X.hi.y, .int .i64 X.hi.z] := Blk.via (by exact hE6) hbw7; have d0 := hD.cell 0; have d1 := hD.cell 1; have d2 := hD.cell 2; have d3 := hD.cell 3; have d4 := hD.cell 4; have x0 := hE.cell 0; have x1 := hE.cell 1; have x2 := hE.cell 2; have x3 := hE.cell 3; have x4 := hE.cell 4; have x5 := hE.cell 5; simp only [List.getElem?_toArray, List.getElem?_cons_zero, List.getElem?_cons_succ] at d0 d1 d2 d3 d4 x0 x1 x2 x3 x4 x5)
    | (go_at_call 53; (with_reducible refine (rlegs_yes b A n c B _ (leV hB (by repeat (first | exact Below.refl _ _ | assumption | refine ba_alloc ?_ _ | refine ba_drew ?_ | refine ba_drewN ?_ _ | refine ba_via (by assumption) ?_ | (refine ba_set ?_ ?_ _; rotate_left; (first | omega | (simp; omega) | simp))))) (BarAt.at_ HA.out hB (by repeat (first | exact Below.refl _ _ | assumption | refine ba_alloc ?_ _ | refine ba_drew ?_ | refine ba_drewN ?_ _ | refine ba_via (by assumption) ?_ | (refine ba_set ?_ ?_ _; rotate_left; (first | omega | (simp; omega) | simp))))) h L HL.out).mono ?_); rintro e w8 ⟨Aw8, cw8, rfl, how8, hbw8⟩; have hD : Blk w8 w.heap.size 24 #[.string b.mark, .int .i64 b.size, .int .i64 b.count, .int .i64 b.code, .slice A n c] := Blk.via (by assumption) hbw8; have hE : Blk w8 w5.heap.size 62 #[.int .i64 X.lo.x, .int .i64 X.lo.y, .int .i64 X.lo.z, .int .i64 X.hi.x, .int .i64 X.hi.y, .int .i64 X.hi.z] := Blk.via (by assumption) hbw8; have d0 := hD.cell 0; have d1 := hD.cell 1; have d2 := hD.cell 2; have d3 := hD.cell 3; have d4 := hD.cell 4; have x0 := hE.cell 0; have x1 := hE.cell 1; have x2 := hE.cell 2; have x3 := hE.cell 3; have x4 := hE.cell 4; have x5 := hE.cell 5; simp only [List.getElem?_toArray, List.getElem?_cons_zero, List.getElem?_cons_succ] at d0 d1 d2 d3 d4 x0 x1 x2 x3 x4 x5; obtain ⟨hs8, _, _⟩ := own_cells how8)
    | (go_at_call 24; (with_reducible refine (HE.out Aw3 Aw8 L cw3 cw8 w8.heap.size _ (Nat.le_refl _) HLL.out (by omega) ((hs3.below (by repeat (first | exact Below.refl _ _ | assumption | refine ba_alloc ?_ _ | refine ba_drew ?_ | refine ba_drewN ?_ _ | refine ba_via (by assumption) ?_ | (refine ba_set ?_ ?_ _; rotate_left; (first | omega | (simp; omega) | simp))))).mono ((by repeat (first | exact Below.refl _ _ | assumption | refine ba_alloc ?_ _ | refine ba_drew ?_ | refine ba_drewN ?_ _ | refine ba_via (by assumption) ?_ | (refine ba_set ?_ ?_ _; rotate_left; (first | omega | (simp; omega) | simp)))) : Below w3.heap.size w3 w8).size) hs8).mono ?_); rintro e w9 ⟨rfl, hbw9⟩; have hD : Blk w9 w.heap.size 24 #[.string b.mark, .int .i64 b.size, .int .i64 b.count, .int .i64 b.code, .slice A n c] := Blk.via (by assumption) hbw9; have hE : Blk w9 w5.heap.size 62 #[.int .i64 X.lo.x, .int .i64 X.lo.y, .int .i64 X.lo.z, .int .i64 X.hi.x, .int .i64 X.hi.y, .int .i64 X.hi.z] := Blk.via (by assumption) hbw9; have d0 := hD.cell 0; have d1 := hD.cell 1; have d2 := hD.cell 2; have d3 := hD.cell 3; have d4 := hD.cell 4; have x0 := hE.cell 0; have x1 := hE.cell 1; have x2 := hE.cell 2; have x3 := hE.cell 3; have x4 := hE.cell 4; have x5 := hE.cell 5; simp only [List.getElem?_toArray, List.getElem?_cons_zero, List.getElem?_cons_succ] at d0 d1 d2 d3 d4 x0 x1 x2 x3 x4 x5)
    | (go_at_call 54; (with_reducible refine (rpath_yes b A n c B _ (leV hB (by repeat (first | exact Below.refl _ _ | assumption | refine ba_alloc ?_ _ | refine ba_drew ?_ | refine ba_drewN ?_ _ | refine ba_via (by assumption) ?_ | (refine ba_set ?_ ?_ _; rotate_left; (first | omega | (simp; omega) | simp))))) (BarAt.at_ HA.out hB (by repeat (first | exact Below.refl _ _ | assumption | refine ba_alloc ?_ _ | refine ba_drew ?_ | refine ba_drewN ?_ _ | refine ba_via (by assumption) ?_ | (refine ba_set ?_ ?_ _; rotate_left; (first | omega | (simp; omega) | simp))))) h L HL.out).mono ?_); rintro e w10 ⟨Aw10, cw10, rfl, how10, hbw10⟩; have hD : Blk w10 w.heap.size 24 #[.string b.mark, .int .i64 b.size, .int .i64 b.count, .int .i64 b.code, .slice A n c] := Blk.via (by assumption) hbw10; have hE : Blk w10 w5.heap.size 62 #[.int .i64 X.lo.x, .int .i64 X.lo.y, .int .i64 X.lo.z, .int .i64 X.hi.x, .int .i64 X.hi.y, .int .i64 X.hi.z] := Blk.via (by assumption) hbw10; have d0 := hD.cell 0; have d1 := hD.cell 1; have d2 := hD.cell 2; have d3 := hD.cell 3; have d4 := hD.cell 4; have x0 := hE.cell 0; have x1 := hE.cell 1; have x2 := hE.cell 2; have x3 := hE.cell 3; have x4 := hE.cell 4; have x5 := hE.cell 5; simp only [List.getElem?_toArray, List.getElem?_cons_zero, List.getElem?_cons_succ] at d0 d1 d2 d3 d4 x0 x1 x2 x3 x4 x5; obtain ⟨hs10, _, _⟩ := own_cells how10)
    | (go_at_call 31; (with_reducible refine (HF.out Aw4 Aw10 (L + 1) cw4 cw10 w10.heap.size _ (Nat.le_refl _) (by have := HPL.out; omega) (by omega) ((hs4.below (by repeat (first | exact Below.refl _ _ | assumption | refine ba_alloc ?_ _ | refine ba_drew ?_ | refine ba_drewN ?_ _ | refine ba_via (by assumption) ?_ | (refine ba_set ?_ ?_ _; rotate_left; (first | omega | (simp; omega) | simp))))).mono ((by repeat (first | exact Below.refl _ _ | assumption | refine ba_alloc ?_ _ | refine ba_drew ?_ | refine ba_drewN ?_ _ | refine ba_via (by assumption) ?_ | (refine ba_set ?_ ?_ _; rotate_left; (first | omega | (simp; omega) | simp)))) : Below w4.heap.size w4 w10).size) hs10).mono ?_); rintro e w11 ⟨rfl, hbw11⟩; have hD : Blk w11 w.heap.size 24 #[.string b.mark, .int .i64 b.size, .int .i64 b.count, .int .i64 b.code, .slice A n c] := Blk.via (by assumption) hbw11; have hE : Blk w11 w5.heap.size 62 #[.int .i64 X.lo.x, .int .i64 X.lo.y, .int .i64 X.lo.z, .int .i64 X.hi.x, .int .i64 X.hi.y, .int .i64 X.hi.z] := Blk.via (by assumption) hbw11; have d0 := hD.cell 0; have d1 := hD.cell 1; have d2 := hD.cell 2; have d3 := hD.cell 3; have d4 := hD.cell 4; have x0 := hE.cell 0; have x1 := hE.cell 1; have x2 := hE.cell 2; have x3 := hE.cell 3; have x4 := hE.cell 4; have x5 := hE.cell 5; simp only [List.getElem?_toArray, List.getElem?_cons_zero, List.getElem?_cons_succ] at d0 d1 d2 d3 d4 x0 x1 x2 x3 x4 x5)
    | (go_at_call 55; (with_reducible refine (HH.out Aw10 (L + 1) cw10 w10.heap.size _ (by have := HPL.out; omega) (by omega) (Nat.le_refl _) hs10).mono ?_); rintro e w12 ⟨rfl, hbw12⟩; have hD : Blk w12 w.heap.size 24 #[.string b.mark, .int .i64 b.size, .int .i64 b.count, .int .i64 b.code, .slice A n c] := Blk.via (by assumption) hbw12; have hE : Blk w12 w5.heap.size 62 #[.int .i64 X.lo.x, .int .i64 X.lo.y, .int .i64 X.lo.z, .int .i64 X.hi.x, .int .i64 X.hi.y, .int .i64 X.hi.z] := Blk.via (by assumption) hbw12; have d0 := hD.cell 0; have d1 := hD.cell 1; have d2 := hD.cell 2; have d3 := hD.cell 3; have d4 := hD.cell 4; have x0 := hE.cell 0; have x1 := hE.cell 1; have x2 := hE.cell 2; have x3 := hE.cell 3; have x4 := hE.cell 4; have x5 := hE.cell 5; simp only [List.getElem?_toArray, List.getElem?_cons_zero, List.getElem?_cons_succ] at d0 d1 d2 d3 d4 x0 x1 x2 x3 x4 x5))
  all_goals (
    go_wp2
    go_ret
    exact ⟨rfl, (by repeat (first | exact Below.refl _ _ | assumption | refine ba_alloc ?_ _ | refine ba_drew ?_ | refine ba_drewN ?_ _ | refine ba_via (by assumption) ?_ | (refine ba_set ?_ ?_ _; rotate_left; (first | omega | (simp; omega) | simp))))⟩)
theorem paths_walk (b : Bar) (A : Option Addr) (n c : Nat) (w : World) (hA : BarAt w w.heap.size A n b) :
    Calls Try.prog 12 #[barV b A n c] w fun e w' => e = .returned (.bool true) ∧ Below w.heap.size w w' := by
  cases hs : S.short b
  · exact paths_long b A n c _ w (Nat.le_refl _) hA hs
  · cases h : S.bar b
    · exact paths_no b A n c _ w (Nat.le_refl _) hA hs h
    · exact paths_yes b A n c _ w (Nat.le_refl _) hA hs h
end Go.Proofs.Ytpjdepnbeendcaa
