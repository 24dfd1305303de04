/- The walk of ShapeBoxes (printed by tools/gen_boxes.py). -/
import Derived.Test.YtpjdepnbeendcaaSpecHull
import Derived.Test.YtpjdepnbeendcaaLaw12P
set_option linter.unusedVariables false
set_option linter.unusedSimpArgs false
namespace Go.Proofs.Ytpjdepnbeendcaa
open Go.RowKit
theorem bindex_true (g n c : Nat) (w : World) (hn : n ≤ 1000000) (hc : ∀ j, j < n → w.cell? ⟨g, j, none⟩ = some (.bool true)) :
    Calls Try.prog 78 #[.slice (some ⟨g, 0, none⟩) n c, .bool false] w fun e w' => e = .returned (.int .i64 (-1)) ∧ w = w' := by
  have HC := Lib.hid hc
  clear hc
  go_enter Try.func78, Try.ntmps78
  go_wp2
  go_loop [8] (fun i => ∃ k : Nat, k ≤ n ∧ i = .int .i64 k) (fun i => n - (intOf i).toNat)
  case atStart => exact ⟨0, Nat.zero_le _, rfl⟩
  case round =>
    obtain ⟨k, hk, rfl⟩ := hrel
    by_cases hlt : k < n
    · have hck := HC.out k hlt
      go_wp2
      go_round
      case rel => exact ⟨k + 1, by omega, by go_num⟩
      case measure => simp [intOf]; omega
    · go_wp2
      go_ret
      exact ⟨rfl, rfl⟩
theorem bcontains_true (g n c : Nat) (w : World) (hn : n ≤ 1000000) (hc : ∀ j, j < n → w.cell? ⟨g, j, none⟩ = some (.bool true)) :
    Calls Try.prog 56 #[.slice (some ⟨g, 0, none⟩) n c, .bool false] w fun e w' => e = .returned (.bool false) ∧ w = w' := by
  have HC := Lib.hid hc
  clear hc
  go_enter Try.func56, Try.ntmps56
  go_wp2_with (go_at_call 78; (with_reducible refine (bindex_true g n c _ hn HC.out).mono ?_); rintro e w' ⟨rfl, rfl⟩)
  go_ret
  exact ⟨rfl, rfl⟩
set_option maxRecDepth 100000 in
theorem boxes_long (b : Bar) (A : Option Addr) (n c : Nat) (B : Nat) (w : World) (hB : B ≤ w.heap.size) (hA : BarAt w B A n b) (hs : S.short b = false) :
    Calls Try.prog 13 #[barV b A n c] w fun e w' => e = .returned (.bool true) ∧ Below w.heap.size w w' := by
  have hln := hA.len
  have hmx := hA.max
  have hmk := hA.mark
  have HA := Lib.hid hA
  unfold barV
  go_enter Try.func13, Try.ntmps13
  go_wp2_with (first
    | (go_at_call 17; (with_reducible refine (awake12_any _).mono ?_); rintro e w1 ⟨rfl, hbw1⟩; obtain ⟨hcw1, hfw1⟩ := bcell hbw1; have hzw1_0 : w.heap.size < w1.heap.size := lt_via hbw1 (by first | omega | (simp; done) | (simp; omega)))
    | (go_at_call 18; (with_reducible refine (short_any b A n c _ hln hmx hmk).mono ?_); rintro e w2 ⟨rfl, hbw2⟩; obtain ⟨hcw2, hfw2⟩ := bcell hbw2; have hzw2_0 : w.heap.size < w2.heap.size := lt_via hbw2 (by first | omega | (simp; done) | (simp; omega))))
  go_ret
  exact ⟨rfl, (by repeat (first | exact Below.refl _ _ | assumption | refine ba_alloc ?_ _ | refine ba_drew ?_ | refine ba_drewN ?_ _ | refine ba_via (by assumption) ?_ | (refine ba_set ?_ ?_ _; rotate_left; (first | omega | (simp; omega) | simp))))⟩
set_option maxRecDepth 100000 in
set_option maxHeartbeats 2000000 in
theorem boxes_no (b : Bar) (A : Option Addr) (n c : Nat) (B : Nat) (w : World) (hB : B ≤ w.heap.size) (hA : BarAt w B A n b) (hs : S.short b = true) (h : S.bar b = false) :
    Calls Try.prog 13 #[barV b A n c] w fun e w' => e = .returned (.bool true) ∧ Below w.heap.size w w' := by
  have hln := hA.len
  have hmx := hA.max
  have hmk := hA.mark
  have HA := Lib.hid hA
  have q := run_eq_box ⟨⟨0, 0, 0⟩, ⟨0, 0, 0⟩⟩ ⟨⟨0, 0, 0⟩, ⟨0, 0, 0⟩⟩
  rw [eqbox_refl] at q
  clear hA
  unfold barV
  go_enter Try.func13, Try.ntmps13
  go_wp2_with (first
    | (go_at_call 17; (with_reducible refine (awake12_any _).mono ?_); rintro e w1 ⟨rfl, hbw1⟩; obtain ⟨hcw1, hfw1⟩ := bcell hbw1; have hzw1_0 : w.heap.size < w1.heap.size := lt_via hbw1 (by first | omega | (simp; done) | (simp; omega)))
    | (go_at_call 18; (with_reducible refine (short_any b A n c _ hln hmx hmk).mono ?_); rintro e w2 ⟨rfl, hbw2⟩; obtain ⟨hcw2, hfw2⟩ := bcell hbw2; have hzw2_0 : w.heap.size < w2.heap.size := lt_via hbw2 (by first | omega | (simp; done) | (simp; omega)))
    | (go_at_call 52; (with_reducible refine (sbox_no b A n c B _ (by omega) (BarAt.at_ HA.out hB (by repeat (first | exact Below.refl _ _ | assumption | refine ba_alloc ?_ _ | refine ba_drew ?_ | refine ba_drewN ?_ _ | refine ba_via (by assumption) ?_ | (refine ba_set ?_ ?_ _; rotate_left; (first | omega | (simp; omega) | simp))))) h).mono ?_); rintro e w3 ⟨rfl, hbw3⟩; obtain ⟨hcw3, hfw3⟩ := bcell hbw3; have hzw3_0 : w.heap.size < w3.heap.size := lt_via hbw3 (by first | omega | (simp; done) | (simp; omega)))
    | (go_at_call 20; (with_reducible refine (path_no b A n c B _ (leV hB (by repeat (first | exact Below.refl _ _ | assumption | refine ba_alloc ?_ _ | refine ba_drew ?_ | refine ba_drewN ?_ _ | refine ba_via (by assumption) ?_ | (refine ba_set ?_ ?_ _; rotate_left; (first | omega | (simp; omega) | simp))))) (BarAt.at_ HA.out hB (by repeat (first | exact Below.refl _ _ | assumption | refine ba_alloc ?_ _ | refine ba_drew ?_ | refine ba_drewN ?_ _ | refine ba_via (by assumption) ?_ | (refine ba_set ?_ ?_ _; rotate_left; (first | omega | (simp; omega) | simp))))) h).mono ?_); rintro e w4 ⟨Aw4, cw4, rfl, how4, hbw4⟩; obtain ⟨hcw4, hfw4⟩ := bcell hbw4; have hzw4_0 : w.heap.size < w4.heap.size := lt_via hbw4 (by first | omega | (simp; done) | (simp; omega)); have hyw4_0 : w3.heap.size < w4.heap.size := lt_via hbw4 (by first | omega | (simp; done) | (simp; omega))))
  go_ret
  exact ⟨rfl, (by repeat (first | exact Below.refl _ _ | assumption | refine ba_alloc ?_ _ | refine ba_drew ?_ | refine ba_drewN ?_ _ | refine ba_via (by assumption) ?_ | (refine ba_set ?_ ?_ _; rotate_left; (first | omega | (simp; omega) | simp))))⟩
set_option maxRecDepth 100000 in
set_option maxHeartbeats 8000000 in
theorem boxes_yes (b : Bar) (A : Option Addr) (n c : Nat) (B : Nat) (w : World) (hB : B ≤ w.heap.size) (hA : BarAt w B A n b) (hs : S.short b = true) (h : S.bar b = true) :
    Calls Try.prog 13 #[barV b A n c] w fun e w' => e = .returned (.bool true) ∧ Below w.heap.size w w' := by
  have hln := hA.len
  have hmx := hA.max
  have hmk := hA.mark
  have HA := Lib.hid hA
  have hl6 := legs_len b.code
  have HPG := Lib.hid (fun k hk => path_get b (k := k) hk)
  have HX := Lib.hid (fun (B : Nat) (w : World) (hB : B ≤ w.heap.size) (hA : BarAt w B A n b) => sbox_yes b A n c B w hB hA h)
  have HIN := Lib.hid (fun k (hk : k ≤ (S.legsOf b.code).length) => box_in b (List.mem_of_getElem? (path_get b hk)))
  have HTC := Lib.hid (fun j hj => box_touched b j hj)
  clear hA
  generalize S.box b = X at *
  generalize hL : (S.legsOf b.code).length = L at *
  have HL := Lib.hid hL
  clear hL
  unfold barV
  go_enter Try.func13, Try.ntmps13
  go_wp2_with (first
    | (go_at_call 17; (with_reducible refine (awake12_any _).mono ?_); rintro e w1 ⟨rfl, hbw1⟩; obtain ⟨hcw1, hfw1⟩ := bcell hbw1; have hzw1_0 : w.heap.size < w1.heap.size := lt_via hbw1 (by first | omega | (simp; done) | (simp; omega)))
    | (go_at_call 18; (with_reducible refine (short_any b A n c _ hln hmx hmk).mono ?_); rintro e w2 ⟨rfl, hbw2⟩; obtain ⟨hcw2, hfw2⟩ := bcell hbw2; have hzw2_0 : w.heap.size < w2.heap.size := lt_via hbw2 (by first | omega | (simp; done) | (simp; omega)))
    | (go_at_call 52; (with_reducible refine (HX.out B _ (by omega) (BarAt.at_ HA.out hB (by repeat (first | exact Below.refl _ _ | assumption | refine ba_alloc ?_ _ | refine ba_drew ?_ | refine ba_drewN ?_ _ | refine ba_via (by assumption) ?_ | (refine ba_set ?_ ?_ _; rotate_left; (first | omega | (simp; omega) | simp)))))).mono ?_); rintro e w3 ⟨rfl, hbw3⟩; obtain ⟨hcw3, hfw3⟩ := bcell hbw3; have hzw3_0 : w.heap.size < w3.heap.size := lt_via hbw3 (by first | omega | (simp; done) | (simp; omega)))
    | ((go_at_call 20; (with_reducible refine (path_yesL b A n c B _ L HL.out (leV hB (by repeat (first | exact Below.refl _ _ | assumption | refine ba_alloc ?_ _ | refine ba_drew ?_ | refine ba_drewN ?_ _ | refine ba_via (by assumption) ?_ | (refine ba_set ?_ ?_ _; rotate_left; (first | omega | (simp; omega) | simp))))) (BarAt.at_ HA.out hB (by repeat (first | exact Below.refl _ _ | assumption | refine ba_alloc ?_ _ | refine ba_drew ?_ | refine ba_drewN ?_ _ | refine ba_via (by assumption) ?_ | (refine ba_set ?_ ?_ _; rotate_left; (first | omega | (simp; omega) | simp))))) h).mono ?_); rintro e w4 ⟨Aw4, cw4, rfl, how4, hbw4⟩; obtain ⟨hcw4, hfw4⟩ := bcell hbw4; have hzw4_0 : w.heap.size < w4.heap.size := lt_via hbw4 (by first | omega | (simp; done) | (simp; omega)); have hyw4_0 : w3.heap.size < w4.heap.size := lt_via hbw4 (by first | omega | (simp; done) | (simp; omega)))
       obtain ⟨hs4, _, _⟩ := own_cells how4
       obtain ⟨b4, o4, rfl, hb4, _⟩ := hs4.at_ (by rw [flat_len ptC 3 ptC_len, path_length]; omega)))
  have hW : Below w.heap.size w (w4.alloc (.cells #[.bool false, .bool false, .bool false, .bool false, .bool false, .bool false] 68)) := (by repeat (first | exact Below.refl _ _ | assumption | refine ba_alloc ?_ _ | refine ba_drew ?_ | refine ba_drewN ?_ _ | refine ba_via (by assumption) ?_ | (refine ba_set ?_ ?_ _; rotate_left; (first | omega | (simp; omega) | simp))))
  have hE0 : Blk (w4.alloc (.cells #[.bool false, .bool false, .bool false, .bool false, .bool false, .bool false] 68)) w3.heap.size 62 #[.int .i64 X.lo.x, .int .i64 X.lo.y, .int .i64 X.lo.z, .int .i64 X.hi.x, .int .i64 X.hi.y, .int .i64 X.hi.z] := ((Blk.new w3 _ _).via hbw4).alloc _
  have hK0 : Blk (w4.alloc (.cells #[.bool false, .bool false, .bool false, .bool false, .bool false, .bool false] 68)) w4.heap.size 68 #[.bool false, .bool false, .bool false, .bool false, .bool false, .bool false] := Blk.new _ _ _
  have hP0 := hs4.alloc (Nat.le_refl _) (.cells #[.bool false, .bool false, .bool false, .bool false, .bool false, .bool false] 68)
  have hz34 : w3.heap.size < w4.heap.size := by omega
  have hzW : (w4.alloc (.cells #[.bool false, .bool false, .bool false, .bool false, .bool false, .bool false] 68)).heap.size = w4.heap.size + 1 := by simp
  have hw4 : w.heap.size ≤ w4.heap.size := by omega
  have HE0 := Lib.hid hE0
  clear hcw1 hfw1 hcw2 hfw2 hcw3 hfw3 hcw4 hfw4 how4 hE0 hs4 hbw1 hbw2 hbw3 hbw4
  generalize w4.alloc (.cells #[.bool false, .bool false, .bool false, .bool false, .bool false, .bool false] 68) = W0 at *
  go_loopw [44] (fun i wr => ∃ k : Nat, k ≤ L + 1 ∧ i = .int .i64 k ∧ Blk wr w4.heap.size 68 #[.bool (S.tchd X (S.path b) 0 k), .bool (S.tchd X (S.path b) 1 k), .bool (S.tchd X (S.path b) 2 k), .bool (S.tchd X (S.path b) 3 k), .bool (S.tchd X (S.path b) 4 k), .bool (S.tchd X (S.path b) 5 k)] ∧ Exc [w4.heap.size] W0 wr) (fun i _ => (L + 1) - (intOf i).toNat)
  case atStart => exact ⟨0, Nat.zero_le _, rfl, by simp only [tchd_zero]; exact hK0, Exc.refl _ _⟩
  case round =>
    obtain ⟨k, hk, rfl, hK, hX⟩ := hrel
    have hsz := hX.size
    have hKl := hK.lt
    have hE : Blk wr w3.heap.size 62 #[.int .i64 X.lo.x, .int .i64 X.lo.y, .int .i64 X.lo.z, .int .i64 X.hi.x, .int .i64 X.hi.y, .int .i64 X.hi.z] := (hX.block _ (by omega) (by simp; omega)).trans HE0.out
    have x0 := hE.cell 0
    have x1 := hE.cell 1
    have x2 := hE.cell 2
    have x3 := hE.cell 3
    have x4 := hE.cell 4
    have x5 := hE.cell 5
    simp only [List.getElem?_toArray, List.getElem?_cons_zero, List.getElem?_cons_succ] at x0 x1 x2 x3 x4 x5
    have hEl := hE.lt
    by_cases hlt : k < L + 1
    · have hpg := HPG.out k (by omega)
      obtain ⟨c1, c2, c3⟩ := (hP0.below (hX.below (by omega) (by intro x hx; simp at hx; omega))).pts hpg
      have hin := HIN.out k (by omega)
      have HS := Lib.hid (fun j => tchd_succ X (S.path b) j hpg)
      have hbr : b4 < wr.heap.size := by omega
      have hki : (k : Int) < ((L + 1 : Nat) : Int) := by omega
      have hinn : (S.path b)[k]? = some (S.ptAt b k) := hpg
      clear hpg hinn
      generalize S.ptAt b k = P at *
      have g1 : decide (P.x < X.lo.x) = false := by simp; omega
      have g2 : decide (X.hi.x < P.x) = false := by simp; omega
      have g3 : decide (P.y < X.lo.y) = false := by simp; omega
      have g4 : decide (X.hi.y < P.y) = false := by simp; omega
      have g5 : decide (P.z < X.lo.z) = false := by simp; omega
      have g6 : decide (X.hi.z < P.z) = false := by simp; omega
      clear hin
      have i0 : ∀ W, (Instr.index 70 (.agg #[.int .i64 X.lo.x, .int .i64 P.x, .int .i64 X.hi.x, .int .i64 X.lo.y, .int .i64 P.y, .int .i64 X.hi.y, .int .i64 X.lo.z, .int .i64 P.z, .int .i64 X.hi.z]) (.int .i64 0)).run Try.prog W = .ok (.agg #[.int .i64 X.lo.x, .int .i64 P.x, .int .i64 X.hi.x]) W := fun _ => by kernel_rfl
      have i1 : ∀ W, (Instr.index 70 (.agg #[.int .i64 X.lo.x, .int .i64 P.x, .int .i64 X.hi.x, .int .i64 X.lo.y, .int .i64 P.y, .int .i64 X.hi.y, .int .i64 X.lo.z, .int .i64 P.z, .int .i64 X.hi.z]) (.int .i64 1)).run Try.prog W = .ok (.agg #[.int .i64 X.lo.y, .int .i64 P.y, .int .i64 X.hi.y]) W := fun _ => by kernel_rfl
      have i2 : ∀ W, (Instr.index 70 (.agg #[.int .i64 X.lo.x, .int .i64 P.x, .int .i64 X.hi.x, .int .i64 X.lo.y, .int .i64 P.y, .int .i64 X.hi.y, .int .i64 X.lo.z, .int .i64 P.z, .int .i64 X.hi.z]) (.int .i64 2)).run Try.prog W = .ok (.agg #[.int .i64 X.lo.z, .int .i64 P.z, .int .i64 X.hi.z]) W := fun _ => by kernel_rfl
      generalize hT0 : S.tchd X (S.path b) 0 k = t0 at *
      have HT0 := Lib.hid hT0
      clear hT0
      generalize hT1 : S.tchd X (S.path b) 1 k = t1 at *
      have HT1 := Lib.hid hT1
      clear hT1
      generalize hT2 : S.tchd X (S.path b) 2 k = t2 at *
      have HT2 := Lib.hid hT2
      clear hT2
      generalize hT3 : S.tchd X (S.path b) 3 k = t3 at *
      have HT3 := Lib.hid hT3
      clear hT3
      generalize hT4 : S.tchd X (S.path b) 4 k = t4 at *
      have HT4 := Lib.hid hT4
      clear hT4
      generalize hT5 : S.tchd X (S.path b) 5 k = t5 at *
      have HT5 := Lib.hid hT5
      clear hT5
      have hXa := hX.alloc (.cells #[.int .i64 P.x, .int .i64 P.y, .int .i64 P.z] 34)
      have hKa := hK.alloc (.cells #[.int .i64 P.x, .int .i64 P.y, .int .i64 P.z] 34)
      go_wp2
      go_loopw [76] (fun i wx => ∃ j : Nat, j ≤ 3 ∧ i = .int .i64 j ∧ Blk wx w4.heap.size 68 #[.bool (if 0 < j then (t0 || P.x == X.lo.x) else t0), .bool (if 1 < j then (t1 || P.y == X.lo.y) else t1), .bool (if 2 < j then (t2 || P.z == X.lo.z) else t2), .bool (if 0 < j then (t3 || P.x == X.hi.x) else t3), .bool (if 1 < j then (t4 || P.y == X.hi.y) else t4), .bool (if 2 < j then (t5 || P.z == X.hi.z) else t5)] ∧ Exc [w4.heap.size] W0 wx) (fun i _ => 3 - (intOf i).toNat)
      case atStart => exact ⟨0, by omega, rfl, by simpa using hKa, hXa⟩
      case round =>
        obtain ⟨j, hj, rfl, hKx, hXx⟩ := hrel
        have hKl2 := hKx.lt
        by_cases hj3 : j < 3
        · have hjc : j = 0 ∨ j = 1 ∨ j = 2 := by omega
          rcases hjc with rfl | rfl | rfl
          · simp only [Nat.lt_irrefl, Nat.not_lt_zero, Nat.reduceLT, if_true, if_false] at hKx
            have k0 := hKx.cell 0
            have f0 := hKx.frozen 0
            have k1 := hKx.cell 1
            have f1 := hKx.frozen 1
            have k2 := hKx.cell 2
            have f2 := hKx.frozen 2
            have k3 := hKx.cell 3
            have f3 := hKx.frozen 3
            have k4 := hKx.cell 4
            have f4 := hKx.frozen 4
            have k5 := hKx.cell 5
            have f5 := hKx.frozen 5
            simp only [List.getElem?_toArray, List.getElem?_cons_zero, List.getElem?_cons_succ] at k0 k1 k2 k3 k4 k5
            cases t0 <;> cases t3
            · have h6 := ((hKx.set 0 (.bool (P.x == X.lo.x))).set 3 (.bool (P.x == X.hi.x))).alloc (.cells #[.int .i64 X.lo.x, .int .i64 P.x, .int .i64 X.hi.x] 69)
              simp only [List.setIfInBounds_toArray, List.set_cons_zero, List.set_cons_succ] at h6
              have hX6 := ((hXx.set (p := ⟨w4.heap.size, 0, none⟩) (.inl (by simp)) (.bool (P.x == X.lo.x))).set (p := ⟨w4.heap.size, 3, none⟩) (.inl (by simp)) (.bool (P.x == X.hi.x))).alloc (.cells #[.int .i64 X.lo.x, .int .i64 P.x, .int .i64 X.hi.x] 69)
              go_wp2
              go_roundw
              case rel => exact ⟨1, by omega, by go_num, by simpa using h6, hX6⟩
              case measure => simp [intOf]
            · have h6 := ((hKx.set 0 (.bool (P.x == X.lo.x))).set 3 (.bool true)).alloc (.cells #[.int .i64 X.lo.x, .int .i64 P.x, .int .i64 X.hi.x] 69)
              simp only [List.setIfInBounds_toArray, List.set_cons_zero, List.set_cons_succ] at h6
              have hX6 := ((hXx.set (p := ⟨w4.heap.size, 0, none⟩) (.inl (by simp)) (.bool (P.x == X.lo.x))).set (p := ⟨w4.heap.size, 3, none⟩) (.inl (by simp)) (.bool true)).alloc (.cells #[.int .i64 X.lo.x, .int .i64 P.x, .int .i64 X.hi.x] 69)
              go_wp2
              go_roundw
              case rel => exact ⟨1, by omega, by go_num, by simpa using h6, hX6⟩
              case measure => simp [intOf]
            · have h6 := ((hKx.set 0 (.bool true)).set 3 (.bool (P.x == X.hi.x))).alloc (.cells #[.int .i64 X.lo.x, .int .i64 P.x, .int .i64 X.hi.x] 69)
              simp only [List.setIfInBounds_toArray, List.set_cons_zero, List.set_cons_succ] at h6
              have hX6 := ((hXx.set (p := ⟨w4.heap.size, 0, none⟩) (.inl (by simp)) (.bool true)).set (p := ⟨w4.heap.size, 3, none⟩) (.inl (by simp)) (.bool (P.x == X.hi.x))).alloc (.cells #[.int .i64 X.lo.x, .int .i64 P.x, .int .i64 X.hi.x] 69)
              go_wp2
              go_roundw
              case rel => exact ⟨1, by omega, by go_num, by simpa using h6, hX6⟩
              case measure => simp [intOf]
            · have h6 := ((hKx.set 0 (.bool true)).set 3 (.bool true)).alloc (.cells #[.int .i64 X.lo.x, .int .i64 P.x, .int .i64 X.hi.x] 69)
              simp only [List.setIfInBounds_toArray, List.set_cons_zero, List.set_cons_succ] at h6
              have hX6 := ((hXx.set (p := ⟨w4.heap.size, 0, none⟩) (.inl (by simp)) (.bool true)).set (p := ⟨w4.heap.size, 3, none⟩) (.inl (by simp)) (.bool true)).alloc (.cells #[.int .i64 X.lo.x, .int .i64 P.x, .int .i64 X.hi.x] 69)
              go_wp2
              go_roundw
              case rel => exact ⟨1, by omega, by go_num, by simpa using h6, hX6⟩
              case measure => simp [intOf]
          · simp only [Nat.lt_irrefl, Nat.not_lt_zero, Nat.reduceLT, if_true, if_false] at hKx
            have k0 := hKx.cell 0
            have f0 := hKx.frozen 0
            have k1 := hKx.cell 1
            have f1 := hKx.frozen 1
            have k2 := hKx.cell 2
            have f2 := hKx.frozen 2
            have k3 := hKx.cell 3
            have f3 := hKx.frozen 3
            have k4 := hKx.cell 4
            have f4 := hKx.frozen 4
            have k5 := hKx.cell 5
            have f5 := hKx.frozen 5
            simp only [List.getElem?_toArray, List.getElem?_cons_zero, List.getElem?_cons_succ] at k0 k1 k2 k3 k4 k5
            cases t1 <;> cases t4
            · have h6 := ((hKx.set 1 (.bool (P.y == X.lo.y))).set 4 (.bool (P.y == X.hi.y))).alloc (.cells #[.int .i64 X.lo.y, .int .i64 P.y, .int .i64 X.hi.y] 69)
              simp only [List.setIfInBounds_toArray, List.set_cons_zero, List.set_cons_succ] at h6
              have hX6 := ((hXx.set (p := ⟨w4.heap.size, 1, none⟩) (.inl (by simp)) (.bool (P.y == X.lo.y))).set (p := ⟨w4.heap.size, 4, none⟩) (.inl (by simp)) (.bool (P.y == X.hi.y))).alloc (.cells #[.int .i64 X.lo.y, .int .i64 P.y, .int .i64 X.hi.y] 69)
              go_wp2
              go_roundw
              case rel => exact ⟨2, by omega, by go_num, by simpa using h6, hX6⟩
              case measure => simp [intOf]
            · have h6 := ((hKx.set 1 (.bool (P.y == X.lo.y))).set 4 (.bool true)).alloc (.cells #[.int .i64 X.lo.y, .int .i64 P.y, .int .i64 X.hi.y] 69)
              simp only [List.setIfInBounds_toArray, List.set_cons_zero, List.set_cons_succ] at h6
              have hX6 := ((hXx.set (p := ⟨w4.heap.size, 1, none⟩) (.inl (by simp)) (.bool (P.y == X.lo.y))).set (p := ⟨w4.heap.size, 4, none⟩) (.inl (by simp)) (.bool true)).alloc (.cells #[.int .i64 X.lo.y, .int .i64 P.y, .int .i64 X.hi.y] 69)
              go_wp2
              go_roundw
              case rel => exact ⟨2, by omega, by go_num, by simpa using h6, hX6⟩
              case measure => simp [intOf]
            · have h6 := ((hKx.set 1 (.bool true)).set 4 (.bool (P.y == X.hi.y))).alloc (.cells #[.int .i64 X.lo.y, .int .i64 P.y, .int .i64 X.hi.y] 69)
              simp only [List.setIfInBounds_toArray, List.set_cons_zero, List.set_cons_succ] at h6
              have hX6 := ((hXx.set (p := ⟨w4.heap.size, 1, none⟩) (.inl (by simp)) (.bool true)).set (p := ⟨w4.heap.size, 4, none⟩) (.inl (by simp)) (.bool (P.y == X.hi.y))).alloc (.cells #[.int .i64 X.lo.y, .int .i64 P.y, .int .i64 X.hi.y] 69)
              go_wp2
              go_roundw
              case rel => exact ⟨2, by omega, by go_num, by simpa using h6, hX6⟩
              case measure => simp [intOf]
            · have h6 := ((hKx.set 1 (.bool true)).set 4 (.bool true)).alloc (.cells #[.int .i64 X.lo.y, .int .i64 P.y, .int .i64 X.hi.y] 69)
              simp only [List.setIfInBounds_toArray, List.set_cons_zero, List.set_cons_succ] at h6
              have hX6 := ((hXx.set (p := ⟨w4.heap.size, 1, none⟩) (.inl (by simp)) (.bool true)).set (p := ⟨w4.heap.size, 4, none⟩) (.inl (by simp)) (.bool true)).alloc (.cells #[.int .i64 X.lo.y, .int .i64 P.y, .int .i64 X.hi.y] 69)
              go_wp2
              go_roundw
              case rel => exact ⟨2, by omega, by go_num, by simpa using h6, hX6⟩
              case measure => simp [intOf]
          · simp only [Nat.lt_irrefl, Nat.not_lt_zero, Nat.reduceLT, if_true, if_false] at hKx
            have k0 := hKx.cell 0
            have f0 := hKx.frozen 0
            have k1 := hKx.cell 1
            have f1 := hKx.frozen 1
            have k2 := hKx.cell 2
            have f2 := hKx.frozen 2
            have k3 := hKx.cell 3
            have f3 := hKx.frozen 3
            have k4 := hKx.cell 4
            have f4 := hKx.frozen 4
            have k5 := hKx.cell 5
            have f5 := hKx.frozen 5
            simp only [List.getElem?_toArray, List.getElem?_cons_zero, List.getElem?_cons_succ] at k0 k1 k2 k3 k4 k5
            cases t2 <;> cases t5
            · have h6 := ((hKx.set 2 (.bool (P.z == X.lo.z))).set 5 (.bool (P.z == X.hi.z))).alloc (.cells #[.int .i64 X.lo.z, .int .i64 P.z, .int .i64 X.hi.z] 69)
              simp only [List.setIfInBounds_toArray, List.set_cons_zero, List.set_cons_succ] at h6
              have hX6 := ((hXx.set (p := ⟨w4.heap.size, 2, none⟩) (.inl (by simp)) (.bool (P.z == X.lo.z))).set (p := ⟨w4.heap.size, 5, none⟩) (.inl (by simp)) (.bool (P.z == X.hi.z))).alloc (.cells #[.int .i64 X.lo.z, .int .i64 P.z, .int .i64 X.hi.z] 69)
              go_wp2
              go_roundw
              case rel => exact ⟨3, by omega, by go_num, by simpa using h6, hX6⟩
              case measure => simp [intOf]
            · have h6 := ((hKx.set 2 (.bool (P.z == X.lo.z))).set 5 (.bool true)).alloc (.cells #[.int .i64 X.lo.z, .int .i64 P.z, .int .i64 X.hi.z] 69)
              simp only [List.setIfInBounds_toArray, List.set_cons_zero, List.set_cons_succ] at h6
              have hX6 := ((hXx.set (p := ⟨w4.heap.size, 2, none⟩) (.inl (by simp)) (.bool (P.z == X.lo.z))).set (p := ⟨w4.heap.size, 5, none⟩) (.inl (by simp)) (.bool true)).alloc (.cells #[.int .i64 X.lo.z, .int .i64 P.z, .int .i64 X.hi.z] 69)
              go_wp2
              go_roundw
              case rel => exact ⟨3, by omega, by go_num, by simpa using h6, hX6⟩
              case measure => simp [intOf]
            · have h6 := ((hKx.set 2 (.bool true)).set 5 (.bool (P.z == X.hi.z))).alloc (.cells #[.int .i64 X.lo.z, .int .i64 P.z, .int .i64 X.hi.z] 69)
              simp only [List.setIfInBounds_toArray, List.set_cons_zero, List.set_cons_succ] at h6
              have hX6 := ((hXx.set (p := ⟨w4.heap.size, 2, none⟩) (.inl (by simp)) (.bool true)).set (p := ⟨w4.heap.size, 5, none⟩) (.inl (by simp)) (.bool (P.z == X.hi.z))).alloc (.cells #[.int .i64 X.lo.z, .int .i64 P.z, .int .i64 X.hi.z] 69)
              go_wp2
              go_roundw
              case rel => exact ⟨3, by omega, by go_num, by simpa using h6, hX6⟩
              case measure => simp [intOf]
            · have h6 := ((hKx.set 2 (.bool true)).set 5 (.bool true)).alloc (.cells #[.int .i64 X.lo.z, .int .i64 P.z, .int .i64 X.hi.z] 69)
              simp only [List.setIfInBounds_toArray, List.set_cons_zero, List.set_cons_succ] at h6
              have hX6 := ((hXx.set (p := ⟨w4.heap.size, 2, none⟩) (.inl (by simp)) (.bool true)).set (p := ⟨w4.heap.size, 5, none⟩) (.inl (by simp)) (.bool true)).alloc (.cells #[.int .i64 X.lo.z, .int .i64 P.z, .int .i64 X.hi.z] 69)
              go_wp2
              go_roundw
              case rel => exact ⟨3, by omega, by go_num, by simpa using h6, hX6⟩
              case measure => simp [intOf]
        · obtain rfl : j = 3 := by omega
          simp only [Nat.reduceLT, if_true] at hKx
          go_wp2
          go_roundw
          case rel =>
            refine ⟨k + 1, by omega, by go_num, ?_, hXx⟩
            rw [HS.out 0, HS.out 1, HS.out 2, HS.out 3, HS.out 4, HS.out 5]
            rw [HT0.out, HT1.out, HT2.out, HT3.out, HT4.out, HT5.out]
            simpa [S.tch] using hKx
          case measure => simp [intOf]; omega
    · obtain rfl : k = L + 1 := by omega
      rw [HTC.out 0 (by omega), HTC.out 1 (by omega), HTC.out 2 (by omega), HTC.out 3 (by omega), HTC.out 4 (by omega), HTC.out 5 (by omega)] at hK
      have hct : ∀ j, j < 6 → wr.cell? ⟨w4.heap.size, j, none⟩ = some (.bool true) := fun j hj => by
        rw [hK.cell]
        have : j = 0 ∨ j = 1 ∨ j = 2 ∨ j = 3 ∨ j = 4 ∨ j = 5 := by omega
        rcases this with rfl | rfl | rfl | rfl | rfl | rfl <;> rfl
      have HCT := Lib.hid hct
      clear hct
      go_wp2_with (go_at_call 56; (with_reducible refine (bcontains_true w4.heap.size 6 6 _ (by omega) HCT.out).mono ?_); rintro e w' ⟨rfl, rfl⟩)
      go_ret
      exact ⟨rfl, hW.trans (hX.below (by omega) (by intro x hx; simp at hx; omega))⟩
theorem boxes_walk (b : Bar) (A : Option Addr) (n c : Nat) (w : World) (hA : BarAt w w.heap.size A n b) :
    Calls Try.prog 13 #[barV b A n c] w fun e w' => e = .returned (.bool true) ∧ Below w.heap.size w w' := by
  cases hs : S.short b
  · exact boxes_long b A n c _ w (Nat.le_refl _) hA hs
  · cases h : S.bar b
    · exact boxes_no b A n c _ w (Nat.le_refl _) hA hs h
    · exact boxes_yes b A n c _ w (Nat.le_refl _) hA hs h
end Go.Proofs.Ytpjdepnbeendcaa
