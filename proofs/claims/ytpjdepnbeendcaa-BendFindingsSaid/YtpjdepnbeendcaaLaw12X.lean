/- The walk of ShapeWalks, where the bar is valid. -/
import Derived.Test.YtpjdepnbeendcaaLaw12W
set_option linter.unusedVariables false
set_option linter.unusedSimpArgs false
namespace Go.Proofs.Ytpjdepnbeendcaa
open Go.RowKit
set_option maxRecDepth 100000 in
set_option maxHeartbeats 4000000 in
theorem walks_yes (b : Bar) (A : Option Addr) (n c : Nat) (B : Nat) (w : World) (hB : B ≤ w.heap.size) (hA : BarAt w B A n b) (hs : S.short b = true) (h : S.bar b = true) :
    Calls Try.prog 3 #[barV b A n c] w fun e w' => e = .returned (.bool true) ∧ Below w.heap.size w w' := by
  have hln := hA.len
  have hmx := hA.max
  have hmk := hA.mark
  have HA := Lib.hid hA
  clear hA
  obtain ⟨hsum, hl1⟩ := legs_sum h
  have hl6 := legs_len b.code
  have HSUM := Lib.hid hsum
  have HPOS := Lib.hid (lens_pos h)
  clear hsum
  unfold barV
  generalize hL : (S.legsOf b.code).length = L at *
  have HL := Lib.hid hL
  clear hL
  have hLi : 1 ≤ (L : Int) ∧ (L : Int) ≤ 6 := by omega
  have hL0 : ((L : Int) == 0) = false := by simp; omega
  go_enter Try.func3, Try.ntmps3
  go_wp2_with (first
    | (go_at_call 17; (with_reducible refine (awake12_any _).mono ?_); rintro e w1 ⟨rfl, hbw1⟩; obtain ⟨hcw1, hfw1⟩ := bcell hbw1; have hzw1_0 : w.heap.size < w1.heap.size := lt_via hbw1 (by first | omega | (simp; done) | (simp; omega)))
    | (go_at_call 18; (with_reducible refine (short_any b A n c _ hln hmx hmk).mono ?_); rintro e w2 ⟨rfl, hbw2⟩; obtain ⟨hcw2, hfw2⟩ := bcell hbw2; have hzw2_0 : w.heap.size < w2.heap.size := lt_via hbw2 (by first | omega | (simp; done) | (simp; omega)))
    | (go_at_call 19; (with_reducible refine (legs_yesL b A n c B _ L HL.out (by omega) (BarAt.at_ HA.out hB (by repeat (first | exact Below.refl _ _ | assumption | refine ba_alloc ?_ _ | refine ba_drew ?_ | refine ba_drewN ?_ _ | refine ba_via (by assumption) ?_ | (refine ba_set ?_ ?_ _; rotate_left; (first | omega | (simp; omega) | simp))))) h).mono ?_); rintro e w3 ⟨Aw3, cw3, rfl, how3, hbw3⟩; obtain ⟨hcw3, hfw3⟩ := bcell hbw3; have hzw3_0 : w.heap.size < w3.heap.size := lt_via hbw3 (by first | omega | (simp; done) | (simp; omega)))
    | ((go_at_call 20; (with_reducible refine (path_yesL b A n c B _ L HL.out (by omega) (BarAt.at_ HA.out hB (by repeat (first | exact Below.refl _ _ | assumption | refine ba_alloc ?_ _ | refine ba_drew ?_ | refine ba_drewN ?_ _ | refine ba_via (by assumption) ?_ | (refine ba_set ?_ ?_ _; rotate_left; (first | omega | (simp; omega) | simp))))) h).mono ?_); rintro e w4 ⟨Aw4, cw4, rfl, how4, hbw4⟩; obtain ⟨hcw4, hfw4⟩ := bcell hbw4; have hzw4_0 : w.heap.size < w4.heap.size := lt_via hbw4 (by first | omega | (simp; done) | (simp; omega)))
       obtain ⟨hs4, _, _⟩ := own_cells how4
       obtain ⟨b4, o4, rfl, hb4, _⟩ := hs4.at_ (by rw [flat_len ptC 3 ptC_len, path_length]; omega)
       obtain ⟨hs3, _, _⟩ := own_cells how3
       have hs3' := hs3.below hbw4
       obtain ⟨b3, o3, rfl, hb3, _⟩ := hs3'.at_ (by simp [S.legLens]; have := HL.out; omega)
       obtain ⟨p0x, p0y, p0z⟩ := hs4.pts (path_get b (Nat.zero_le _))
       simp only [S.ptAt, Nat.zero_mul, Nat.add_zero] at p0x p0y p0z
       have hbw : Below w.heap.size w w4 := (by repeat (first | exact Below.refl _ _ | assumption | refine ba_alloc ?_ _ | refine ba_drew ?_ | refine ba_drewN ?_ _ | refine ba_via (by assumption) ?_ | (refine ba_set ?_ ?_ _; rotate_left; (first | omega | (simp; omega) | simp))))
       have hp1 : (0 : Int) < ((L + 1 : Nat) : Int) := by omega))
  go_loopw [7, 8, 67] (fun v7 v8 i wr => ∃ k : Nat, k ≤ L ∧ i = .int .i64 k ∧ v7 = .int .i64 (S.lastAx (S.legsOf b.code) k) ∧ v8 = .int .i64 (S.sum ((S.legLens b).take k)) ∧ Below w4.heap.size w4 wr) (fun _ _ i _ => L - (intOf i).toNat)
  case atStart => exact ⟨0, Nat.zero_le _, rfl, rfl, rfl, Below.refl _ _⟩
  case round =>
    obtain ⟨k, hk, rfl, rfl, rfl, hbr⟩ := hrel
    have hsk := sum_take_le HPOS.out k
    have hsn := sum_nonneg (l := (S.legLens b).take k) (fun x hx => HPOS.out x (List.mem_of_mem_take hx))
    have hsm := HSUM.out
    have hb0 : 0 ≤ S.sum ((S.legLens b).take k) ∧ S.sum ((S.legLens b).take k) ≤ 524288 := by omega
    clear hsk hsn hsm
    by_cases hlt : k < L
    · have hkL : k < (S.legsOf b.code).length := by have := HL.out; omega
      obtain ⟨m, g1, g2, m1, m2, hst⟩ := lens_get b h hkL
      have hsz := hbr.size
      have hs43 := hbw4.size
      have hb4r : b4 < wr.heap.size := by omega
      have hb3r : b3 < wr.heap.size := by omega
      have e1 := (hbr.cell (p := ⟨b3, o3 + k, none⟩) (by show b3 < _; omega)).trans (hs3'.get g1)
      obtain ⟨px, py, pz⟩ := hs4.pts (path_get b (k := k) (by omega))
      obtain ⟨qx, qy, qz⟩ := hs4.pts (path_get b (k := k + 1) (by omega))
      replace px := (hbr.cell (p := ⟨b4, o4 + k * 3, none⟩) hb4).trans px
      replace py := (hbr.cell (p := ⟨b4, o4 + k * 3 + 1, none⟩) hb4).trans py
      replace pz := (hbr.cell (p := ⟨b4, o4 + k * 3 + 2, none⟩) hb4).trans pz
      replace qx := (hbr.cell (p := ⟨b4, o4 + (k + 1) * 3, none⟩) hb4).trans qx
      replace qy := (hbr.cell (p := ⟨b4, o4 + (k + 1) * 3 + 1, none⟩) hb4).trans qy
      replace qz := (hbr.cell (p := ⟨b4, o4 + (k + 1) * 3 + 2, none⟩) hb4).trans qz
      have hway := Lib.hid (legs_way b.code hkL)
      obtain ⟨t1, t2⟩ := legs_turn b.code hkL
      have t1' : (S.axis (S.legsOf b.code)[k].2 == S.lastAx (S.legsOf b.code) k) = false := by simpa using fun h => t1 h.symm
      have t2' : (S.axis (S.legsOf b.code)[k].2 == 0) = false := by simpa using t2
      have HLA := Lib.hid (lastAx_succ (S.legsOf b.code) hkL)
      have HSS := Lib.hid (sum_take_snoc g2)
      have hok : S.dimsOk b.dims = true := by simp only [S.bar, Bool.and_eq_true] at h; exact h.2
      have hwi := ptAt_bd b hok (fun k hk => by have := legs_dim b.code hk; have := bar_head h; omega) k
      have hwi' := Lib.hid (show Within (S.ptAt b k) 8000000 by unfold Within at hwi ⊢; omega)
      have w1' : IntKind.i64.wrap ((k : Int) + 1) = (k : Int) + 1 := IntWalk.i64_in _ (by omega)
      have w2' : ((k : Int) + 1).toNat = k + 1 := by omega
      have w3' : 0 ≤ (k : Int) + 1 := by omega
      have w4' : (k : Int) + 1 < ((L + 1 : Nat) : Int) := by omega
      have w5' : (k : Int) < ((L + 1 : Nat) : Int) := by omega
      have HST := Lib.hid hst
      clear t1 t2 hst hwi hok g1 g2 hp1
      generalize hp : S.ptAt b k = p at *
      generalize hq : S.ptAt b (k + 1) = q at *
      generalize hy : (S.legsOf b.code)[k].2 = y at *
      clear hp hq hy
      go_wp2
      refine wp_region_grow (by kernel_rfl) (by kernel_rfl) ?_
      repeat (go_big_quiet_step ((go_at_call 22; exact grow_of (along_step p q y m _ HST.out hway.out hwi'.out m1 m2))))
      all_goals (refine wpQuiet_nil ?_; intro wg hbwg; obtain ⟨hcwg, hfwg⟩ := bcell hbwg)
      go_wp2
      go_roundw
      case rel => exact ⟨k + 1, by omega, by go_num, by rw [HLA.out], vint (by rw [HSS.out]), (by repeat (first | exact Below.refl _ _ | assumption | refine ba_alloc ?_ _ | refine ba_drew ?_ | refine ba_drewN ?_ _ | refine ba_via (by assumption) ?_ | (refine ba_set ?_ ?_ _; rotate_left; (first | omega | (simp; omega) | simp))))⟩
      case measure => simp [intOf]; omega
    · go_wp2
      go_ret
      exact ⟨ret_b (by simp; omega), (by repeat (first | exact Below.refl _ _ | assumption | refine ba_alloc ?_ _ | refine ba_drew ?_ | refine ba_drewN ?_ _ | refine ba_via (by assumption) ?_ | (refine ba_set ?_ ?_ _; rotate_left; (first | omega | (simp; omega) | simp))))⟩
end Go.Proofs.Ytpjdepnbeendcaa
